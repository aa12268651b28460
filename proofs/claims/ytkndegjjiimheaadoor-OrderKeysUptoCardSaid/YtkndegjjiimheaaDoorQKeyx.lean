-- Written by the kit's print.py at this session's call, over functions of my choice (no statement's print; not a text of print.sh)
import Derived.Test.YtkndegjjiimheaaDoorQKeyx0
import Derived.Test.YtkndegjjiimheaaDoorQKeyx1
import Derived.Test.YtkndegjjiimheaaDoorQKeyx2
import Derived.Test.YtkndegjjiimheaaDoorQKeyx3
import Derived.Test.YtkndegjjiimheaaDoorQKeyx4
import Derived.Test.YtkndegjjiimheaaDoorQKeyx5
import Derived.Test.YtkndegjjiimheaaDoorQKeyx6
import Derived.Test.YtkndegjjiimheaaDoorQKeyx7
import Derived.Test.YtkndegjjiimheaaDoorQKeyx8
namespace Go.Proofs.YtkndegjjiimheaaDoor.QKey
open Go.RowKit Go.Proofs.YtkndegjjiimheaaDoorW.PrintWords Go.Proofs.YtkndegjjiimheaaDoorW.PrintLast Go.Proofs.YtkndegjjiimheaaDoorW.PrintMore
attribute [local go_sem] max2_int min2_int max_two min_two max_three min_three max_four min_four   -- for this text's walks alone
set_option linter.unusedVariables false
set_option linter.unusedSimpArgs false

end Go.Proofs.YtkndegjjiimheaaDoor.QKey
