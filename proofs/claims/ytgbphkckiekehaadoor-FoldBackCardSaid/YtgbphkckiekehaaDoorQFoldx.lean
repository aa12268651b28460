-- Written by the kit's print.py at this session's call, over functions of my choice (no statement's print; not a text of print.sh)
import Derived.Test.YtgbphkckiekehaaDoorQFoldx0
import Derived.Test.YtgbphkckiekehaaDoorQFoldx1
import Derived.Test.YtgbphkckiekehaaDoorQFoldx2
import Derived.Test.YtgbphkckiekehaaDoorQFoldx3
import Derived.Test.YtgbphkckiekehaaDoorQFoldx4
import Derived.Test.YtgbphkckiekehaaDoorQFoldx5
import Derived.Test.YtgbphkckiekehaaDoorQFoldx6
namespace Go.Proofs.YtgbphkckiekehaaDoor.QFold
open Go.RowKit Go.Proofs.YtgbphkckiekehaaDoorW.PrintWords Go.Proofs.YtgbphkckiekehaaDoorW.PrintLast Go.Proofs.YtgbphkckiekehaaDoorW.PrintMore
attribute [local go_sem] max2_int min2_int max_two min_two max_three min_three max_four min_four   -- for this text's walks alone
set_option linter.unusedVariables false
set_option linter.unusedSimpArgs false

end Go.Proofs.YtgbphkckiekehaaDoor.QFold
