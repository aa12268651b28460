-- Written by the kit's print.py at this session's call, over functions of my choice (no statement's print; not a text of print.sh)
import Derived.Test.YtgbphkckiekehaaQKindsx0
import Derived.Test.YtgbphkckiekehaaQKindsx1
import Derived.Test.YtgbphkckiekehaaQKindsx2
import Derived.Test.YtgbphkckiekehaaQKindsx3
import Derived.Test.YtgbphkckiekehaaQKindsx4
import Derived.Test.YtgbphkckiekehaaQKindsx5
namespace Go.Proofs.Ytgbphkckiekehaa.QKinds
open Go.RowKit Go.Proofs.YtgbphkckiekehaaW.PrintWords Go.Proofs.YtgbphkckiekehaaW.PrintLast Go.Proofs.YtgbphkckiekehaaW.PrintMore
attribute [local go_sem] max2_int min2_int max_two min_two max_three min_three max_four min_four   -- for this text's walks alone
set_option linter.unusedVariables false
set_option linter.unusedSimpArgs false

end Go.Proofs.Ytgbphkckiekehaa.QKinds
