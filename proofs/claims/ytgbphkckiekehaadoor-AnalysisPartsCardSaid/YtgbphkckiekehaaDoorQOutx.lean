-- Written by the kit's print.py at this session's call, over functions of my choice (no statement's print; not a text of print.sh)
import Derived.Test.YtgbphkckiekehaaDoorQOutx0
import Derived.Test.YtgbphkckiekehaaDoorQOutx1
import Derived.Test.YtgbphkckiekehaaDoorQOutx2
import Derived.Test.YtgbphkckiekehaaDoorQOutx3
import Derived.Test.YtgbphkckiekehaaDoorQOutx4
import Derived.Test.YtgbphkckiekehaaDoorQOutx5
import Derived.Test.YtgbphkckiekehaaDoorQOutx6
import Derived.Test.YtgbphkckiekehaaDoorQOutx7
namespace Go.Proofs.YtgbphkckiekehaaDoor.QOut
open Go.RowKit Go.Proofs.YtgbphkckiekehaaDoorW.PrintWords Go.Proofs.YtgbphkckiekehaaDoorW.PrintLast Go.Proofs.YtgbphkckiekehaaDoorW.PrintMore
attribute [local go_sem] max2_int min2_int max_two min_two max_three min_three max_four min_four   -- for this text's walks alone
set_option linter.unusedVariables false
set_option linter.unusedSimpArgs false

end Go.Proofs.YtgbphkckiekehaaDoor.QOut
