-- Written by the kit's print.py at this session's call, over functions of my choice (no statement's print; not a text of print.sh)
import Derived.Test.YtgbphkckiekehaaDoorQRefx0
import Derived.Test.YtgbphkckiekehaaDoorQRefx1
import Derived.Test.YtgbphkckiekehaaDoorQRefx2
import Derived.Test.YtgbphkckiekehaaDoorQRefx3
import Derived.Test.YtgbphkckiekehaaDoorQRefx4
import Derived.Test.YtgbphkckiekehaaDoorQRefx5
import Derived.Test.YtgbphkckiekehaaDoorQRefx6
import Derived.Test.YtgbphkckiekehaaDoorQRefx7
import Derived.Test.YtgbphkckiekehaaDoorQRefx8
import Derived.Test.YtgbphkckiekehaaDoorQRefx9
import Derived.Test.YtgbphkckiekehaaDoorQRefx10
namespace Go.Proofs.YtgbphkckiekehaaDoor.QRef
open Go.RowKit Go.Proofs.YtgbphkckiekehaaDoorW.PrintWords Go.Proofs.YtgbphkckiekehaaDoorW.PrintLast
set_option linter.unusedVariables false
set_option linter.unusedSimpArgs false

end Go.Proofs.YtgbphkckiekehaaDoor.QRef
