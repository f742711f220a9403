-- Written for this claim by a program of this session (wip/xprint.py) over the translation.
import Derived.Test.YtabimfpjdcggaaaDoorXx0
import Derived.Test.YtabimfpjdcggaaaDoorXx1
import Derived.Test.YtabimfpjdcggaaaDoorXx2
import Derived.Test.YtabimfpjdcggaaaDoorXx3
import Derived.Test.YtabimfpjdcggaaaDoorXx4
import Derived.Test.YtabimfpjdcggaaaDoorXx5
import Derived.Test.YtabimfpjdcggaaaDoorXx6
import Derived.Test.YtabimfpjdcggaaaDoorXx7
import Derived.Test.YtabimfpjdcggaaaDoorXx8
import Derived.Test.YtabimfpjdcggaaaDoorXx9
namespace Go.Proofs.YtabimfpjdcggaaaDoor.X
open Go.RowKit Go.Proofs.YtabimfpjdcggaaaDoorW.PrintWords Go.Proofs.YtabimfpjdcggaaaDoorW.PrintLast Go.Proofs.YtabimfpjdcggaaaDoorW.PrintMore
attribute [local go_sem] max2_int min2_int max_two min_two max_three min_three max_four min_four XBase.setCell_drewN   -- for this text's walks alone
set_option linter.unusedVariables false
set_option linter.unusedSimpArgs false

end Go.Proofs.YtabimfpjdcggaaaDoor.X
