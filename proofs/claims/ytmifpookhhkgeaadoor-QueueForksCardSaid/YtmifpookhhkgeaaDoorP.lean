-- Told by a program of this session out of the seat's translation.
import Derived.Test.YtmifpookhhkgeaaDoorP0
import Derived.Test.YtmifpookhhkgeaaDoorP1
import Derived.Test.YtmifpookhhkgeaaDoorP2
import Derived.Test.YtmifpookhhkgeaaDoorP3
import Derived.Test.YtmifpookhhkgeaaDoorP4
import Derived.Test.YtmifpookhhkgeaaDoorP5
import Derived.Test.YtmifpookhhkgeaaDoorP6
import Derived.Test.YtmifpookhhkgeaaDoorP7
import Derived.Test.YtmifpookhhkgeaaDoorP8
import Derived.Test.YtmifpookhhkgeaaDoorP9
namespace Go.Proofs.YtmifpookhhkgeaaDoor.P
open Go.RowKit Go.Proofs.YtmifpookhhkgeaaDoorW.PrintWords Go.Proofs.YtmifpookhhkgeaaDoorW.PrintLast Go.Proofs.YtmifpookhhkgeaaDoorW.PrintMore
attribute [local go_sem] max2_int min2_int max_two min_two max_three min_three max_four min_four   -- for this text's walks alone
set_option linter.unusedVariables false
set_option linter.unusedSimpArgs false

end Go.Proofs.YtmifpookhhkgeaaDoor.P
