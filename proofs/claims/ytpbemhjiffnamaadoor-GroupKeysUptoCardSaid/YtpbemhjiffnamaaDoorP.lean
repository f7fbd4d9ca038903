-- Told by a program of this session out of the seat's translation.
import Derived.Test.YtpbemhjiffnamaaDoorP0
import Derived.Test.YtpbemhjiffnamaaDoorP1
import Derived.Test.YtpbemhjiffnamaaDoorP2
namespace Go.Proofs.YtpbemhjiffnamaaDoor.P
open Go.RowKit Go.Proofs.YtpbemhjiffnamaaDoorW.PrintWords Go.Proofs.YtpbemhjiffnamaaDoorW.PrintLast Go.Proofs.YtpbemhjiffnamaaDoorW.PrintMore
attribute [local go_sem] max2_int min2_int max_two min_two max_three min_three max_four min_four   -- for this text's walks alone
set_option linter.unusedVariables false
set_option linter.unusedSimpArgs false

open Go.Proofs.YtpbemhjiffnamaaDoor.G
end Go.Proofs.YtpbemhjiffnamaaDoor.P
