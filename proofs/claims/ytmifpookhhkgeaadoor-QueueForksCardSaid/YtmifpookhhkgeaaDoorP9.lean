-- Told by a program of this session out of the seat's translation.
import Derived.Test.YtmifpookhhkgeaaDoorP0
namespace Go.Proofs.YtmifpookhhkgeaaDoor.P
open Go.RowKit Go.Proofs.YtmifpookhhkgeaaDoorW.PrintWords Go.Proofs.YtmifpookhhkgeaaDoorW.PrintLast Go.Proofs.YtmifpookhhkgeaaDoorW.PrintMore
attribute [local go_sem] max2_int min2_int max_two min_two max_three min_three max_four min_four   -- for this text's walks alone
set_option linter.unusedVariables false
set_option linter.unusedSimpArgs false

-- NOT PRINTED: function 15 (watchfirelaw14_do)

-- NOT PRINTED: function 31 (queue_Item_31)

-- NOT PRINTED: function 16 (queue_Queue_List)

-- NOT PRINTED: function 4 (watchfirelaw14_QueueRoom)

-- NOT PRINTED: function 5 (watchfirelaw14_QueueLeast)

-- NOT PRINTED: function 18 (watchfirelaw14_same)

-- NOT PRINTED: function 6 (watchfirelaw14_QueuePlays)

-- NOT PRINTED: function 21 (queue_Queue_Fork)

-- NOT PRINTED: function 7 (watchfirelaw14_QueueForks)

end Go.Proofs.YtmifpookhhkgeaaDoor.P
