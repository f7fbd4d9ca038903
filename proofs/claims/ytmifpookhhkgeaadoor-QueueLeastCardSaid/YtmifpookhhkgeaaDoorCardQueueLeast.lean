/- The card of QueueLeast, tied to the program's text. -/
import Derived.Test.YtmifpookhhkgeaaDoorLawQueueLeast
import Derived.Test.YtmifpookhhkgeaaDoorCards
import Derived.Test.YtmifpookhhkgeaaDoorTie
import Derived.SevenTiedAt
namespace Go.Proofs.YtmifpookhhkgeaaDoor
open Go
/-- The card. -/
theorem queueLeast_card : Rows.QueueLeastCardSaid :=
  Claim7.holds_tied_plain_at .later [] _ _ _ _
    queueLeast_holds (fun _ h => by cases h) (by kernel_rfl) (fun _ h => by cases h) queueLeast_row_tie rfl ⟨rfl, rfl⟩ (by kernel_rfl) rfl
    (fun f fn hf hfn => by
      obtain rfl : f = 5 := Option.some.inj ((show Tryd.prog.funcNamed Tryd.f5.name = some 5 by kernel_rfl).symm.trans hf) |>.symm
      obtain rfl : fn = Tryd.f5 := (Option.some.inj (Tryd.func5.symm.trans hfn)).symm
      refine ⟨by kernel_rfl, fun j t ht => ?_⟩
      rw [Tryd.params5] at ht
      have h3 : t = 35 := by
        rcases j with _ | j
        · have h : 35 = t := by simpa using ht
          exact h.symm
        · simp at ht
      rcases h3 with rfl
      · exact (show Tryd.prog.wantsStandIn 35 = false by kernel_rfl))
    (by kernel_rfl)
#print axioms queueLeast_card
end Go.Proofs.YtmifpookhhkgeaaDoor
