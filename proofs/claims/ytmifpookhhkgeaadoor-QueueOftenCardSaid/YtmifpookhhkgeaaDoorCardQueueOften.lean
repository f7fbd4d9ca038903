/- The card of QueueOften, tied to the program's text. -/
import Derived.Test.YtmifpookhhkgeaaDoorLawQueueOften
import Derived.Test.YtmifpookhhkgeaaDoorCards
import Derived.Test.YtmifpookhhkgeaaDoorTie
import Derived.SevenTiedAt
namespace Go.Proofs.YtmifpookhhkgeaaDoor
open Go
/-- The card. -/
theorem queueOften_card : Rows.QueueOftenCardSaid :=
  Claim7.holds_tied_plain_at .later [] _ _ _ _
    queueOften_holds (fun _ h => by cases h) (by kernel_rfl) (fun _ h => by cases h) queueOften_row_tie rfl ⟨rfl, rfl⟩ (by kernel_rfl) rfl
    (fun f fn hf hfn => by
      obtain rfl : f = 3 := Option.some.inj ((show Tryd.prog.funcNamed Tryd.f3.name = some 3 by kernel_rfl).symm.trans hf) |>.symm
      obtain rfl : fn = Tryd.f3 := (Option.some.inj (Tryd.func3.symm.trans hfn)).symm
      refine ⟨by kernel_rfl, fun j t ht => ?_⟩
      rw [Tryd.params3] at ht
      have h3 : t = 5 := by
        rcases j with _ | _ | j
        · have h : 5 = t := by simpa using ht
          exact h.symm
        · have h : 5 = t := by simpa using ht
          exact h.symm
        · simp at ht
      rcases h3 with rfl
      · exact (show Tryd.prog.wantsStandIn 5 = false by kernel_rfl))
    (by kernel_rfl)
#print axioms queueOften_card
end Go.Proofs.YtmifpookhhkgeaaDoor
