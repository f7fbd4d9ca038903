/- The card of QueueForks, tied to the program's text. -/
import Derived.Test.YtmifpookhhkgeaaDoorLawQueueForks
import Derived.Test.YtmifpookhhkgeaaDoorCards
import Derived.Test.YtmifpookhhkgeaaDoorTie
import Derived.SevenTiedAt
namespace Go.Proofs.YtmifpookhhkgeaaDoor
open Go
/-- The card. -/
theorem queueForks_card : Rows.QueueForksCardSaid :=
  Claim7.holds_tied_plain_at .later [] _ _ _ _
    queueForks_holds (fun _ h => by cases h) (by kernel_rfl) (fun _ h => by cases h) queueForks_row_tie rfl ⟨rfl, rfl⟩ (by kernel_rfl) rfl
    (fun f fn hf hfn => by
      obtain rfl : f = 7 := Option.some.inj ((show Tryd.prog.funcNamed Tryd.f7.name = some 7 by kernel_rfl).symm.trans hf) |>.symm
      obtain rfl : fn = Tryd.f7 := (Option.some.inj (Tryd.func7.symm.trans hfn)).symm
      refine ⟨by kernel_rfl, fun j t ht => ?_⟩
      rw [Tryd.params7] at ht
      have h3 : t = 35 := by
        rcases j with _ | _ | j
        · have h : 35 = t := by simpa using ht
          exact h.symm
        · have h : 35 = t := by simpa using ht
          exact h.symm
        · simp at ht
      rcases h3 with rfl
      · exact (show Tryd.prog.wantsStandIn 35 = false by kernel_rfl))
    (by kernel_rfl)
#print axioms queueForks_card
end Go.Proofs.YtmifpookhhkgeaaDoor
