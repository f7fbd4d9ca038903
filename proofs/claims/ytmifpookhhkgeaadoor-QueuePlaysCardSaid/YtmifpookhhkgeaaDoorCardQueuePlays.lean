/- The card of QueuePlays, tied to the program's text. -/
import Derived.Test.YtmifpookhhkgeaaDoorLawQueuePlays
import Derived.Test.YtmifpookhhkgeaaDoorCards
import Derived.Test.YtmifpookhhkgeaaDoorTie
import Derived.SevenTiedAt
namespace Go.Proofs.YtmifpookhhkgeaaDoor
open Go
/-- The card. -/
theorem queuePlays_card : Rows.QueuePlaysCardSaid :=
  Claim7.holds_tied_plain_at .later [] _ _ _ _
    queuePlays_holds (fun _ h => by cases h) (by kernel_rfl) (fun _ h => by cases h) queuePlays_row_tie rfl ⟨rfl, rfl⟩ (by kernel_rfl) rfl
    (fun f fn hf hfn => by
      obtain rfl : f = 6 := Option.some.inj ((show Tryd.prog.funcNamed Tryd.f6.name = some 6 by kernel_rfl).symm.trans hf) |>.symm
      obtain rfl : fn = Tryd.f6 := (Option.some.inj (Tryd.func6.symm.trans hfn)).symm
      refine ⟨by kernel_rfl, fun j t ht => ?_⟩
      rw [Tryd.params6] at ht
      have h3 : t = 3 ∨ t = 35 := by
        rcases j with _ | _ | j
        · have h : 35 = t := by simpa using ht
          exact .inr (h.symm)
        · have h : 3 = t := by simpa using ht
          exact .inl h.symm
        · simp at ht
      rcases h3 with rfl | rfl
      · exact (show Tryd.prog.wantsStandIn 3 = false by kernel_rfl)
      · exact (show Tryd.prog.wantsStandIn 35 = false by kernel_rfl))
    (by kernel_rfl)
#print axioms queuePlays_card
end Go.Proofs.YtmifpookhhkgeaaDoor
