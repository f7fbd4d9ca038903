/- The card of QueueRoom, tied to the program's text. -/
import Derived.Test.YtmifpookhhkgeaaDoorLawQueueRoom
import Derived.Test.YtmifpookhhkgeaaDoorCards
import Derived.Test.YtmifpookhhkgeaaDoorTie
import Derived.SevenTiedAt
namespace Go.Proofs.YtmifpookhhkgeaaDoor
open Go
/-- The card. -/
theorem queueRoom_card : Rows.QueueRoomCardSaid :=
  Claim7.holds_tied_plain_at .later [] _ _ _ _
    queueRoom_holds (fun _ h => by cases h) (by kernel_rfl) (fun _ h => by cases h) queueRoom_row_tie rfl ⟨rfl, rfl⟩ (by kernel_rfl) rfl
    (fun f fn hf hfn => by
      obtain rfl : f = 4 := Option.some.inj ((show Tryd.prog.funcNamed Tryd.f4.name = some 4 by kernel_rfl).symm.trans hf) |>.symm
      obtain rfl : fn = Tryd.f4 := (Option.some.inj (Tryd.func4.symm.trans hfn)).symm
      refine ⟨by kernel_rfl, fun j t ht => ?_⟩
      rw [Tryd.params4] at ht
      have h3 : t = 25 ∨ t = 35 := by
        rcases j with _ | _ | j
        · have h : 35 = t := by simpa using ht
          exact .inr (h.symm)
        · have h : 25 = t := by simpa using ht
          exact .inl h.symm
        · simp at ht
      rcases h3 with rfl | rfl
      · exact (show Tryd.prog.wantsStandIn 25 = false by kernel_rfl)
      · exact (show Tryd.prog.wantsStandIn 35 = false by kernel_rfl))
    (by kernel_rfl)
#print axioms queueRoom_card
end Go.Proofs.YtmifpookhhkgeaaDoor
