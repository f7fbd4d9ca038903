/- The card of IntervalNexts, tied to the program's text. -/
import Derived.Test.YtgipdacenppmdaaGreatDoorLawIntervalNexts
import Derived.Test.YtgipdacenppmdaaGreatDoorCards
import Derived.Test.YtgipdacenppmdaaGreatDoorTie
import Derived.SevenTiedAt
namespace Go.Proofs.YtgipdacenppmdaaGreatDoor
open Go
/-- The card. -/
theorem intervalNexts_card : Rows.IntervalNextsCardSaid :=
  Claim7.holds_tied_plain_at .later [] _ _ _ _
    intervalNexts_holds (fun _ h => by cases h) (by kernel_rfl) (fun _ h => by cases h) intervalNexts_row_tie rfl ⟨rfl, rfl⟩ (by kernel_rfl) rfl
    (fun f fn hf hfn => by
      obtain rfl : f = 5 := Option.some.inj ((show Tryz.prog.funcNamed Tryz.f5.name = some 5 by kernel_rfl).symm.trans hf) |>.symm
      obtain rfl : fn = Tryz.f5 := (Option.some.inj (Tryz.func5.symm.trans hfn)).symm
      refine ⟨by kernel_rfl, fun j t ht => ?_⟩
      rw [Tryz.params5] at ht
      have h3 : t = 3 ∨ t = 24 := by
        rcases j with _ | _ | _ | j
        · have h : 24 = t := by simpa using ht
          exact .inr (h.symm)
        · have h : 3 = t := by simpa using ht
          exact .inl h.symm
        · have h : 3 = t := by simpa using ht
          exact .inl h.symm
        · simp at ht
      rcases h3 with rfl | rfl
      · exact (show Tryz.prog.wantsStandIn 3 = false by kernel_rfl)
      · exact (show Tryz.prog.wantsStandIn 24 = false by kernel_rfl))
    (by kernel_rfl)
#print axioms intervalNexts_card
end Go.Proofs.YtgipdacenppmdaaGreatDoor
