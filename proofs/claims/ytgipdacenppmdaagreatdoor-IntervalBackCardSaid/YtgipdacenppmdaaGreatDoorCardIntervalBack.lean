/- The card of IntervalBack, tied to the program's text. -/
import Derived.Test.YtgipdacenppmdaaGreatDoorLawIntervalBack
import Derived.Test.YtgipdacenppmdaaGreatDoorCards
import Derived.Test.YtgipdacenppmdaaGreatDoorTie
import Derived.SevenTiedAt
namespace Go.Proofs.YtgipdacenppmdaaGreatDoor
open Go
/-- The card. -/
theorem intervalBack_card : Rows.IntervalBackCardSaid :=
  Claim7.holds_tied_plain_at .later [] _ _ _ _
    intervalBack_holds (fun _ h => by cases h) (by kernel_rfl) (fun _ h => by cases h) intervalBack_row_tie rfl ⟨rfl, rfl⟩ (by kernel_rfl) rfl
    (fun f fn hf hfn => by
      obtain rfl : f = 6 := Option.some.inj ((show Tryz.prog.funcNamed Tryz.f6.name = some 6 by kernel_rfl).symm.trans hf) |>.symm
      obtain rfl : fn = Tryz.f6 := (Option.some.inj (Tryz.func6.symm.trans hfn)).symm
      refine ⟨by kernel_rfl, fun j t ht => ?_⟩
      rw [Tryz.params6] at ht
      have h3 : t = 9 ∨ t = 24 := by
        rcases j with _ | _ | j
        · have h : 24 = t := by simpa using ht
          exact .inr (h.symm)
        · have h : 9 = t := by simpa using ht
          exact .inl h.symm
        · simp at ht
      rcases h3 with rfl | rfl
      · exact (show Tryz.prog.wantsStandIn 9 = false by kernel_rfl)
      · exact (show Tryz.prog.wantsStandIn 24 = false by kernel_rfl))
    (by kernel_rfl)
#print axioms intervalBack_card
end Go.Proofs.YtgipdacenppmdaaGreatDoor
