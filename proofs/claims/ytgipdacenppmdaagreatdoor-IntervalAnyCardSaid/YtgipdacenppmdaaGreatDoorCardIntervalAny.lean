/- The card of IntervalAny, tied to the program's text. -/
import Derived.Test.YtgipdacenppmdaaGreatDoorLawIntervalAny
import Derived.Test.YtgipdacenppmdaaGreatDoorCards
import Derived.Test.YtgipdacenppmdaaGreatDoorTie
import Derived.SevenTiedAt
namespace Go.Proofs.YtgipdacenppmdaaGreatDoor
open Go
/-- The card. -/
theorem intervalAny_card : Rows.IntervalAnyCardSaid :=
  Claim7.holds_tied_plain_at .later [] _ _ _ _
    intervalAny_holds (fun _ h => by cases h) (by kernel_rfl) (fun _ h => by cases h) intervalAny_row_tie rfl ⟨rfl, rfl⟩ (by kernel_rfl) rfl
    (fun f fn hf hfn => by
      obtain rfl : f = 7 := Option.some.inj ((show Tryz.prog.funcNamed Tryz.f7.name = some 7 by kernel_rfl).symm.trans hf) |>.symm
      obtain rfl : fn = Tryz.f7 := (Option.some.inj (Tryz.func7.symm.trans hfn)).symm
      refine ⟨by kernel_rfl, fun j t ht => ?_⟩
      rw [Tryz.params7] at ht
      have h3 : t = 3 ∨ t = 44 ∨ t = 45 := by
        rcases j with _ | _ | _ | j
        · have h : 44 = t := by simpa using ht
          exact .inr (.inl h.symm)
        · have h : 45 = t := by simpa using ht
          exact .inr (.inr (h.symm))
        · have h : 3 = t := by simpa using ht
          exact .inl h.symm
        · simp at ht
      rcases h3 with rfl | rfl | rfl
      · exact (show Tryz.prog.wantsStandIn 3 = false by kernel_rfl)
      · exact (show Tryz.prog.wantsStandIn 44 = false by kernel_rfl)
      · exact (show Tryz.prog.wantsStandIn 45 = false by kernel_rfl))
    (by kernel_rfl)
#print axioms intervalAny_card
end Go.Proofs.YtgipdacenppmdaaGreatDoor
