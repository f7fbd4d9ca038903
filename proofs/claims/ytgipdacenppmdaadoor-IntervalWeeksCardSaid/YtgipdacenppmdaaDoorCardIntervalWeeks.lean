/- The card of IntervalWeeks, tied to the program's text. -/
import Derived.Test.YtgipdacenppmdaaDoorLawIntervalWeeks
import Derived.Test.YtgipdacenppmdaaDoorCards
import Derived.Test.YtgipdacenppmdaaDoorTie
import Derived.SevenTiedAt
namespace Go.Proofs.YtgipdacenppmdaaDoor
open Go
/-- The card. -/
theorem intervalWeeks_card : Rows.IntervalWeeksCardSaid :=
  Claim7.holds_tied_plain_at .later [] _ _ _ _
    intervalWeeks_holds (fun _ h => by cases h) (by kernel_rfl) (fun _ h => by cases h) intervalWeeks_row_tie rfl ⟨rfl, rfl⟩ (by kernel_rfl) rfl
    (fun f fn hf hfn => by
      obtain rfl : f = 4 := Option.some.inj ((show Tryd.prog.funcNamed Tryd.f4.name = some 4 by kernel_rfl).symm.trans hf) |>.symm
      obtain rfl : fn = Tryd.f4 := (Option.some.inj (Tryd.func4.symm.trans hfn)).symm
      refine ⟨by kernel_rfl, fun j t ht => ?_⟩
      rw [Tryd.params4] at ht
      have h3 : t = 5 ∨ t = 35 := by
        rcases j with _ | _ | _ | j
        · have h : 5 = t := by simpa using ht
          exact .inl h.symm
        · have h : 5 = t := by simpa using ht
          exact .inl h.symm
        · have h : 35 = t := by simpa using ht
          exact .inr (h.symm)
        · simp at ht
      rcases h3 with rfl | rfl
      · exact (show Tryd.prog.wantsStandIn 5 = false by kernel_rfl)
      · exact (show Tryd.prog.wantsStandIn 35 = false by kernel_rfl))
    (by kernel_rfl)
#print axioms intervalWeeks_card
end Go.Proofs.YtgipdacenppmdaaDoor
