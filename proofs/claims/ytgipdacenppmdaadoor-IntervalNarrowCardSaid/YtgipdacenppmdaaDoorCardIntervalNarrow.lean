/- The card of IntervalNarrow, tied to the program's text. -/
import Derived.Test.YtgipdacenppmdaaDoorLawIntervalNarrow
import Derived.Test.YtgipdacenppmdaaDoorCards
import Derived.Test.YtgipdacenppmdaaDoorTie
import Derived.SevenTiedAt
namespace Go.Proofs.YtgipdacenppmdaaDoor
open Go
/-- The card. -/
theorem intervalNarrow_card : Rows.IntervalNarrowCardSaid :=
  Claim7.holds_tied_plain_at .later [] _ _ _ _
    intervalNarrow_holds (fun _ h => by cases h) (by kernel_rfl) (fun _ h => by cases h) intervalNarrow_row_tie rfl ⟨rfl, rfl⟩ (by kernel_rfl) rfl
    (fun f fn hf hfn => by
      obtain rfl : f = 3 := Option.some.inj ((show Tryd.prog.funcNamed Tryd.f3.name = some 3 by kernel_rfl).symm.trans hf) |>.symm
      obtain rfl : fn = Tryd.f3 := (Option.some.inj (Tryd.func3.symm.trans hfn)).symm
      refine ⟨by kernel_rfl, fun j t ht => ?_⟩
      rw [Tryd.params3] at ht
      have h3 : t = 3 ∨ t = 5 ∨ t = 24 := by
        rcases j with _ | _ | _ | j
        · have h : 24 = t := by simpa using ht
          exact .inr (.inr (h.symm))
        · have h : 3 = t := by simpa using ht
          exact .inl h.symm
        · have h : 5 = t := by simpa using ht
          exact .inr (.inl h.symm)
        · simp at ht
      rcases h3 with rfl | rfl | rfl
      · exact (show Tryd.prog.wantsStandIn 3 = false by kernel_rfl)
      · exact (show Tryd.prog.wantsStandIn 5 = false by kernel_rfl)
      · exact (show Tryd.prog.wantsStandIn 24 = false by kernel_rfl))
    (by kernel_rfl)
#print axioms intervalNarrow_card
end Go.Proofs.YtgipdacenppmdaaDoor
