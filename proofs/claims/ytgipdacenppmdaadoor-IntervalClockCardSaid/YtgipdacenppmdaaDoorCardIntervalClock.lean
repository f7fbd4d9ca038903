/- The card of IntervalClock, tied to the program's text. -/
import Derived.Test.YtgipdacenppmdaaDoorLawIntervalClock
import Derived.Test.YtgipdacenppmdaaDoorCards
import Derived.Test.YtgipdacenppmdaaDoorTie
import Derived.SevenTiedAt
namespace Go.Proofs.YtgipdacenppmdaaDoor
open Go
/-- The card. -/
theorem intervalClock_card : Rows.IntervalClockCardSaid :=
  Claim7.holds_tied_plain_at .later [] _ _ _ _
    intervalClock_holds (fun _ h => by cases h) (by kernel_rfl) (fun _ h => by cases h) intervalClock_row_tie rfl ⟨rfl, rfl⟩ (by kernel_rfl) rfl
    (fun f fn hf hfn => by
      obtain rfl : f = 5 := Option.some.inj ((show Tryd.prog.funcNamed Tryd.f5.name = some 5 by kernel_rfl).symm.trans hf) |>.symm
      obtain rfl : fn = Tryd.f5 := (Option.some.inj (Tryd.func5.symm.trans hfn)).symm
      refine ⟨by kernel_rfl, fun j t ht => ?_⟩
      rw [Tryd.params5] at ht
      have h3 : t = 24 ∨ t = 35 := by
        rcases j with _ | _ | j
        · have h : 24 = t := by simpa using ht
          exact .inl h.symm
        · have h : 35 = t := by simpa using ht
          exact .inr (h.symm)
        · simp at ht
      rcases h3 with rfl | rfl
      · exact (show Tryd.prog.wantsStandIn 24 = false by kernel_rfl)
      · exact (show Tryd.prog.wantsStandIn 35 = false by kernel_rfl))
    (by kernel_rfl)
#print axioms intervalClock_card
end Go.Proofs.YtgipdacenppmdaaDoor
