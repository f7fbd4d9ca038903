/- The card of LabelPicks, tied to the program's text. -/
import Derived.Test.YtjgommaikaeobaaDoorLawLabelPicks
import Derived.Test.YtjgommaikaeobaaDoorCards
import Derived.Test.YtjgommaikaeobaaDoorTie
import Derived.SevenTiedAt
namespace Go.Proofs.YtjgommaikaeobaaDoor
open Go
/-- The card. -/
theorem labelPicks_card : Rows.LabelPicksCardSaid :=
  Claim7.holds_tied_plain_at .later [] [.data, .data, .data] true (true, "754aaa198774e43d1f12be30b56bf97c7e550cf2d9773efd504b9c1264e93ede") true
    labelPicks_holds (fun _ h => by cases h) (by kernel_rfl) (fun _ h => by cases h) labelPicks_row_tie rfl ⟨rfl, rfl⟩ (by kernel_rfl) rfl
    (fun f fn hf hfn => by
      obtain rfl : f = 6 := Option.some.inj ((show Tryd.prog.funcNamed Tryd.f6.name = some 6 by kernel_rfl).symm.trans hf) |>.symm
      obtain rfl : fn = Tryd.f6 := (Option.some.inj (Tryd.func6.symm.trans hfn)).symm
      refine ⟨by kernel_rfl, fun j t ht => ?_⟩
      rw [Tryd.params6] at ht
      have h3 : t = 9 ∨ t = 22 ∨ t = 38 := by
        rcases j with _ | _ | _ | j
        · have h : 22 = t := by simpa using ht
          exact .inr (.inl h.symm)
        · have h : 9 = t := by simpa using ht
          exact .inl h.symm
        · have h : 38 = t := by simpa using ht
          exact .inr (.inr (h.symm))
        · simp at ht
      rcases h3 with rfl | rfl | rfl
      · exact (show Tryd.prog.wantsStandIn 9 = false by kernel_rfl)
      · exact (show Tryd.prog.wantsStandIn 22 = false by kernel_rfl)
      · exact (show Tryd.prog.wantsStandIn 38 = false by kernel_rfl))
    (by kernel_rfl)
#print axioms labelPicks_card
end Go.Proofs.YtjgommaikaeobaaDoor
