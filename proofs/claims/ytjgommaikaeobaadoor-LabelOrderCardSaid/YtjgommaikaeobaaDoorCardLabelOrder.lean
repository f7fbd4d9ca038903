/- The card of LabelOrder, tied to the program's text. -/
import Derived.Test.YtjgommaikaeobaaDoorLawLabelOrder
import Derived.Test.YtjgommaikaeobaaDoorCards
import Derived.Test.YtjgommaikaeobaaDoorTie
import Derived.SevenTiedAt
namespace Go.Proofs.YtjgommaikaeobaaDoor
open Go
/-- The card. -/
theorem labelOrder_card : Rows.LabelOrderCardSaid :=
  Claim7.holds_tied_plain_at .later [] [.data, .data, .data] true (true, "754aaa198774e43d1f12be30b56bf97c7e550cf2d9773efd504b9c1264e93ede") true
    labelOrder_holds (fun _ h => by cases h) (by kernel_rfl) (fun _ h => by cases h) labelOrder_row_tie rfl ⟨rfl, rfl⟩ (by kernel_rfl) rfl
    (fun f fn hf hfn => by
      obtain rfl : f = 5 := Option.some.inj ((show Tryd.prog.funcNamed Tryd.f5.name = some 5 by kernel_rfl).symm.trans hf) |>.symm
      obtain rfl : fn = Tryd.f5 := (Option.some.inj (Tryd.func5.symm.trans hfn)).symm
      refine ⟨by kernel_rfl, fun j t ht => ?_⟩
      rw [Tryd.params5] at ht
      have h3 : t = 22 := by
        rcases j with _ | j
        · have h : 22 = t := by simpa using ht
          exact h.symm
        · simp at ht
      rcases h3 with rfl
      · exact (show Tryd.prog.wantsStandIn 22 = false by kernel_rfl))
    (by kernel_rfl)
#print axioms labelOrder_card
end Go.Proofs.YtjgommaikaeobaaDoor
