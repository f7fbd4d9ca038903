/- The card of LabelSorts, tied to the program's text. -/
import Derived.Test.YtjgommaikaeobaaDoorLawLabelSorts
import Derived.Test.YtjgommaikaeobaaDoorCards
import Derived.Test.YtjgommaikaeobaaDoorTie
import Derived.SevenTiedAt
namespace Go.Proofs.YtjgommaikaeobaaDoor
open Go
/-- The card. -/
theorem labelSorts_card : Rows.LabelSortsCardSaid :=
  Claim7.holds_tied_plain_at .later [] [.data, .data, .data] true (true, "754aaa198774e43d1f12be30b56bf97c7e550cf2d9773efd504b9c1264e93ede") true
    labelSorts_holds (fun _ h => by cases h) (by kernel_rfl) (fun _ h => by cases h) labelSorts_row_tie rfl ⟨rfl, rfl⟩ (by kernel_rfl) rfl
    (fun f fn hf hfn => by
      obtain rfl : f = 4 := Option.some.inj ((show Tryd.prog.funcNamed Tryd.f4.name = some 4 by kernel_rfl).symm.trans hf) |>.symm
      obtain rfl : fn = Tryd.f4 := (Option.some.inj (Tryd.func4.symm.trans hfn)).symm
      refine ⟨by kernel_rfl, fun j t ht => ?_⟩
      rw [Tryd.params4] at ht
      have h3 : t = 22 := by
        rcases j with _ | j
        · have h : 22 = t := by simpa using ht
          exact h.symm
        · simp at ht
      rcases h3 with rfl
      · exact (show Tryd.prog.wantsStandIn 22 = false by kernel_rfl))
    (by kernel_rfl)
#print axioms labelSorts_card
end Go.Proofs.YtjgommaikaeobaaDoor
