/- The card of LabelBack, for arguments that are together of bulk at most 1048576, tied to the program's text. -/
import Derived.Test.YtjgommaikaeobaaDoorLawLabelBackUpto
import Derived.Test.YtjgommaikaeobaaDoorCards
import Derived.Test.YtjgommaikaeobaaDoorTie
import Derived.SevenTiedAt
namespace Go.Proofs.YtjgommaikaeobaaDoor
open Go
/-- The card. -/
theorem labelBackUpto_card : Rows.LabelBackUptoCardSaid :=
  Claim7.holds_tied_plain_at .later [] _ _ _ _
    labelBackUpto_holds (fun _ h => by cases h) (by kernel_rfl) (fun _ h => by cases h) labelBackUpto_row_tie rfl ⟨rfl, rfl⟩ (by kernel_rfl) rfl
    (fun f fn hf hfn => by
      obtain rfl : f = 8 := Option.some.inj ((show Tryd.prog.funcNamed Tryd.f8.name = some 8 by kernel_rfl).symm.trans hf) |>.symm
      obtain rfl : fn = Tryd.f8 := (Option.some.inj (Tryd.func8.symm.trans hfn)).symm
      refine ⟨by kernel_rfl, fun j t ht => ?_⟩
      rw [Tryd.params8] at ht
      have h3 : t = 9 ∨ t = 22 := by
        rcases j with _ | _ | j
        · have h : 22 = t := by simpa using ht
          exact .inr (h.symm)
        · have h : 9 = t := by simpa using ht
          exact .inl h.symm
        · simp at ht
      rcases h3 with rfl | rfl
      · exact (show Tryd.prog.wantsStandIn 9 = false by kernel_rfl)
      · exact (show Tryd.prog.wantsStandIn 22 = false by kernel_rfl))
    (by kernel_rfl)
#print axioms labelBackUpto_card
end Go.Proofs.YtjgommaikaeobaaDoor
