/- The card of LabelApart, for arguments that are together of bulk at most 1048576, tied to the program's text. -/
import Derived.Test.YtjgommaikaeobaaDoorLawLabelApartUpto
import Derived.Test.YtjgommaikaeobaaDoorCards
import Derived.Test.YtjgommaikaeobaaDoorTie
import Derived.SevenTiedAt
namespace Go.Proofs.YtjgommaikaeobaaDoor
open Go
/-- The card. -/
theorem labelApartUpto_card : Rows.LabelApartUptoCardSaid :=
  Claim7.holds_tied_plain_at .later [] _ _ _ _
    labelApartUpto_holds (fun _ h => by cases h) (by kernel_rfl) (fun _ h => by cases h) labelApartUpto_row_tie rfl ⟨rfl, rfl⟩ (by kernel_rfl) rfl
    (fun f fn hf hfn => by
      obtain rfl : f = 7 := Option.some.inj ((show Tryd.prog.funcNamed Tryd.f7.name = some 7 by kernel_rfl).symm.trans hf) |>.symm
      obtain rfl : fn = Tryd.f7 := (Option.some.inj (Tryd.func7.symm.trans hfn)).symm
      refine ⟨by kernel_rfl, fun j t ht => ?_⟩
      rw [Tryd.params7] at ht
      have h3 : t = 22 ∨ t = 38 := by
        rcases j with _ | _ | _ | j
        · have h : 22 = t := by simpa using ht
          exact .inl h.symm
        · have h : 22 = t := by simpa using ht
          exact .inl h.symm
        · have h : 38 = t := by simpa using ht
          exact .inr (h.symm)
        · simp at ht
      rcases h3 with rfl | rfl
      · exact (show Tryd.prog.wantsStandIn 22 = false by kernel_rfl)
      · exact (show Tryd.prog.wantsStandIn 38 = false by kernel_rfl))
    (by kernel_rfl)
#print axioms labelApartUpto_card
end Go.Proofs.YtjgommaikaeobaaDoor
