/- The card of LabelKeys, for arguments that are together of bulk at most 1048576, tied to the program's text. -/
import Derived.Test.YtjgommaikaeobaaGreatDoorLawLabelKeysUpto
import Derived.Test.YtjgommaikaeobaaGreatDoorCards
import Derived.Test.YtjgommaikaeobaaGreatDoorTie
import Derived.SevenTiedAt
namespace Go.Proofs.YtjgommaikaeobaaGreatDoor
open Go
/-- The card. -/
theorem labelKeysUpto_card : Rows.LabelKeysUptoCardSaid :=
  Claim7.holds_tied_plain_at .later [] _ _ _ _
    labelKeysUpto_holds (fun _ h => by cases h) (by kernel_rfl) (fun _ h => by cases h) labelKeysUpto_row_tie rfl ⟨rfl, rfl⟩ (by kernel_rfl) rfl
    (fun f fn hf hfn => by
      obtain rfl : f = 3 := Option.some.inj ((show Tryz.prog.funcNamed Tryz.f3.name = some 3 by kernel_rfl).symm.trans hf) |>.symm
      obtain rfl : fn = Tryz.f3 := (Option.some.inj (Tryz.func3.symm.trans hfn)).symm
      refine ⟨by kernel_rfl, fun j t ht => ?_⟩
      rw [Tryz.params3] at ht
      have h3 : t = 9 ∨ t = 22 := by
        rcases j with _ | _ | _ | j
        · have h : 22 = t := by simpa using ht
          exact .inr (h.symm)
        · have h : 22 = t := by simpa using ht
          exact .inr (h.symm)
        · have h : 9 = t := by simpa using ht
          exact .inl h.symm
        · simp at ht
      rcases h3 with rfl | rfl
      · exact (show Tryz.prog.wantsStandIn 9 = false by kernel_rfl)
      · exact (show Tryz.prog.wantsStandIn 22 = false by kernel_rfl))
    (by kernel_rfl)
#print axioms labelKeysUpto_card
end Go.Proofs.YtjgommaikaeobaaGreatDoor
