/- The card of GroupKeys, for arguments that are together of bulk at most 1048576, tied to the program's text. -/
import Derived.Test.YtpbemhjiffnamaaDoorLawGroupKeysUpto
import Derived.Test.YtpbemhjiffnamaaDoorCards
import Derived.Test.YtpbemhjiffnamaaDoorTie
import Derived.SevenTiedAt
namespace Go.Proofs.YtpbemhjiffnamaaDoor
open Go
/-- The card. -/
theorem groupKeysUpto_card : Rows.GroupKeysUptoCardSaid :=
  Claim7.holds_tied_plain_at .later [] _ _ _ _
    groupKeysUpto_holds (fun _ h => by cases h) (by kernel_rfl) (fun _ h => by cases h) groupKeysUpto_row_tie rfl ⟨rfl, rfl⟩ (by kernel_rfl) rfl
    (fun f fn hf hfn => by
      obtain rfl : f = 3 := Option.some.inj ((show Tryd.prog.funcNamed Tryd.f3.name = some 3 by kernel_rfl).symm.trans hf) |>.symm
      obtain rfl : fn = Tryd.f3 := (Option.some.inj (Tryd.func3.symm.trans hfn)).symm
      refine ⟨by kernel_rfl, fun j t ht => ?_⟩
      rw [Tryd.params3] at ht
      have h3 : t = 3 ∨ t = 22 := by
        rcases j with _ | _ | j
        · have h : 3 = t := by simpa using ht
          exact .inl h.symm
        · have h : 22 = t := by simpa using ht
          exact .inr (h.symm)
        · simp at ht
      rcases h3 with rfl | rfl
      · exact (show Tryd.prog.wantsStandIn 3 = false by kernel_rfl)
      · exact (show Tryd.prog.wantsStandIn 22 = false by kernel_rfl))
    (by kernel_rfl)
#print axioms groupKeysUpto_card
end Go.Proofs.YtpbemhjiffnamaaDoor
