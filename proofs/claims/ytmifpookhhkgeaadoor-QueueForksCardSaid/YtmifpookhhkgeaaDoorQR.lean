/- Entries, on the document's side. -/
import Derived.Test.YtmifpookhhkgeaaDoorQE
import Derived.Test.YtmifpookhhkgeaaDoorP
set_option linter.unusedVariables false
set_option linter.unusedSimpArgs false
namespace Go.Proofs.YtmifpookhhkgeaaDoor.Q
open Go.RowKit Go.Lib Go.Proofs.YtmifpookhhkgeaaDoorW.PrintWords Go.Proofs.YtmifpookhhkgeaaDoor.P Go.Proofs.YtmifpookhhkgeaaDoor.G
theorem wcheck_f (e : S27) (k : Nat) : watchfireref09_Check.f (k + 1) e.f0 e.f1 e.f2 e.f3 e.f4 = some (checkC e) := by
  unfold watchfireref09_Check.f checkC
  by_cases h0 : e.f0.size = 0
  · rw [if_pos (by omega), if_pos (.inl h0)]
    simp only [watchfireref09_Check.j0, if_true]
  · rw [if_neg (by omega)]
    by_cases h1 : 1024 < e.f0.size
    · rw [if_pos (by omega), if_pos (.inr (.inl h1))]
      simp only [watchfireref09_Check.j0, if_true]
    · rw [if_neg (by omega)]
      by_cases h2 : 8192 < e.f3.size
      · rw [if_pos (.inr (.inr h2)), decide_eq_true (by omega)]
        simp only [watchfireref09_Check.j0, if_true]
      · rw [if_neg (by omega), decide_eq_false (by omega)]
        simp only [watchfireref09_Check.j0, Bool.false_eq_true, if_false]
        by_cases h3 : e.f1 < 0
        · rw [if_pos h3, if_pos (.inl h3)]
        · rw [if_neg h3]
          by_cases h4 : 1099511627776 < e.f1
          · rw [if_pos (by omega), if_pos (by omega)]
          · rw [if_neg (by omega)]
            by_cases h5 : e.f4 < e.f1
            · rw [if_pos h5, if_pos (by omega)]
            · rw [if_neg h5]
              by_cases h6 : 1099511627776 < e.f4
              · rw [if_pos (by omega), if_pos (by omega)]
              · rw [if_neg (by omega), if_neg (by omega)]
theorem wabove_f (a b : S27) : watchfireref09_Above.f a.f0 a.f1 a.f2 a.f3 a.f4 b.f0 b.f1 b.f2 b.f3 b.f4 = some (aboveB a b) := by
  unfold watchfireref09_Above.f aboveB
  by_cases h1 : a.f1 = b.f1
  · rw [if_pos h1, if_pos h1]
    by_cases h2 : a.f2 = b.f2
    · rw [if_pos h2, if_pos h2]
      by_cases h3 : a.f3 = b.f3
      · rw [if_pos (by rw [h3]), if_pos h3]
      · rw [if_neg (fun h => h3 (ba_inj h)), if_neg h3, bytesLess_eq, ByteArray.toList_eq, ByteArray.toList_eq]
    · rw [if_neg h2, if_neg h2]
  · rw [if_neg h1, if_neg h1]
theorem wput_f {e : S27} (h : checkC e = 0) : watchfireref09_Put.f e.f0 e.f1 e.f2 e.f3 e.f4 = some (entB e) := by
  obtain ⟨a1, a2, a3, a4, a5, a6⟩ := check_ok h
  have hf := ent_fit h
  unfold watchfireref09_Put.f
  rw [wtext_eq _ (by omega), Option.bind_some, wint_eq _ (by omega) (by omega), Option.bind_some, wint_eq _ (wrap_rng _).1 (wrap_rng _).2, Option.bind_some, wtext_eq _ (by omega), Option.bind_some, wint_eq _ (by omega) (by omega), Option.bind_some]
  unfold WListG.f
  rw [if_pos ⟨hf.1, by have := hf.2; unfold entP at this; omega⟩]
  rfl
end Go.Proofs.YtmifpookhhkgeaaDoor.Q
