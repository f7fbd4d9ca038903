/- What every right program does with one key: awake holds in every world. -/
import Derived.Test.YtbocdfpgjkjilaaTC
set_option linter.unusedVariables false
set_option linter.unusedSimpArgs false
namespace Go.Proofs.Ytbocdfpgjkjilaa.T
open Go.RowKit Go.Maps Go.Sort Go.Shelf Go.Proofs.YtbocdfpgjkjilaaW.PrintWords Go.Proofs.Ytbocdfpgjkjilaa.PTimerPlays

theorem awake_any (w : World) : Calls Try.prog 14 #[] w fun e w' => e = .returned (.bool true) ∧ Below w.heap.size w w' := by
  have hg : (ByteArray.mk #[103]).size ≤ maxLen := by decide
  have s1 : seenL [] (ByteArray.mk #[103]) 5 3 = [⟨ByteArray.mk #[103], 8⟩] := by simp [seenL, seenB, putL, tHas, okT]
  have s2 : seenB [] (ByteArray.mk #[103]) 5 3 = true := by simp [seenB, tHas, okT]
  have s3 : seenB [⟨ByteArray.mk #[103], 8⟩] (ByteArray.mk #[103]) 6 3 = false := by simp [seenB, tHas, okT]
  have s4 : seenL [⟨ByteArray.mk #[103], 8⟩] (ByteArray.mk #[103]) 6 3 = [⟨ByteArray.mk #[103], 8⟩] := by unfold seenL; rw [if_neg (by rw [s3]; simp)]
  have d1 : dueL [⟨ByteArray.mk #[103], 8⟩] 7 = [] := by simp [dueL]
  have d2 : dueL [⟨ByteArray.mk #[103], 8⟩] 8 = [ByteArray.mk #[103]] := by simp [dueL]
  go_enter Try.func14, Try.ntmps14
  go_wp2_with (fail)
  refine (new_any _).mono ?_
  rintro e w1 ⟨g, b, rfl, ht, hb, hgg, hbb⟩
  have HB := Aside0.mk hb
  have HT := Aside0.mk ht
  clear ht hb
  go_wp2_with (fail)
  refine (seen_any g b [] _ 5 3 w1 HT.out hg (by decide)).mono ?_
  rintro e w2 ⟨rfl, ht, hgr⟩
  rw [s1] at ht
  have HB2 := Aside0.mk (HB.out.grown hgr HB.out.size (fun j hj => by cases hj; exact hbb))
  have HT := Aside0.mk ht
  rw [s2]
  clear ht hgr
  go_wp2_with (fail)
  refine (seen_any g b _ _ 6 3 w2 HT.out hg (by decide)).mono ?_
  rintro e w3 ⟨rfl, ht, hgr⟩
  rw [s4] at ht
  have HB3 := Aside0.mk (HB2.out.grown hgr HB2.out.size (fun j hj => by cases hj; exact hbb))
  have HT := Aside0.mk ht
  rw [s3]
  clear ht hgr
  go_wp2_with (fail)
  refine (due_any g b _ 7 w3 HT.out (List.pairwise_singleton _ _) (by decide)).mono ?_
  rintro e w4 ⟨v, rfl, hr, hb⟩
  rw [d1] at hr
  obtain ⟨A1, c1, rfl⟩ := Kd.R_slice hr
  have HB4 := Aside0.mk (below_then HB3.out HB3.out.size hb)
  have HT := Aside0.mk (HT.out.below hb)
  clear hr hb
  go_wp2_with (fail)
  refine (due_any g b _ 8 w4 HT.out (List.pairwise_singleton _ _) (by decide)).mono ?_
  rintro e w5 ⟨v, rfl, hr, hb⟩
  rw [d2] at hr
  obtain ⟨A2, c2, rfl⟩ := Kd.R_slice hr
  have HB5 := Aside0.mk (below_then HB4.out HB4.out.size hb)
  clear hr hb
  go_wp2_with (fail)
  go_ret
  exact ⟨rfl, HB5.out⟩
end Go.Proofs.Ytbocdfpgjkjilaa.T
