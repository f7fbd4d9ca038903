/- Names, and Light. -/
import Derived.Test.YtgipdacenppmdaaDoorIB
import Derived.Test.YtgipdacenppmdaaDoorP1
set_option linter.unusedVariables false
set_option linter.unusedSimpArgs false
namespace Go.Proofs.YtgipdacenppmdaaDoor.G
open Go.RowKit Go.Lib Go.Proofs.YtgipdacenppmdaaDoorW.PrintWords Go.Proofs.YtgipdacenppmdaaDoor.P
def okc (c : Int) : Bool := decide ((97 ≤ c ∧ c ≤ 122) ∨ c = 95 ∨ (48 ≤ c ∧ c ≤ 57))
def okFrom (a : ByteArray) : Nat → Nat → Bool
  | 0, _ => true
  | d + 1, i => okc (bt a (i : Int)) && okFrom a d (i + 1)
theorem okFrom_succ (a : ByteArray) (d i : Nat) : okFrom a (d + 1) i = (okc (bt a (i : Int)) && okFrom a d (i + 1)) := rfl
theorem okc_t {c : Int} (h : (97 ≤ c ∧ c ≤ 122) ∨ c = 95 ∨ (48 ≤ c ∧ c ≤ 57)) : okc c = true := decide_eq_true h
theorem okc_f {c : Int} (h : ¬ ((97 ≤ c ∧ c ≤ 122) ∨ c = 95 ∨ (48 ≤ c ∧ c ≤ 57))) : okc c = false := decide_eq_false h
def nameOk (a : ByteArray) : Bool := decide (1 ≤ a.size ∧ a.size ≤ 16) && (!decide (48 ≤ bt a 0 ∧ bt a 0 ≤ 57) && okFrom a a.size 0)
theorem pname_l0 (a : ByteArray) (hs : a.size ≤ 1000000) : ∀ (d i k : Nat), i + d = a.size → d < k → label_Name.l0 k a (a.size : Int) (i : Int) = some (okFrom a d i)
  | 0, i, k + 1, hi, hk => by
    rw [label_Name.l0, if_neg (by omega)]; rfl
  | d + 1, i, k + 1, hi, hk => by
    have ih := pname_l0 a hs d (i + 1) k (by omega) (by omega)
    rw [label_Name.l0, if_pos (by omega), if_pos (by omega), if_pos (by omega), wid (x := (i : Int) + 1) (by omega) (by omega), show (i : Int) + 1 = ((i + 1 : Nat) : Int) by omega, ih, okFrom_succ]
    generalize okFrom a d (i + 1) = o
    generalize bt a (i : Int) = c
    by_cases h1 : c = 95
    · rw [if_pos h1, okc_t (Or.inr (Or.inl h1)), Bool.true_and]
    · rw [if_neg h1]
      by_cases h2 : c < 97
      · rw [if_pos h2]
        by_cases h3 : c < 48
        · rw [if_pos h3, okc_f (by omega), Bool.false_and]
        · rw [if_neg h3]
          by_cases h4 : c > 57
          · rw [if_pos h4, okc_f (by omega), Bool.false_and]
          · rw [if_neg h4, okc_t (by omega), Bool.true_and]
      · rw [if_neg h2]
        by_cases h3 : c > 122
        · rw [if_pos h3, if_neg (by omega), if_pos (by omega), okc_f (by omega), Bool.false_and]
        · rw [if_neg h3, okc_t (by omega), Bool.true_and]
  | _, _, 0, _, hk => absurd hk (by omega)
theorem toList_nil (a : ByteArray) : a.toList = ([] : List UInt8) ↔ a.size = 0 := by
  rw [ByteArray.toList_eq, Array.toList_eq_nil_iff, ← Array.size_eq_zero_iff]; rfl
theorem pname_f (a : ByteArray) : label_Name.f 40 a = some (nameOk a) := by
  have hj : ∀ b, label_Name.j0 40 a b = if b = true then some false else label_Name.l0 39 a (a.size : Int) 0 := fun b => by rw [label_Name.j0]
  unfold label_Name.f nameOk
  rw [hj, hj, hj]
  by_cases h0 : a.size = 0
  · rw [if_pos ((toList_nil a).2 h0), if_pos rfl, decide_eq_false (show ¬ (1 ≤ a.size ∧ a.size ≤ 16) by omega), Bool.false_and]
  · rw [if_neg (fun h => h0 ((toList_nil a).1 h))]
    by_cases h1 : (a.size : Int) > 16
    · rw [if_pos h1, if_pos rfl, decide_eq_false (show ¬ (1 ≤ a.size ∧ a.size ≤ 16) by omega), Bool.false_and]
    · have hl := pname_l0 a (by omega) a.size 0 39 (by omega) (by omega)
      rw [if_neg h1, if_pos (by omega), decide_eq_true (show 1 ≤ a.size ∧ a.size ≤ 16 by omega), Bool.true_and]
      rw [show ((0 : Nat) : Int) = 0 from rfl] at hl
      rw [hl]
      generalize okFrom a a.size 0 = o
      generalize bt a 0 = c
      by_cases h2 : c ≥ 48
      · rw [if_pos h2]
        by_cases h3 : c ≤ 57
        · rw [decide_eq_true h3, if_pos rfl, decide_eq_true (show 48 ≤ c ∧ c ≤ 57 from ⟨h2, h3⟩)]; rfl
        · rw [decide_eq_false h3, if_neg (by simp), decide_eq_false (show ¬ (48 ≤ c ∧ c ≤ 57) by omega)]; rfl
      · rw [if_neg h2, if_neg (by simp), decide_eq_false (show ¬ (48 ≤ c ∧ c ≤ 57) by omega)]; rfl
/-- At most 20 ranges a part. -/
def Few (l1 l2 l3 l4 l5 : List S37) : Prop := l1.length ≤ 20 ∧ l2.length ≤ 20 ∧ l3.length ≤ 20 ∧ l4.length ≤ 20 ∧ l5.length ≤ 20
instance (l1 l2 l3 l4 l5 : List S37) : Decidable (Few l1 l2 l3 l4 l5) := by unfold Few; infer_instance
theorem light_f (nm : ByteArray) (l1 l2 l3 l4 l5 : List S37) (ah : Int) (k : Nat) : watchfireref26_Light.f (k + 6) nm l1 l2 l3 l4 l5 ah = some (decide (Few l1 l2 l3 l4 l5 ∧ nm.size ≤ 200)) := by
  have hst : ∀ (k : Nat) (i : Int) (l : List S37), 0 ≤ i → i < 5 → watchfireref26_part.f nm l1 l2 l3 l4 l5 ah i = some l → watchfireref26_Light.l0 (k + 1) i nm l1 l2 l3 l4 l5 ah = if l.length > 20 then some false else watchfireref26_Light.l0 k (i + 1) nm l1 l2 l3 l4 l5 ah := by
    intro k i l h0 h5 hp
    rw [watchfireref26_Light.l0, if_pos h5, hp, Option.bind_some, wid (x := i + 1) (by omega) (by omega)]
    by_cases h : l.length > 20
    · rw [if_pos h, if_pos (by omega)]
    · rw [if_neg h, if_neg (by omega)]
  unfold watchfireref26_Light.f Few
  rw [hst (k + 5) 0 l1 (by omega) (by omega) rfl]
  by_cases h1 : l1.length > 20
  · rw [if_pos h1]; congr 1; symm; apply decide_eq_false; omega
  rw [if_neg h1, hst (k + 4) (0 + 1) l2 (by omega) (by omega) rfl]
  by_cases h2 : l2.length > 20
  · rw [if_pos h2]; congr 1; symm; apply decide_eq_false; omega
  rw [if_neg h2, hst (k + 3) (0 + 1 + 1) l3 (by omega) (by omega) rfl]
  by_cases h3 : l3.length > 20
  · rw [if_pos h3]; congr 1; symm; apply decide_eq_false; omega
  rw [if_neg h3, hst (k + 2) (0 + 1 + 1 + 1) l4 (by omega) (by omega) rfl]
  by_cases h4 : l4.length > 20
  · rw [if_pos h4]; congr 1; symm; apply decide_eq_false; omega
  rw [if_neg h4, hst (k + 1) (0 + 1 + 1 + 1 + 1) l5 (by omega) (by omega) rfl]
  by_cases h5 : l5.length > 20
  · rw [if_pos h5]; congr 1; symm; apply decide_eq_false; omega
  rw [if_neg h5, watchfireref26_Light.l0, if_neg (by omega)]
  congr 1; apply decide_eq_decide.2; omega
theorem hasB_f (nm : ByteArray) (l1 l2 l3 l4 l5 : List S37) (ah s : Int) (hn : nameOk nm = true) (hc : chk 0 [l1, l2, l3, l4, l5] ah = 0) : IHas.f nm l1 l2 l3 l4 l5 ah s = some (atB l1 l2 l3 l4 l5 ah s) := by
  unfold IHas.f ICheck.f
  rw [pname_f, Option.bind_some, Option.bind_some, if_pos hn, hc, decide_eq_true rfl, Bool.true_and]
theorem icheck_n (nm : ByteArray) (l1 l2 l3 l4 l5 : List S37) (ah : Int) : ICheck.f nm l1 l2 l3 l4 l5 ah = some (if nameOk nm = true then chk 0 [l1, l2, l3, l4, l5] ah else 6) := by
  unfold ICheck.f
  rw [pname_f, Option.bind_some]
theorem ok_of {nm : ByteArray} {l1 l2 l3 l4 l5 : List S37} {ah : Int} (h : ICheck.f nm l1 l2 l3 l4 l5 ah = some 0) : nameOk nm = true ∧ chk 0 [l1, l2, l3, l4, l5] ah = 0 := by
  rw [icheck_n] at h
  have h' := Option.some.inj h
  by_cases hn : nameOk nm = true
  · rw [if_pos hn] at h'; exact ⟨hn, h'⟩
  · rw [if_neg hn] at h'; exact absurd h' (by omega)
theorem chk_cons (k : Int) (l : List S37) (t : List (List S37)) (ah : Int) : chk k (l :: t) ah = if 8 < l.length then 5 else if (l.all fun x => rightB k x.f0 x.f1) = true then chk (k + 1) t ah else 15 := by rw [chk]
theorem chk_nil (k ah : Int) : chk k [] ah = if ah < -1440 ∨ 1440 < ah then 2 else 0 := by rw [chk]
theorem chk_zero (ah : Int) : ∀ (k : Int) (ls : List (List S37)), chk k ls ah = 0 → chk k ls 0 = 0 ∧ -1440 ≤ ah ∧ ah ≤ 1440
  | k, [], h => by
    rw [chk_nil] at h ⊢
    split at h
    · cases h
    · exact ⟨by rw [if_neg (by omega)], by omega, by omega⟩
  | k, l :: t, h => by
    rw [chk_cons] at h ⊢
    split at h
    · cases h
    split at h
    · obtain ⟨h1, h2⟩ := chk_zero ah (k + 1) t h
      rename_i h8 hall
      exact ⟨by rw [if_neg h8, if_pos hall, h1], h2⟩
    · cases h
/-- An interval on a clock of its own. -/
theorem of_shift (s ah : Int) (h1 : -1440 ≤ ah) (h2 : ah ≤ 1440) (hs1 : 0 ≤ s) (hs2 : s ≤ 4294967296) : civil_Of.f s ah = civil_Of.f (s + 60 * ah) 0 := by
  unfold civil_Of.f civil_clock.f
  rw [if_pos (show ah ≥ -1440 from h1), if_pos (show (0 : Int) ≥ -1440 by omega), decide_eq_true h2, decide_eq_true (show (0 : Int) ≤ 1440 by omega)]
  simp only [Option.bind_some, if_true]
  rw [if_neg (by omega), if_neg (by omega), if_neg (by omega), if_neg (by omega), wid (x := 60 * ah) (by omega) (by omega), wid (x := s + 60 * ah) (by omega) (by omega), wid (x := (60 : Int) * 0) (by omega) (by omega), wid (x := s + 60 * ah + 60 * 0) (by omega) (by omega), show s + 60 * ah + 60 * 0 = s + 60 * ah by omega]
theorem ofC_shift (s ah : Int) (h1 : -1440 ≤ ah) (h2 : ah ≤ 1440) (hs1 : 0 ≤ s) (hs2 : s ≤ 4294967296) : ofC s ah = ofC (s + 60 * ah) 0 := by
  unfold ofC
  rw [of_shift s ah h1 h2 hs1 hs2]
theorem atB_shift (l1 l2 l3 l4 l5 : List S37) (s ah : Int) (h1 : -1440 ≤ ah) (h2 : ah ≤ 1440) (hs1 : 0 ≤ s) (hs2 : s ≤ 4294967296) : atB l1 l2 l3 l4 l5 ah s = atB l1 l2 l3 l4 l5 0 (s + 60 * ah) := by
  unfold atB
  rw [ofC_shift s ah h1 h2 hs1 hs2]
theorem in_u32 {n : Int} (h : (Lit.int .u32 n).wf = true) : 0 ≤ n ∧ n ≤ 4294967295 := by
  simp only [Lit.wf, Bool.and_eq_true, decide_eq_true_eq] at h
  have h1 := h.1
  have h2 := h.2
  simp [IntKind.min, IntKind.max, IntKind.bits, IntKind.signed] at h1 h2
  omega
theorem in_u8 {n : Int} (h : (Lit.int .u8 n).wf = true) : 0 ≤ n ∧ n ≤ 255 := by
  simp only [Lit.wf, Bool.and_eq_true, decide_eq_true_eq] at h
  have h1 := h.1
  have h2 := h.2
  simp [IntKind.min, IntKind.max, IntKind.bits, IntKind.signed] at h1 h2
  omega
end Go.Proofs.YtgipdacenppmdaaDoor.G
