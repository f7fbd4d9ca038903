/- Names and Check: the program's and the document's are one. -/
import Derived.Test.YtgipdacenppmdaaGreatDoorQB
import Derived.Test.YtgipdacenppmdaaGreatDoorIC
import Derived.Test.YtgipdacenppmdaaGreatDoorP3
set_option linter.unusedVariables false
set_option linter.unusedSimpArgs false
namespace Go.Proofs.YtgipdacenppmdaaGreatDoor.G
open Go.RowKit Go.Lib Go.Proofs.YtgipdacenppmdaaGreatDoorW.PrintWords Go.Proofs.YtgipdacenppmdaaGreatDoor.P
def okc (c : Int) : Bool := decide ((97 ≤ c ∧ c ≤ 122) ∨ c = 95 ∨ (48 ≤ c ∧ c ≤ 57))
def okFrom (a : ByteArray) : Nat → Nat → Bool
  | 0, _ => true
  | d + 1, i => okc (bt a (i : Int)) && okFrom a d (i + 1)
theorem okFrom_succ (a : ByteArray) (d i : Nat) : okFrom a (d + 1) i = (okc (bt a (i : Int)) && okFrom a d (i + 1)) := rfl
theorem okc_t {c : Int} (h : (97 ≤ c ∧ c ≤ 122) ∨ c = 95 ∨ (48 ≤ c ∧ c ≤ 57)) : okc c = true := decide_eq_true h
theorem okc_f {c : Int} (h : ¬ ((97 ≤ c ∧ c ≤ 122) ∨ c = 95 ∨ (48 ≤ c ∧ c ≤ 57))) : okc c = false := decide_eq_false h
def nameOk (a : ByteArray) : Bool := decide (1 ≤ a.size ∧ a.size ≤ 16) && (!decide (48 ≤ bt a 0 ∧ bt a 0 ≤ 57) && okFrom a a.size 0)
theorem pname_l0 (a : ByteArray) (hs : a.size ≤ 1000000) : ∀ (d i k : Nat), i + d = a.size → d < k → label_Name.l0 k a (a.size : Int) (i : Int) = some (okFrom a d i)
  | 0, i, k + 1, hi, hk => by
    rw [label_Name.l0, if_neg (by omega)]; rfl
  | d + 1, i, k + 1, hi, hk => by
    have ih := pname_l0 a hs d (i + 1) k (by omega) (by omega)
    rw [label_Name.l0, if_pos (by omega), if_pos (by omega), if_pos (by omega), wid (x := (i : Int) + 1) (by omega) (by omega), show (i : Int) + 1 = ((i + 1 : Nat) : Int) by omega, ih, okFrom_succ]
    generalize okFrom a d (i + 1) = o
    generalize bt a (i : Int) = c
    by_cases h1 : c = 95
    · rw [if_pos h1, okc_t (Or.inr (Or.inl h1)), Bool.true_and]
    · rw [if_neg h1]
      by_cases h2 : c < 97
      · rw [if_pos h2]
        by_cases h3 : c < 48
        · rw [if_pos h3, okc_f (by omega), Bool.false_and]
        · rw [if_neg h3]
          by_cases h4 : c > 57
          · rw [if_pos h4, okc_f (by omega), Bool.false_and]
          · rw [if_neg h4, okc_t (by omega), Bool.true_and]
      · rw [if_neg h2]
        by_cases h3 : c > 122
        · rw [if_pos h3, if_neg (by omega), if_pos (by omega), okc_f (by omega), Bool.false_and]
        · rw [if_neg h3, okc_t (by omega), Bool.true_and]
  | _, _, 0, _, hk => absurd hk (by omega)
theorem toList_nil (a : ByteArray) : a.toList = ([] : List UInt8) ↔ a.size = 0 := by
  rw [ByteArray.toList_eq, Array.toList_eq_nil_iff, ← Array.size_eq_zero_iff]; rfl
theorem pname_f (a : ByteArray) : label_Name.f 40 a = some (nameOk a) := by
  have hj : ∀ b, label_Name.j0 40 a b = if b = true then some false else label_Name.l0 39 a (a.size : Int) 0 := fun b => by rw [label_Name.j0]
  unfold label_Name.f nameOk
  rw [hj, hj, hj]
  by_cases h0 : a.size = 0
  · rw [if_pos ((toList_nil a).2 h0), if_pos rfl, decide_eq_false (show ¬ (1 ≤ a.size ∧ a.size ≤ 16) by omega), Bool.false_and]
  · rw [if_neg (fun h => h0 ((toList_nil a).1 h))]
    by_cases h1 : (a.size : Int) > 16
    · rw [if_pos h1, if_pos rfl, decide_eq_false (show ¬ (1 ≤ a.size ∧ a.size ≤ 16) by omega), Bool.false_and]
    · have hl := pname_l0 a (by omega) a.size 0 39 (by omega) (by omega)
      rw [if_neg h1, if_pos (by omega), decide_eq_true (show 1 ≤ a.size ∧ a.size ≤ 16 by omega), Bool.true_and]
      rw [show ((0 : Nat) : Int) = 0 from rfl] at hl
      rw [hl]
      generalize okFrom a a.size 0 = o
      generalize bt a 0 = c
      by_cases h2 : c ≥ 48
      · rw [if_pos h2]
        by_cases h3 : c ≤ 57
        · rw [decide_eq_true h3, if_pos rfl, decide_eq_true (show 48 ≤ c ∧ c ≤ 57 from ⟨h2, h3⟩)]; rfl
        · rw [decide_eq_false h3, if_neg (by simp), decide_eq_false (show ¬ (48 ≤ c ∧ c ≤ 57) by omega)]; rfl
      · rw [if_neg h2, if_neg (by simp), decide_eq_false (show ¬ (48 ≤ c ∧ c ≤ 57) by omega)]; rfl
theorem rname_l0 (a : ByteArray) (hs : a.size ≤ 1000000) : ∀ (d i k : Nat), i + d = a.size → d < k → 0 < i → watchfireref02_Name.l0 k a (i : Int) = some (okFrom a d i && decide (1 ≤ a.size ∧ a.size ≤ 16))
  | 0, i, k + 1, hi, hk, h0 => by
    rw [watchfireref02_Name.l0, if_neg (by omega), if_pos (by omega)]
    rw [show okFrom a 0 i = true from rfl, Bool.true_and]; congr 1; apply decide_eq_decide.2; omega
  | d + 1, i, k + 1, hi, hk, h0 => by
    have ih := rname_l0 a hs d (i + 1) k (by omega) (by omega) (by omega)
    rw [watchfireref02_Name.l0, if_pos (by omega), if_pos (by omega), wid (x := (i : Int) + 1) (by omega) (by omega), show (i : Int) + 1 = ((i + 1 : Nat) : Int) by omega, ih, okFrom_succ]
    generalize decide (1 ≤ a.size ∧ a.size ≤ 16) = sz
    generalize okFrom a d (i + 1) = o
    generalize bt a (i : Int) = c
    have hi0 : ¬ (i : Int) = 0 := by omega
    by_cases h1 : c ≥ 97
    · rw [if_pos h1]
      by_cases h2 : c ≤ 122
      · rw [if_pos h2, okc_t (by omega), Bool.true_and]
      · rw [if_neg h2, if_neg (by omega), if_neg hi0, if_neg (by omega), if_pos (by omega), okc_f (by omega), Bool.false_and, Bool.false_and]
    · rw [if_neg h1]
      by_cases h2 : c = 95
      · rw [if_pos h2, okc_t (by omega), Bool.true_and]
      · rw [if_neg h2, if_neg hi0]
        by_cases h3 : c < 48
        · rw [if_pos h3, okc_f (by omega), Bool.false_and, Bool.false_and]
        · rw [if_neg h3]
          by_cases h4 : c > 57
          · rw [if_pos h4, okc_f (by omega), Bool.false_and, Bool.false_and]
          · rw [if_neg h4, okc_t (by omega), Bool.true_and]
  | _, _, 0, _, hk, _ => absurd hk (by omega)
theorem rname_f (a : ByteArray) (hs : a.size ≤ 1000000) (k : Nat) (hk : a.size + 3 ≤ k) : watchfireref02_Name.f k a = some (nameOk a) := by
  unfold watchfireref02_Name.f nameOk
  obtain ⟨k, rfl⟩ : ∃ n, k = n + 1 := ⟨k - 1, by omega⟩
  by_cases hz : a.size = 0
  · rw [watchfireref02_Name.l0, if_neg (by omega), if_neg (by omega), decide_eq_false (show ¬ (1 ≤ a.size ∧ a.size ≤ 16) by omega), Bool.false_and]
  · obtain ⟨d, hd⟩ : ∃ d, a.size = d + 1 := ⟨a.size - 1, by omega⟩
    have ih := rname_l0 a hs d 1 k (by omega) (by omega) (by omega)
    have ho : okFrom a a.size 0 = (okc (bt a 0) && okFrom a d 1) := by rw [hd]; rfl
    rw [watchfireref02_Name.l0, if_pos (by omega), if_pos (by omega), wid (x := (0 : Int) + 1) (by omega) (by omega), show (0 : Int) + 1 = ((1 : Nat) : Int) from rfl, ih, ho]
    generalize bt a 0 = c
    generalize okFrom a d 1 = o
    generalize (decide (1 ≤ a.size ∧ a.size ≤ 16)) = s
    have e2 : ∀ (y x : Bool), (y && (x && (false && o))) = false := by intro y x; cases y <;> cases x <;> rfl
    have e3 : ∀ (y x : Bool), (y && (!true && x)) = false := by intro y x; cases y <;> rfl
    by_cases h1 : c ≥ 97
    · rw [if_pos h1]
      by_cases h2 : c ≤ 122
      · rw [if_pos h2, okc_t (by omega), decide_eq_false (show ¬ (48 ≤ c ∧ c ≤ 57) by omega), Bool.true_and]
        cases o <;> cases s <;> rfl
      · rw [if_neg h2, if_neg (by omega), if_pos rfl, okc_f (by omega), e2]
    · rw [if_neg h1]
      by_cases h2 : c = 95
      · rw [if_pos h2, okc_t (by omega), decide_eq_false (show ¬ (48 ≤ c ∧ c ≤ 57) by omega), Bool.true_and]
        cases o <;> cases s <;> rfl
      · rw [if_neg h2, if_pos rfl]
        by_cases h3 : 48 ≤ c ∧ c ≤ 57
        · rw [decide_eq_true h3, e3]
        · rw [okc_f (by omega), e2]
theorem within_f (k n : Int) : watchfireref26_within.f k n = some (mayB k n) := by
  unfold watchfireref26_within.f mayB
  by_cases h0 : k = 0
  · rw [if_pos h0, if_pos h0]
    by_cases h : n ≥ 0
    · rw [if_pos h]; congr 1; apply decide_eq_decide.2; omega
    · rw [if_neg h, decide_eq_false (by omega)]
  rw [if_neg h0, if_neg h0]
  by_cases h1 : k = 1
  · rw [if_pos h1, if_pos h1]
    by_cases h : n ≥ 1
    · rw [if_pos h]; congr 1; apply decide_eq_decide.2; omega
    · rw [if_neg h, decide_eq_false (by omega)]
  rw [if_neg h1, if_neg h1]
  by_cases h2 : k = 2
  · rw [if_pos h2, if_pos h2]
    by_cases h : n ≥ 1
    · rw [if_pos h]
      by_cases h' : n ≤ 31
      · rw [if_pos h', decide_eq_true (by omega)]
      · rw [if_neg h', if_pos (by omega)]; congr 1; apply decide_eq_decide.2; omega
    · rw [if_neg h]
      by_cases h' : n ≥ -31
      · rw [if_pos h']; congr 1; apply decide_eq_decide.2; omega
      · rw [if_neg h', decide_eq_false (by omega)]
  rw [if_neg h2, if_neg h2]
  by_cases h3 : k = 3
  · rw [if_pos h3, if_pos h3]
    by_cases h : n ≥ 1
    · rw [if_pos h]; congr 1; apply decide_eq_decide.2; omega
    · rw [if_neg h, decide_eq_false (by omega)]
  rw [if_neg h3, if_neg h3]
  by_cases h : n ≥ 0
  · rw [if_pos h]; congr 1; apply decide_eq_decide.2; omega
  · rw [if_neg h, decide_eq_false (by omega)]
theorem may_days {n : Int} (h : mayB 2 n = true) : 1 ≤ n ∧ n ≤ 31 ∨ -31 ≤ n ∧ n ≤ -1 := by
  unfold mayB at h
  rw [if_neg (by omega), if_neg (by omega), if_pos rfl] at h
  exact of_decide_eq_true h
theorem rright_f (j : Nat) (k a b : Int) : watchfireref26_right.f (j + 1) k a b = some (rightB k a b) := by
  unfold watchfireref26_right.f rightB
  rw [within_f, within_f]
  simp only [Option.bind_some]
  cases ha : mayB k a
  · simp [watchfireref26_right.j0]
  · cases hb : mayB k b
    · simp [watchfireref26_right.j0]
    · simp only [watchfireref26_right.j0, Bool.not_true, if_true, Bool.true_and, if_false, Bool.false_eq_true]
      by_cases h2 : k = 2
      · subst h2
        have h3 := may_days ha
        have h4 := may_days hb
        rw [if_pos rfl, if_neg (show ¬ (2 : Int) = 4 by omega)]
        have e : (decide (a > 0) != decide (b > 0)) = (decide (a < 0) != decide (b < 0)) := by
          by_cases p : a > 0 <;> by_cases q : b > 0
          · rw [decide_eq_true p, decide_eq_true q, decide_eq_false (show ¬ a < 0 by omega), decide_eq_false (show ¬ b < 0 by omega)]; rfl
          · rw [decide_eq_true p, decide_eq_false q, decide_eq_false (show ¬ a < 0 by omega), decide_eq_true (show b < 0 by omega)]; rfl
          · rw [decide_eq_false p, decide_eq_true q, decide_eq_true (show a < 0 by omega), decide_eq_false (show ¬ b < 0 by omega)]; rfl
          · rw [decide_eq_false p, decide_eq_false q, decide_eq_true (show a < 0 by omega), decide_eq_true (show b < 0 by omega)]; rfl
        rw [e]
        by_cases h : (decide (a < 0) != decide (b < 0)) = true
        · rw [if_pos h, if_pos ⟨rfl, h⟩]
        · rw [if_neg h, if_neg (fun h' => h h'.2)]
      · rw [if_neg h2]
        by_cases h4 : k = 4
        · rw [if_pos h4, if_pos h4]
        · rw [if_neg h4, if_neg h4, if_neg (fun h' => h2 h'.1)]
theorem rd55 (l : List S55) (j : Nat) (h : j < l.length) : rd_T55 l (j : Int) = l[j] := by unfold rd_T55; simp [h]
theorem rchk_l1 (nm : ByteArray) (l1 l2 l3 l4 l5 : List S55) (ah i : Int) (l : List S55) (R : Option Int) (N : Nat) (hb : l.length ≤ 1000000) (hR : ∀ k, N ≤ k → watchfireref26_Check.l0 k (wrap64 (i + 1)) nm l1 l2 l3 l4 l5 ah = R) :
    ∀ (d j k : Nat), j + d = l.length → N + d + 2 ≤ k → watchfireref26_Check.l1 k i l (j : Int) nm l1 l2 l3 l4 l5 ah = if ((l.drop j).all fun x => rightB i x.f0 x.f1) = true then R else some 15
  | 0, j, k + 1, hj, hk => by
    rw [watchfireref26_Check.l1, if_neg (by omega), hR k (by omega), List.drop_of_length_le (by omega)]
    simp
  | d + 1, j, k + 2, hj, hk => by
    have ih := rchk_l1 nm l1 l2 l3 l4 l5 ah i l R N hb hR d (j + 1) (k + 1) (by omega) (by omega)
    rw [watchfireref26_Check.l1, if_pos (by omega), if_pos (by omega), rright_f, Option.bind_some, wid (x := (j : Int) + 1) (by omega) (by omega), show (j : Int) + 1 = ((j + 1 : Nat) : Int) by omega, ih, rd55 l j (by omega), List.drop_eq_getElem_cons (show j < l.length by omega), List.all_cons]
    cases rightB i l[j].f0 l[j].f1
    · simp
    · simp
  | _, _, 0, _, hk => absurd hk (by omega)
  | d + 1, _, 1, _, hk => absurd hk (by omega)
theorem rchk_l0 (nm : ByteArray) (l1 l2 l3 l4 l5 : List S55) (ah i : Int) (l : List S55) (t : List (List S55)) (N : Nat) (hi0 : 0 ≤ i) (hi : i < 5) (hb : l.length ≤ 20) (hp : watchfireref26_part.f nm l1 l2 l3 l4 l5 ah i = some l) (hR : ∀ k, N ≤ k → watchfireref26_Check.l0 k (i + 1) nm l1 l2 l3 l4 l5 ah = some (chk (i + 1) t ah)) :
    ∀ k, N + 30 ≤ k → watchfireref26_Check.l0 k i nm l1 l2 l3 l4 l5 ah = some (chk i (l :: t) ah) := by
  intro k hk
  obtain ⟨k, rfl⟩ : ∃ n, k = n + 1 := ⟨k - 1, by omega⟩
  rw [watchfireref26_Check.l0, if_pos hi, hp, Option.bind_some]
  unfold chk
  by_cases h8 : (l.length : Int) > 8
  · rw [if_pos h8, if_pos (by omega)]
  · rw [if_neg h8, if_neg (by omega)]
    have := rchk_l1 nm l1 l2 l3 l4 l5 ah i l (some (chk (i + 1) t ah)) N (by omega) (fun k hk => by rw [wid (x := i + 1) (by omega) (by omega)]; exact hR k hk) l.length 0 k (by omega) (by omega)
    rw [show ((0 : Nat) : Int) = 0 from rfl, List.drop_zero] at this
    rw [this]
    split <;> rfl
/-- At most 20 ranges a part. -/
def Few (l1 l2 l3 l4 l5 : List S55) : Prop := l1.length ≤ 20 ∧ l2.length ≤ 20 ∧ l3.length ≤ 20 ∧ l4.length ≤ 20 ∧ l5.length ≤ 20
theorem rcheck_f (nm : ByteArray) (l1 l2 l3 l4 l5 : List S55) (ah : Int) (hf : Few l1 l2 l3 l4 l5) (hn : nm.size ≤ 1000) (k : Nat) (hk : 1100 ≤ k) : watchfireref26_Check.f k nm l1 l2 l3 l4 l5 ah = ICheck.f nm l1 l2 l3 l4 l5 ah := by
  obtain ⟨f1, f2, f3, f4, f5⟩ := hf
  have h5 : ∀ k, 1 ≤ k → watchfireref26_Check.l0 k (4 + 1) nm l1 l2 l3 l4 l5 ah = some (chk (4 + 1) [] ah) := by
    intro k hk
    obtain ⟨k, rfl⟩ : ∃ n, k = n + 1 := ⟨k - 1, by omega⟩
    rw [watchfireref26_Check.l0, if_neg (by omega)]
    unfold chk
    by_cases h1 : ah < -1440
    · rw [if_pos h1, if_pos (Or.inl h1)]
    · rw [if_neg h1]
      by_cases h2 : ah > 1440
      · rw [if_pos h2, if_pos (Or.inr h2)]
      · rw [if_neg h2, if_neg (by omega)]
  have h4 := rchk_l0 nm l1 l2 l3 l4 l5 ah 4 l5 _ 1 (by omega) (by omega) f5 rfl h5
  have h3 := rchk_l0 nm l1 l2 l3 l4 l5 ah 3 l4 _ 31 (by omega) (by omega) f4 rfl h4
  have h2 := rchk_l0 nm l1 l2 l3 l4 l5 ah 2 l3 _ 61 (by omega) (by omega) f3 rfl h3
  have h1 := rchk_l0 nm l1 l2 l3 l4 l5 ah 1 l2 _ 91 (by omega) (by omega) f2 rfl h2
  have h0 := rchk_l0 nm l1 l2 l3 l4 l5 ah 0 l1 _ 121 (by omega) (by omega) f1 rfl h1
  unfold watchfireref26_Check.f ICheck.f
  rw [rname_f nm (by omega) k (by omega), pname_f, Option.bind_some, Option.bind_some, h0 k (by omega)]
  split <;> rfl
instance (l1 l2 l3 l4 l5 : List S55) : Decidable (Few l1 l2 l3 l4 l5) := by unfold Few; infer_instance
theorem light_f (nm : ByteArray) (l1 l2 l3 l4 l5 : List S55) (ah : Int) (k : Nat) : watchfireref26_Light.f (k + 6) nm l1 l2 l3 l4 l5 ah = some (decide (Few l1 l2 l3 l4 l5 ∧ nm.size ≤ 200)) := by
  have hst : ∀ (k : Nat) (i : Int) (l : List S55), 0 ≤ i → i < 5 → watchfireref26_part.f nm l1 l2 l3 l4 l5 ah i = some l → watchfireref26_Light.l0 (k + 1) i nm l1 l2 l3 l4 l5 ah = if l.length > 20 then some false else watchfireref26_Light.l0 k (i + 1) nm l1 l2 l3 l4 l5 ah := by
    intro k i l h0 h5 hp
    rw [watchfireref26_Light.l0, if_pos h5, hp, Option.bind_some, wid (x := i + 1) (by omega) (by omega)]
    by_cases h : l.length > 20
    · rw [if_pos h, if_pos (by omega)]
    · rw [if_neg h, if_neg (by omega)]
  unfold watchfireref26_Light.f Few
  rw [hst (k + 5) 0 l1 (by omega) (by omega) rfl]
  by_cases h1 : l1.length > 20
  · rw [if_pos h1]; congr 1; symm; apply decide_eq_false; omega
  rw [if_neg h1, hst (k + 4) (0 + 1) l2 (by omega) (by omega) rfl]
  by_cases h2 : l2.length > 20
  · rw [if_pos h2]; congr 1; symm; apply decide_eq_false; omega
  rw [if_neg h2, hst (k + 3) (0 + 1 + 1) l3 (by omega) (by omega) rfl]
  by_cases h3 : l3.length > 20
  · rw [if_pos h3]; congr 1; symm; apply decide_eq_false; omega
  rw [if_neg h3, hst (k + 2) (0 + 1 + 1 + 1) l4 (by omega) (by omega) rfl]
  by_cases h4 : l4.length > 20
  · rw [if_pos h4]; congr 1; symm; apply decide_eq_false; omega
  rw [if_neg h4, hst (k + 1) (0 + 1 + 1 + 1 + 1) l5 (by omega) (by omega) rfl]
  by_cases h5 : l5.length > 20
  · rw [if_pos h5]; congr 1; symm; apply decide_eq_false; omega
  rw [if_neg h5, watchfireref26_Light.l0, if_neg (by omega)]
  congr 1; apply decide_eq_decide.2; omega
end Go.Proofs.YtgipdacenppmdaaGreatDoor.G
