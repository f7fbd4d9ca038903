/- The reference's timers as lists: what its functions answer, told plainly; no program in sight. -/
import Derived.Test.YtbocdfpgjkjilaaTA
import Derived.Test.YtbocdfpgjkjilaaRB
import Derived.Lib.Bytealg
set_option linter.unusedVariables false
set_option linter.unusedSimpArgs false
namespace Go.Proofs.Ytbocdfpgjkjilaa.T
open Go.RowKit Go.Maps Go.Proofs.YtbocdfpgjkjilaaW.PrintWords Go.Proofs.Ytbocdfpgjkjilaa.PTimerPlays Go.Proofs.Ytbocdfpgjkjilaa.R

theorem tl (s : ByteArray) : s.toList = s.data.toList := ByteArray.toList_eq s
theorem tl_inj {a b : ByteArray} : a.toList = b.toList ↔ a = b := by
  constructor
  · intro h
    by_cases e : a = b
    · exact e
    · exact absurd (by simpa [tl] using h) (key_ne e)
  · rintro rfl; rfl
theorem bless (x y : List UInt8) : Op.bytesLess x y = decide (x < y) := by
  induction x generalizing y with
  | nil => cases y <;> simp [Op.bytesLess]
  | cons a x ih =>
    cases y with
    | nil => simp [Op.bytesLess]
    | cons b y =>
      rw [Op.bytesLess, ih y]
      simp only [List.cons_lt_cons_iff]
      by_cases h1 : a < b <;> by_cases h2 : a = b <;> by_cases h3 : x < y <;> simp [h1, h2, h3]

def ltX (x y : S52) : Prop := x.f1 < y.f1 ∨ (x.f1 = y.f1 ∧ x.f0.data.toList < y.f0.data.toList)
instance (x y : S52) : Decidable (ltX x y) := inferInstanceAs (Decidable (_ ∨ _))
theorem ltX_irrefl (x : S52) : ¬ ltX x x := by
  rintro (h | ⟨_, h⟩)
  · omega
  · exact List.lt_irrefl _ h
theorem ltX_trans {x y z : S52} (h : ltX x y) (k : ltX y z) : ltX x z := by
  rcases h with h | ⟨h1, h2⟩ <;> rcases k with k | ⟨k1, k2⟩
  · exact .inl (by omega)
  · exact .inl (by omega)
  · exact .inl (by omega)
  · exact .inr ⟨by omega, List.lt_trans h2 k2⟩
theorem ltX_total {x y : S52} (h : ¬ ltX x y) (hne : x.f0 ≠ y.f0) : ltX y x := by
  by_cases h1 : x.f1 = y.f1
  · refine .inr ⟨h1.symm, ?_⟩
    have h2 : ¬ x.f0.data.toList < y.f0.data.toList := fun e => h (.inr ⟨h1, e⟩)
    have h3 := List.not_lt.1 h2
    rcases List.le_iff_lt_or_eq.1 h3 with h4 | h4
    · exact h4
    · exact absurd h4.symm (key_ne hne)
  · have h2 : ¬ x.f1 < y.f1 := fun e => h (.inl e)
    exact .inl (by omega)

/-! ### the reference's functions -/
theorem wrap1 {i : Int} {n : Nat} (h0 : 0 ≤ i) (h1 : i < n) (hn : n ≤ 9223372036854775807) : wrap64 (i + 1) = i + 1 := by unfold wrap64; omega
theorem rd_get (L : List S52) (j : Nat) (h : j < L.length) : rd_T52 L (j : Int) = L[j] := by simp [rd_T52, h]

theorem next_l0 (L : List S52) (key : ByteArray) (hL : L.length < 5864062014805) (d : Nat) : ∀ (k j : Nat), j + d = L.length → d < k → RNext.l0 k key (j : Int) L = some (tAt (L.drop j) key, tHas (L.drop j) key) := by
  induction d with
  | zero =>
    intro k j h hk
    obtain ⟨k, rfl⟩ : ∃ m, k = m + 1 := ⟨k - 1, by omega⟩
    simp only [RNext.l0]
    rw [if_neg (by omega), List.drop_eq_nil_of_le (by omega)]
    rfl
  | succ d ih =>
    intro k j h hk
    obtain ⟨k, rfl⟩ : ∃ m, k = m + 1 := ⟨k - 1, by omega⟩
    simp only [RNext.l0]
    have hj : j < L.length := by omega
    rw [if_pos (by omega), if_pos (by omega), rd_get L j hj, List.drop_eq_getElem_cons hj]
    have e1 : ((j : Int) + 1) = ((j + 1 : Nat) : Int) := by omega
    rw [wrap1 (n := L.length) (by omega) (by omega) (by omega), e1, ih k (j + 1) (by omega) (by omega)]
    generalize L.drop (j + 1) = t
    generalize L[j] = x
    by_cases e : x.f0 = key
    · rw [if_pos (tl_inj.2 e)]
      simp [tAt, tHas, e]
    · rw [if_neg (fun h => e (tl_inj.1 h))]
      simp [tAt, tHas, e]
theorem next_f (L : List S52) (key : ByteArray) (hL : L.length < 5864062014805) : RNext.f (L.length + 1) L key = some (tAt L key, tHas L key) :=
  next_l0 L key hL L.length (L.length + 1) 0 (by omega) (by omega)

theorem drop_l0 (L : List S52) (key : ByteArray) (hL : L.length < 5864062014805) (d : Nat) : ∀ (k j : Nat) (acc : List S52), acc.length ≤ j → j + d = L.length → d < k →
    RDrop.l0 k key acc (j : Int) L = some (acc ++ delL (L.drop j) key, decide ((acc ++ delL (L.drop j) key).length < L.length)) := by
  induction d with
  | zero =>
    intro k j acc ha h hk
    obtain ⟨k, rfl⟩ : ∃ m, k = m + 1 := ⟨k - 1, by omega⟩
    simp only [RDrop.l0]
    rw [if_neg (by omega), List.drop_eq_nil_of_le (by omega)]
    simp [delL]
  | succ d ih =>
    intro k j acc ha h hk
    obtain ⟨k, rfl⟩ : ∃ m, k = m + 1 := ⟨k - 1, by omega⟩
    simp only [RDrop.l0]
    have hj : j < L.length := by omega
    rw [if_pos (by omega), if_pos (by omega), rd_get L j hj, List.drop_eq_getElem_cons hj]
    have e1 : ((j : Int) + 1) = ((j + 1 : Nat) : Int) := by omega
    have i1 := ih k (j + 1) acc (by omega) (by omega) (by omega)
    have i2 := ih k (j + 1) (acc ++ [L[j]]) (by simp; omega) (by omega) (by omega)
    rw [wrap1 (n := L.length) (by omega) (by omega) (by omega), e1, i1, show ((⟨(L[j]).f0, (L[j]).f1⟩ : S52)) = L[j] from rfl, i2]
    generalize L.drop (j + 1) = t
    generalize L[j] = x
    by_cases e : x.f0 = key
    · rw [if_pos (tl_inj.2 e)]
      simp [delL, e]
    · rw [if_neg (fun h => e (tl_inj.1 h)), if_pos (by omega)]
      simp [delL, e]
theorem delL_len (L : List S52) (key : ByteArray) : decide ((delL L key).length < L.length) = tHas L key := by
  cases h : tHas L key with
  | false => rw [delL_no h]; simp
  | true =>
    simp only [decide_eq_true_eq]
    obtain ⟨x, hx, he⟩ := List.any_eq_true.1 h
    exact List.length_filter_lt_length_iff_exists.2 ⟨x, hx, by simpa using he⟩
theorem drop_f (L : List S52) (key : ByteArray) (hL : L.length < 5864062014805) : RDrop.f (L.length + 1) L key = some (delL L key, tHas L key) := by
  have := drop_l0 L key hL L.length (L.length + 1) 0 [] (by simp) (by omega) (by omega)
  simp only [List.drop_zero, List.nil_append, delL_len] at this
  exact this

/-! ### put -/
def insL (L : List S52) (x : S52) : List S52 := L.takeWhile (fun y => decide (ltX y x)) ++ x :: L.dropWhile (fun y => decide (ltX y x))
theorem insL_perm (L : List S52) (x : S52) : (insL L x).Perm (x :: L) := by
  unfold insL
  refine List.perm_middle.trans ?_
  rw [List.takeWhile_append_dropWhile]
theorem takeWhile_mem {p : S52 → Bool} {L : List S52} {y : S52} (h : y ∈ L.takeWhile p) : y ∈ L ∧ p y = true := by
  induction L with
  | nil => cases h
  | cons z L ih =>
    rw [List.takeWhile_cons] at h
    by_cases hz : p z = true
    · rw [if_pos hz] at h
      rcases List.mem_cons.1 h with rfl | h
      · exact ⟨List.mem_cons_self, hz⟩
      · exact ⟨List.mem_cons_of_mem _ (ih h).1, (ih h).2⟩
    · rw [if_neg hz] at h; cases h
theorem dropWhile_sorted {L : List S52} {x : S52} (hs : L.Pairwise ltX) (hne : ∀ y ∈ L, y.f0 ≠ x.f0) : ∀ y ∈ L.dropWhile (fun y => decide (ltX y x)), ltX x y := by
  induction L with
  | nil => intro y hy; cases hy
  | cons z L ih =>
    intro y hy
    rw [List.dropWhile_cons] at hy
    by_cases hz : ltX z x
    · rw [if_pos (by simpa using hz)] at hy
      exact ih (List.pairwise_cons.1 hs).2 (fun y hy => hne y (List.mem_cons_of_mem _ hy)) y hy
    · rw [if_neg (by simpa using hz)] at hy
      have hxz := ltX_total hz (hne z List.mem_cons_self)
      rcases List.mem_cons.1 hy with rfl | hy
      · exact hxz
      · exact ltX_trans hxz ((List.pairwise_cons.1 hs).1 y hy)
theorem insL_sorted {L : List S52} {x : S52} (hs : L.Pairwise ltX) (hne : ∀ y ∈ L, y.f0 ≠ x.f0) : (insL L x).Pairwise ltX := by
  unfold insL
  have hd := dropWhile_sorted hs hne
  rw [List.pairwise_append]
  refine ⟨hs.sublist (List.takeWhile_sublist _), List.pairwise_cons.2 ⟨hd, hs.sublist (List.dropWhile_sublist _)⟩, fun a ha c hc => ?_⟩
  have h1 := (takeWhile_mem ha).2
  simp only [decide_eq_true_eq] at h1
  rcases List.mem_cons.1 hc with rfl | hc
  · exact h1
  · exact ltX_trans h1 (hd c hc)

theorem put_tail (L : List S52) (x : S52) (j : Nat) (hL : L.length < 5864062014804) (hj : j ≤ L.length) :
    (if (j : Int) ≤ (L.length : Int) then ((some (L.take (j : Int).toNat : List (S52))).bind fun y124 => (if ([] : List (S52)).length + y124.length < 5864062014805 then ((some (([] : List (S52)) ++ y124 : List (S52))).bind fun y128 => ((some (([x] : List (S52)) : List (S52))).bind fun y131 => (if y128.length + y131.length < 5864062014805 then ((some (y128 ++ y131 : List (S52))).bind fun y134 => ((some (L.drop (j : Int).toNat : List (S52))).bind fun y137 => (if y134.length + y137.length < 5864062014805 then (some (y134 ++ y137)) else (none)))) else (none)))) else (none))) else (none))
      = some (L.take j ++ x :: L.drop j) := by
  rw [if_pos (by omega)]
  simp only [Option.bind_some, Int.toNat_natCast, List.nil_append, List.length_nil, List.length_take, List.length_append, List.length_singleton, List.length_drop]
  rw [if_pos (by omega), if_pos (by omega), if_pos (by omega)]
  simp
theorem put_l0 (L : List S52) (x : S52) (hL : L.length < 5864062014804) (d : Nat) : ∀ (k j : Nat), j + d = L.length → d < k → (∀ i (h : i < L.length), i < j → ltX L[i] x) → Rput.l0 k (j : Int) L x.f0 x.f1 = some (insL L x) := by
  have hin : ∀ j, j ≤ L.length → (∀ i (h : i < L.length), i < j → ltX L[i] x) → (∀ h : j < L.length, ¬ ltX L[j] x) → L.take j ++ x :: L.drop j = insL L x := by
    intro j hj h1 h2
    have e1 : L = L.take j ++ L.drop j := (List.take_append_drop j L).symm
    have a1 : ∀ y ∈ L.take j, decide (ltX y x) = true := by
      intro y hy
      obtain ⟨i, hi, rfl⟩ := List.getElem_of_mem hy
      rw [List.getElem_take]
      rw [List.length_take] at hi
      exact decide_eq_true (h1 i (by omega) (by omega))
    have a2 : (L.drop j).takeWhile (fun y => decide (ltX y x)) = [] ∧ (L.drop j).dropWhile (fun y => decide (ltX y x)) = L.drop j := by
      by_cases hlt : j < L.length
      · rw [List.drop_eq_getElem_cons hlt, List.takeWhile_cons, List.dropWhile_cons]
        simp [h2 hlt]
      · rw [List.drop_eq_nil_of_le (by omega)]; simp
    unfold insL
    conv => rhs; rw [e1]
    rw [List.takeWhile_append_of_pos a1, List.dropWhile_append_of_pos a1, a2.1, a2.2]
    simp
  induction d with
  | zero =>
    intro k j h hk hb
    obtain ⟨k, rfl⟩ : ∃ m, k = m + 1 := ⟨k - 1, by omega⟩
    simp only [Rput.l0]
    rw [if_neg (by omega)]
    exact (put_tail L x j hL (by omega)).trans (by rw [hin j (by omega) hb (fun h => by omega)])
  | succ d ih =>
    intro k j h hk hb
    obtain ⟨k, rfl⟩ : ∃ m, k = m + 1 := ⟨k - 1, by omega⟩
    have hj : j < L.length := by omega
    have e1 : ((j : Int) + 1) = ((j + 1 : Nat) : Int) := by omega
    simp only [Rput.l0]
    rw [if_pos (by omega), if_pos (by omega), rd_get L j hj, wrap1 (n := L.length) (by omega) (by omega) (by omega), e1]
    have hnext : ltX L[j] x → Rput.l0 k ((j + 1 : Nat) : Int) L x.f0 x.f1 = some (insL L x) := fun hx => ih k (j + 1) (by omega) (by omega) (fun i hi hij => by
      by_cases e : i = j
      · subst e; exact hx
      · exact hb i hi (by omega))
    have hstop : ¬ ltX L[j] x → _ := fun hx => (put_tail L x j hL (by omega)).trans (by rw [hin j (by omega) hb (fun _ => hx)])
    by_cases c1 : L[j].f1 < x.f1
    · rw [if_pos c1]
      exact hnext (.inl c1)
    · rw [if_neg c1]
      by_cases c2 : L[j].f1 = x.f1
      · rw [if_pos c2]
        by_cases c3 : Op.bytesLess L[j].f0.toList x.f0.toList = true
        · rw [if_pos c3]
          refine hnext (.inr ⟨c2, ?_⟩)
          rw [bless, tl, tl] at c3
          exact of_decide_eq_true c3
        · rw [if_neg c3]
          refine hstop ?_
          rintro (h1 | ⟨_, h2⟩)
          · omega
          · exact c3 (by rw [bless, tl, tl]; exact decide_eq_true h2)
      · rw [if_neg c2]
        refine hstop ?_
        rintro (h1 | ⟨h1, _⟩)
        · omega
        · exact c2 h1
theorem delL_le (L : List S52) (k : ByteArray) : (delL L k).length ≤ L.length := List.length_filter_le _ _
theorem put_f (L : List S52) (x : S52) (hL : L.length < 5864062014804) : Rput.f (L.length + 1) L x.f0 x.f1 = some (insL (delL L x.f0) x) := by
  unfold Rput.f
  rw [drop_f L x.f0 (by omega)]
  simp only [Option.bind_some]
  have hl := delL_le L x.f0
  exact put_l0 (delL L x.f0) x (by omega) (delL L x.f0).length (L.length + 1) 0 (by omega) (by omega) (fun i _ h => by omega)
end Go.Proofs.Ytbocdfpgjkjilaa.T
