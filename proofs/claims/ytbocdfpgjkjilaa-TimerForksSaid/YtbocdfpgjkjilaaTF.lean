/- What the reference's Keep and Due, and the law's few and sameTexts answer, told plainly. -/
import Derived.Test.YtbocdfpgjkjilaaTE
set_option linter.unusedVariables false
set_option linter.unusedSimpArgs false
namespace Go.Proofs.Ytbocdfpgjkjilaa.T
open Go.RowKit Go.Maps Go.Sort Go.Shelf Go.Proofs.YtbocdfpgjkjilaaW.PrintWords Go.Proofs.Ytbocdfpgjkjilaa.PTimerPlays Go.Proofs.Ytbocdfpgjkjilaa.R

theorem cast1 (j : Nat) : ((j : Int) + 1) = ((j + 1 : Nat) : Int) := by omega
theorem rdOf_get (l : List ByteArray) (j : Nat) (h : j < l.length) : rdOf ByteArray.empty l (j : Int) = l[j] := by simp [rdOf, h]

/-! ### Due -/
theorem due_l0 (L : List S52) (now : Int) (hL : L.length ≤ 1000000000) (d : Nat) : ∀ (k j : Nat) (acc : List ByteArray), acc.length ≤ j → j + d = L.length → d < k → RDue.l0 k now acc (j : Int) L = some (acc ++ dueL (L.drop j) now) := by
  induction d with
  | zero =>
    intro k j acc ha h hk
    obtain ⟨k, rfl⟩ : ∃ m, k = m + 1 := ⟨k - 1, by omega⟩
    simp only [RDue.l0]
    rw [if_neg (by omega), List.drop_eq_nil_of_le (by omega)]
    simp [dueL]
  | succ d ih =>
    intro k j acc ha h hk
    obtain ⟨k, rfl⟩ : ∃ m, k = m + 1 := ⟨k - 1, by omega⟩
    simp only [RDue.l0]
    have hj : j < L.length := by omega
    rw [if_pos (by omega), if_pos (by omega), rd_get L j hj, List.drop_eq_getElem_cons hj, wrap1 (n := L.length) (by omega) (by omega) (by omega), cast1, ih k (j + 1) acc (by omega) (by omega) (by omega), ih k (j + 1) (acc ++ [L[j].f0]) (by simp; omega) (by omega) (by omega)]
    generalize L.drop (j + 1) = t
    generalize L[j] = x
    by_cases e : x.f1 ≤ now
    · rw [if_pos e, if_pos (by omega)]
      simp [dueL, e]
    · rw [if_neg e]
      simp [dueL, e]
theorem rdue_any (A : Option Addr) (c : Nat) (L : List S52) (now : Int) (w : World) (hc : Kd.C k52 w A L.length L) (hcap : L.length ≤ c) (hL : L.length ≤ 1000000000) :
    Calls Try.prog 28 #[.agg #[.slice A L.length c], .int .i64 now] w fun e w' => ∃ v, e = .returned v ∧ Kd.R Kd.string 9 w' w.heap.size (fun _ => True) v (dueL L now) ∧ Below w.heap.size w w' :=
  RDue.calls (L.length + 1) A c L now _ w hc hcap (due_l0 L now hL L.length (L.length + 1) 0 [] (by simp) (by omega) (by omega))

/-! ### sameTexts -/
theorem same_l0 (a b : List ByteArray) (hl : a.length = b.length) (hL : a.length ≤ 1000000000) (d : Nat) : ∀ (k j : Nat), j + d = a.length → d < k → WsameTexts.l0 k a b (j : Int) = some (decide (a.drop j = b.drop j)) := by
  induction d with
  | zero =>
    intro k j h hk
    obtain ⟨k, rfl⟩ : ∃ m, k = m + 1 := ⟨k - 1, by omega⟩
    simp only [WsameTexts.l0]
    rw [if_neg (by omega), List.drop_eq_nil_of_le (by omega), List.drop_eq_nil_of_le (by omega)]
    simp
  | succ d ih =>
    intro k j h hk
    obtain ⟨k, rfl⟩ : ∃ m, k = m + 1 := ⟨k - 1, by omega⟩
    simp only [WsameTexts.l0]
    have hj : j < a.length := by omega
    have hj2 : j < b.length := by omega
    rw [if_pos (by omega), if_pos (by omega), if_pos (by omega), rdOf_get a j hj, rdOf_get b j hj2, List.drop_eq_getElem_cons hj, List.drop_eq_getElem_cons hj2, wrap1 (n := a.length) (by omega) (by omega) (by omega), cast1, ih k (j + 1) (by omega) (by omega)]
    generalize a.drop (j + 1) = t
    generalize b.drop (j + 1) = t'
    generalize a[j] = x
    generalize b[j] = y
    by_cases e : x = y
    · rw [if_pos (tl_inj.2 e)]
      simp [e]
    · rw [if_neg (fun h => e (tl_inj.1 h))]
      simp [e]
theorem same_f (a b : List ByteArray) (hL : a.length ≤ 1000000000) : WsameTexts.f (a.length + 1) a b = some (decide (a = b)) := by
  unfold WsameTexts.f
  by_cases hl : a.length = b.length
  · rw [if_pos (by omega)]
    have := same_l0 a b hl hL a.length (a.length + 1) 0 (by omega) (by omega)
    simpa using this
  · rw [if_neg (by omega)]
    have : a ≠ b := fun e => hl (by rw [e])
    simp [this]
theorem texts_any (A : Option Addr) (c : Nat) (a : List ByteArray) (B : Option Addr) (d : Nat) (b : List ByteArray) (w : World) (ha : Kd.C Kd.string w A a.length a) (hc : a.length ≤ c) (hb : Kd.C Kd.string w B b.length b) (hd : b.length ≤ d) (hL : a.length ≤ 1000000000) :
    Calls Try.prog 27 #[.slice A a.length c, .slice B b.length d] w fun e w' => e = .returned (.bool (decide (a = b))) ∧ Below w.heap.size w w' :=
  (WsameTexts.calls (a.length + 1) A c a B d b _ w ha hc hb hd (same_f a b hL)).mono fun _ _ ⟨he, hw⟩ => ⟨he, hw.below⟩

/-! ### few -/
def fewB (l : List S44) : Bool := decide (l.length ≤ 150) && l.all fun a => decide (a.f4.length ≤ 60)
theorem rd44_get (l : List S44) (j : Nat) (h : j < l.length) : rd_T44 l (j : Int) = l[j] := by simp [rd_T44, h]
theorem few_l0 (l : List S44) (hL : l.length ≤ 150) (d : Nat) : ∀ (k j : Nat), j + d = l.length → d < k → Wfew.l0 k l (j : Int) = some ((l.drop j).all fun a => decide (a.f4.length ≤ 60)) := by
  induction d with
  | zero =>
    intro k j h hk
    obtain ⟨k, rfl⟩ : ∃ m, k = m + 1 := ⟨k - 1, by omega⟩
    simp only [Wfew.l0]
    rw [if_neg (by omega), List.drop_eq_nil_of_le (by omega)]
    simp
  | succ d ih =>
    intro k j h hk
    obtain ⟨k, rfl⟩ : ∃ m, k = m + 1 := ⟨k - 1, by omega⟩
    simp only [Wfew.l0]
    have hj : j < l.length := by omega
    rw [if_pos (by omega), if_pos (by omega), rd44_get l j hj, List.drop_eq_getElem_cons hj, wrap1 (n := l.length) (by omega) (by omega) (by omega), cast1, ih k (j + 1) (by omega) (by omega)]
    generalize l.drop (j + 1) = t
    generalize l[j] = x
    by_cases e : (x.f4.length : Int) > 60
    · rw [if_pos e]
      have : ¬ x.f4.length ≤ 60 := by omega
      simp [this]
    · rw [if_neg e]
      have : x.f4.length ≤ 60 := by omega
      simp [this]
theorem few_f (l : List S44) : Wfew.f (l.length + 1) l = some (fewB l) := by
  unfold Wfew.f fewB
  by_cases h : l.length ≤ 150
  · rw [if_neg (by omega)]
    have := few_l0 l h l.length (l.length + 1) 0 (by omega) (by omega)
    simpa [h] using this
  · rw [if_pos (by omega)]
    simp [h]
theorem few_any (A : Option Addr) (c : Nat) (l : List S44) (w : World) (hc : Kd.C k44 w A l.length l) (hcap : l.length ≤ c) :
    Calls Try.prog 15 #[.slice A l.length c] w fun e w' => e = .returned (.bool (fewB l)) ∧ Below w.heap.size w w' :=
  (Wfew.calls (l.length + 1) A c l _ w hc hcap (few_f l)).mono fun _ _ ⟨he, hw⟩ => ⟨he, hw.below⟩

/-! ### Keep -/
theorem keep_l (L : List S52) (keys : List ByteArray) (hL : L.length ≤ 1000000000) (hK : keys.length ≤ 1000000000) (d : Nat) :
    (∀ (k j : Nat) (acc : List S52), acc.length ≤ j → j + d = L.length → d * (keys.length + 2) < k → RKeep.l0 k keys acc (j : Int) L = some (acc ++ keepL (L.drop j) keys, (L.length : Int) - ((acc ++ keepL (L.drop j) keys).length : Int))) := by
  induction d with
  | zero =>
    intro k j acc ha h hk
    obtain ⟨k, rfl⟩ : ∃ m, k = m + 1 := ⟨k - 1, by omega⟩
    simp only [RKeep.l0]
    rw [if_neg (by omega), List.drop_eq_nil_of_le (by omega)]
    simp only [keepL, List.filter_nil, List.append_nil]
    congr 2
    unfold wrap64; omega
  | succ d ih =>
    have inner : ∀ (e : Nat) (k j i : Nat) (acc : List S52) (yes : Bool), acc.length ≤ j → j + (d + 1) = L.length → i + e = keys.length → d * (keys.length + 2) + e + 1 < k →
        RKeep.l1 k keys acc (j : Int) yes (i : Int) L = some (acc ++ keepL (L.drop j) keys, (L.length : Int) - ((acc ++ keepL (L.drop j) keys).length : Int)) ∨ (yes || inB (keys.drop i) (L.getD j z52).f0) ≠ inB keys (L.getD j z52).f0 := by
      intro e
      induction e with
      | zero =>
        intro k j i acc yes ha h hi hk
        obtain ⟨k, rfl⟩ : ∃ m, k = m + 1 := ⟨k - 1, by omega⟩
        have hj : j < L.length := by omega
        by_cases hy : (yes || inB (keys.drop i) (L.getD j z52).f0) = inB keys (L.getD j z52).f0
        · left
          rw [List.drop_eq_nil_of_le (by omega)] at hy
          simp only [inB, List.any_nil, Bool.or_false] at hy
          simp only [RKeep.l1]
          rw [if_neg (by omega)]
          have hg : L.getD j z52 = L[j] := by simp [hj]
          rw [hg] at hy
          rw [List.drop_eq_getElem_cons hj]
          have e3 : keepL (L[j] :: L.drop (j + 1)) keys = if yes = true then L[j] :: keepL (L.drop (j + 1)) keys else keepL (L.drop (j + 1)) keys := by
            unfold keepL
            rw [List.filter_cons]
            have : inB keys L[j].f0 = yes := hy.symm
            rw [this]
          rw [e3]
          cases yes with
          | true =>
            simp only [if_true]
            rw [if_pos (by omega), if_pos (by omega), if_pos (by omega), rd_get L j hj, wrap1 (n := L.length) (by omega) (by omega) (by omega), cast1]
            have := ih k (j + 1) (acc ++ [(⟨L[j].f0, L[j].f1⟩ : S52)]) (by simp; omega) (by omega) (by omega)
            rw [this]
            simp
          | false =>
            simp only [Bool.false_eq_true, if_false]
            rw [wrap1 (n := L.length) (by omega) (by omega) (by omega), cast1]
            exact ih k (j + 1) acc (by omega) (by omega) (by omega)
        · right; exact hy
      | succ e ihe =>
        intro k j i acc yes ha h hi hk
        obtain ⟨k, rfl⟩ : ∃ m, k = m + 1 := ⟨k - 1, by omega⟩
        have hj : j < L.length := by omega
        have hik : i < keys.length := by omega
        have hg : L.getD j z52 = L[j] := by simp [hj]
        have hd : inB (keys.drop i) (L.getD j z52).f0 = (decide (keys[i] = (L.getD j z52).f0) || inB (keys.drop (i + 1)) (L.getD j z52).f0) := by
          rw [List.drop_eq_getElem_cons hik]
          unfold inB
          rw [List.any_cons]
        cases yes with
        | true =>
          simp only [RKeep.l1]
          rw [if_pos (by omega), if_pos trivial, wrap1 (n := keys.length) (by omega) (by omega) (by omega), cast1]
          rcases ihe k j (i + 1) acc true ha h (by omega) (by omega) with h1 | h1
          · exact .inl h1
          · right; simpa using h1
        | false =>
          simp only [RKeep.l1]
          rw [if_pos (by omega), if_neg (by simp), if_pos (by omega), if_pos (by omega), if_pos (by omega), rd_get L j hj, rdOf_get keys i hik, wrap1 (n := keys.length) (by omega) (by omega) (by omega), cast1]
          have e4 : (keys[i].toList == L[j].f0.toList) = decide (keys[i] = L[j].f0) := by
            by_cases e : keys[i] = L[j].f0
            · simp [e]
            · have : ¬ keys[i].toList = L[j].f0.toList := fun h => e (tl_inj.1 h)
              rw [decide_eq_false e, beq_eq_false_iff_ne.2 this]
          rw [e4]
          rcases ihe k j (i + 1) acc (decide (keys[i] = L[j].f0)) ha h (by omega) (by omega) with h1 | h1
          · exact .inl h1
          · right
            rw [hd, hg]
            rw [hg] at h1
            simpa using h1
    intro k j acc ha h hk
    obtain ⟨k, rfl⟩ : ∃ m, k = m + 1 := ⟨k - 1, by omega⟩
    simp only [RKeep.l0]
    rw [if_pos (by omega)]
    have hm : (d + 1) * (keys.length + 2) = d * (keys.length + 2) + (keys.length + 2) := by rw [Nat.add_mul, Nat.one_mul]
    rcases inner keys.length k j 0 acc false ha h (by omega) (by omega) with h1 | h1
    · exact h1
    · simp at h1
theorem rkeep_any (A : Option Addr) (c : Nat) (L : List S52) (B : Option Addr) (d : Nat) (keys : List ByteArray) (w : World) (hc : Kd.C k52 w A L.length L) (hcap : L.length ≤ c) (hk : Kd.C Kd.string w B keys.length keys) (hd : keys.length ≤ d) (hL : L.length ≤ 1000000000) (hK : keys.length ≤ 1000000000) :
    Calls Try.prog 24 #[.agg #[.slice A L.length c], .slice B keys.length d] w fun e w' => ∃ v, e = .returned (.tuple #[.agg #[v], .int .i64 (L.length - (keepL L keys).length)]) ∧ Kd.R k52 52 w' w.heap.size (fun _ => True) v (keepL L keys) ∧ Below w.heap.size w w' :=
  RKeep.calls (L.length * (keys.length + 2) + 1) A c L B d keys _ _ w hc hcap hk hd (by
    have := keep_l L keys hL hK L.length (L.length * (keys.length + 2) + 1) 0 [] (by simp) (by omega) (by omega)
    unfold RKeep.f
    simpa using this)
end Go.Proofs.Ytbocdfpgjkjilaa.T
