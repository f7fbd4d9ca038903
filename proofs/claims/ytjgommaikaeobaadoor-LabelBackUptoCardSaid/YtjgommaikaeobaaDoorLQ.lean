/- Pick, Get and Same, the program's and the document's, told plainly. -/
import Derived.Test.YtjgommaikaeobaaDoorLP
set_option linter.unusedVariables false
set_option linter.unusedSimpArgs false
namespace Go.Proofs.YtjgommaikaeobaaDoor.L
open Go.RowKit Go.Proofs.YtjgommaikaeobaaDoorW.PrintWords Go.Proofs.YtjgommaikaeobaaDoor.PLabelSorts Go.Proofs.YtjgommaikaeobaaDoor.R

theorem tl_inj {a b : ByteArray} : a.toList = b.toList ↔ a = b := by
  rw [ByteArray.toList_eq, ByteArray.toList_eq]
  constructor
  · intro h
    obtain ⟨⟨a⟩⟩ := a
    obtain ⟨⟨b⟩⟩ := b
    simp at h
    rw [h]
  · intro h; rw [h]
theorem rdOf_get (l : List ByteArray) (j : Nat) (h : j < l.length) : rdOf ByteArray.empty l (j : Int) = l[j] := by simp [rdOf, h]
def inB (names : List ByteArray) (s : ByteArray) : Bool := names.any fun x => decide (x = s)
theorem sidx_l0 (names : List ByteArray) (s : ByteArray) (hn : names.length ≤ 9223372036854775807) (d : Nat) : ∀ (k j : Nat), j + d = names.length → d < k → ∃ r, SIdx.l0 k names s (names.length : Int) (j : Int) = some r ∧ decide (r ≥ 0) = inB (names.drop j) s := by
  induction d with
  | zero =>
    intro k j h hk
    obtain ⟨k, rfl⟩ : ∃ m, k = m + 1 := ⟨k - 1, by omega⟩
    simp only [SIdx.l0]
    rw [if_neg (by omega), List.drop_eq_nil_of_le (by omega)]
    exact ⟨-1, rfl, rfl⟩
  | succ d ih =>
    intro k j h hk
    obtain ⟨k, rfl⟩ : ∃ m, k = m + 1 := ⟨k - 1, by omega⟩
    simp only [SIdx.l0]
    have hj : j < names.length := by omega
    rw [if_pos (by omega), if_pos (by omega), if_pos (by omega), rdOf_get names j hj, wrap1 (n := names.length) (by omega) (by omega) (by omega), cast1, List.drop_eq_getElem_cons hj]
    by_cases e : s.toList = names[j].toList
    · rw [if_pos e]
      refine ⟨j, rfl, ?_⟩
      have : names[j] = s := (tl_inj.1 e).symm
      simp [inB, this]
    · rw [if_neg e]
      obtain ⟨r, h1, h2⟩ := ih k (j + 1) (by omega) (by omega)
      refine ⟨r, h1, ?_⟩
      have : ¬ names[j] = s := fun h => e (by rw [h])
      rw [h2]
      clear h1 h2 ih e
      generalize names.drop (j + 1) = t
      generalize names[j] = x at this ⊢
      simp [inB, this]
theorem scon_f (names : List ByteArray) (s : ByteArray) (hn : names.length ≤ 9223372036854775807) (k : Nat) (hk : names.length < k) : SCon.f k names s = some (inB names s) := by
  obtain ⟨r, h1, h2⟩ := sidx_l0 names s hn names.length k 0 (by omega) (by omega)
  have h1' : SIdx.f k names s = some r := h1
  simp only [SCon.f, h1', Option.bind_some]
  rw [List.drop_zero] at h2
  rw [← h2]
theorem win_l0 (names : List ByteArray) (s : ByteArray) (hn : names.length ≤ 9223372036854775807) (d : Nat) : ∀ (k j : Nat), j + d = names.length → d < k → WIn.l0 k names s (j : Int) = some (inB (names.drop j) s) := by
  induction d with
  | zero =>
    intro k j h hk
    obtain ⟨k, rfl⟩ : ∃ m, k = m + 1 := ⟨k - 1, by omega⟩
    simp only [WIn.l0]
    rw [if_neg (by omega), List.drop_eq_nil_of_le (by omega)]
    rfl
  | succ d ih =>
    intro k j h hk
    obtain ⟨k, rfl⟩ : ∃ m, k = m + 1 := ⟨k - 1, by omega⟩
    simp only [WIn.l0]
    have hj : j < names.length := by omega
    rw [if_pos (by omega), if_pos (by omega), rdOf_get names j hj, wrap1 (n := names.length) (by omega) (by omega) (by omega), cast1, ih k (j + 1) (by omega) (by omega), List.drop_eq_getElem_cons hj]
    generalize names.drop (j + 1) = t
    generalize names[j] = x
    by_cases e : x.toList = s.toList
    · rw [if_pos e]
      have : x = s := tl_inj.1 e
      simp [inB, this]
    · rw [if_neg e]
      have : ¬ x = s := fun h => e (by rw [h])
      simp [inB, this]
theorem win_f (names : List ByteArray) (s : ByteArray) (hn : names.length ≤ 9223372036854775807) (k : Nat) (hk : names.length < k) : WIn.f k names s = some (inB names s) := by
  have := win_l0 names s hn names.length k 0 (by omega) (by omega)
  simpa [WIn.f] using this
def pickL (l : List S35) (names : List ByteArray) : List S35 := l.filter fun x => inB names x.f0
theorem lpick_l0 (l : List S35) (names : List ByteArray) (hl : l.length < 4398046511104) (hn : names.length ≤ 9223372036854775807) (d : Nat) : ∀ (k j : Nat) (acc : List S35), acc.length ≤ j → j + d = l.length → d + names.length + 1 < k → LPick.l0 k names acc l (l.length : Int) (j : Int) = some (acc ++ pickL (l.drop j) names) := by
  induction d with
  | zero =>
    intro k j acc ha h hk
    obtain ⟨k, rfl⟩ : ∃ m, k = m + 1 := ⟨k - 1, by omega⟩
    simp only [LPick.l0]
    rw [if_neg (by omega), List.drop_eq_nil_of_le (by omega)]
    simp [pickL]
  | succ d ih =>
    intro k j acc ha h hk
    obtain ⟨k, rfl⟩ : ∃ m, k = m + 1 := ⟨k - 1, by omega⟩
    simp only [LPick.l0]
    have hj : j < l.length := by omega
    rw [if_pos (by omega), if_pos (by omega), if_pos (by omega), rd35_get l j hj, scon_f names _ hn k (by omega), wrap1 (n := l.length) (by omega) (by omega) (by omega), cast1, List.drop_eq_getElem_cons hj]
    simp only [Option.bind_some]
    rw [ih k (j + 1) acc (by omega) (by omega) (by omega), ih k (j + 1) (acc ++ [(⟨l[j].f0, l[j].f1⟩ : S35)]) (by simp; omega) (by omega) (by omega)]
    generalize l.drop (j + 1) = t
    generalize l[j] = x
    cases hb : inB names x.f0 with
    | true =>
      rw [if_pos rfl, if_pos (by omega)]
      simp [pickL, hb]
    | false =>
      rw [if_neg (by simp)]
      simp [pickL, hb]
theorem lpick_f (l : List S35) (names : List ByteArray) (hl : l.length < 4398046511104) (hn : names.length ≤ 9223372036854775807) : LPick.f (l.length + names.length + 2) l names = some (pickL l names) := by
  have := lpick_l0 l names hl hn l.length (l.length + names.length + 2) 0 [] (by simp) (by omega) (by omega)
  simpa [LPick.f] using this
theorem wpick_l0 (l : List S35) (names : List ByteArray) (hl : l.length < 4398046511104) (hn : names.length ≤ 9223372036854775807) (d : Nat) : ∀ (k j : Nat) (acc : List S35), acc.length ≤ j → j + d = l.length → d + names.length + 1 < k → WPick.l0 k l names acc (j : Int) = some (acc ++ pickL (l.drop j) names) := by
  induction d with
  | zero =>
    intro k j acc ha h hk
    obtain ⟨k, rfl⟩ : ∃ m, k = m + 1 := ⟨k - 1, by omega⟩
    simp only [WPick.l0]
    rw [if_neg (by omega), List.drop_eq_nil_of_le (by omega)]
    simp [pickL]
  | succ d ih =>
    intro k j acc ha h hk
    obtain ⟨k, rfl⟩ : ∃ m, k = m + 1 := ⟨k - 1, by omega⟩
    simp only [WPick.l0]
    have hj : j < l.length := by omega
    rw [if_pos (by omega), if_pos (by omega), rd35_get l j hj, win_f names _ hn k (by omega), wrap1 (n := l.length) (by omega) (by omega) (by omega), cast1, List.drop_eq_getElem_cons hj]
    simp only [Option.bind_some]
    rw [ih k (j + 1) acc (by omega) (by omega) (by omega), ih k (j + 1) (acc ++ [(⟨l[j].f0, l[j].f1⟩ : S35)]) (by simp; omega) (by omega) (by omega)]
    generalize l.drop (j + 1) = t
    generalize l[j] = x
    cases hb : inB names x.f0 with
    | true =>
      rw [if_pos rfl, if_pos (by omega)]
      simp [pickL, hb]
    | false =>
      rw [if_neg (by simp)]
      simp [pickL, hb]
theorem wpick_f (l : List S35) (names : List ByteArray) (hl : l.length < 4398046511104) (hn : names.length ≤ 9223372036854775807) : WPick.f (l.length + names.length + 2) l names = some (pickL l names) := by
  have := wpick_l0 l names hl hn l.length (l.length + names.length + 2) 0 [] (by simp) (by omega) (by omega)
  simpa [WPick.f] using this
def getL : List S35 → ByteArray → ByteArray
  | [], _ => ⟨#[]⟩
  | x :: l, s => if x.f0 = s then x.f1 else getL l s
theorem lget_l0 (l : List S35) (s : ByteArray) (hl : l.length ≤ 9223372036854775807) (d : Nat) : ∀ (k j : Nat), j + d = l.length → d < k → LGet.l0 k s l (l.length : Int) (j : Int) = some (getL (l.drop j) s) := by
  induction d with
  | zero =>
    intro k j h hk
    obtain ⟨k, rfl⟩ : ∃ m, k = m + 1 := ⟨k - 1, by omega⟩
    simp only [LGet.l0]
    rw [if_neg (by omega), List.drop_eq_nil_of_le (by omega)]
    rfl
  | succ d ih =>
    intro k j h hk
    obtain ⟨k, rfl⟩ : ∃ m, k = m + 1 := ⟨k - 1, by omega⟩
    simp only [LGet.l0]
    have hj : j < l.length := by omega
    rw [if_pos (by omega), if_pos (by omega), if_pos (by omega), rd35_get l j hj, wrap1 (n := l.length) (by omega) (by omega) (by omega), cast1, ih k (j + 1) (by omega) (by omega), List.drop_eq_getElem_cons hj]
    generalize l.drop (j + 1) = t
    generalize l[j] = x
    by_cases e : x.f0.toList = s.toList
    · rw [if_pos e]; simp [getL, tl_inj.1 e]
    · rw [if_neg e]; simp [getL, show ¬ x.f0 = s from fun h => e (by rw [h])]
theorem lget_f (l : List S35) (s : ByteArray) (hl : l.length ≤ 9223372036854775807) : LGet.f (l.length + 1) l s = some (getL l s) := by
  have := lget_l0 l s hl l.length (l.length + 1) 0 (by omega) (by omega)
  simpa [LGet.f] using this
theorem wget_l0 (l : List S35) (s : ByteArray) (hl : l.length ≤ 9223372036854775807) (d : Nat) : ∀ (k j : Nat), j + d = l.length → d < k → WGet.l0 k l s (j : Int) = some (getL (l.drop j) s) := by
  induction d with
  | zero =>
    intro k j h hk
    obtain ⟨k, rfl⟩ : ∃ m, k = m + 1 := ⟨k - 1, by omega⟩
    simp only [WGet.l0]
    rw [if_neg (by omega), List.drop_eq_nil_of_le (by omega)]
    rfl
  | succ d ih =>
    intro k j h hk
    obtain ⟨k, rfl⟩ : ∃ m, k = m + 1 := ⟨k - 1, by omega⟩
    simp only [WGet.l0]
    have hj : j < l.length := by omega
    rw [if_pos (by omega), if_pos (by omega), rd35_get l j hj, wrap1 (n := l.length) (by omega) (by omega) (by omega), cast1, ih k (j + 1) (by omega) (by omega), List.drop_eq_getElem_cons hj]
    generalize l.drop (j + 1) = t
    generalize l[j] = x
    by_cases e : x.f0.toList = s.toList
    · rw [if_pos e]; simp [getL, tl_inj.1 e]
    · rw [if_neg e]; simp [getL, show ¬ x.f0 = s from fun h => e (by rw [h])]
theorem wget_f (l : List S35) (s : ByteArray) (hl : l.length ≤ 9223372036854775807) : WGet.f (l.length + 1) l s = some (getL l s) := by
  have := wget_l0 l s hl l.length (l.length + 1) 0 (by omega) (by omega)
  simpa [WGet.f] using this
/-- Same tells whether two lists are one. -/
theorem wsame_l0 (a b : List S35) (hab : a.length = b.length) (ha : a.length ≤ 9223372036854775807) (d : Nat) : ∀ (k j : Nat), j + d = a.length → d < k → ∃ r, WSame.l0 k a b (j : Int) = some r ∧ (r = true ↔ a.drop j = b.drop j) := by
  induction d with
  | zero =>
    intro k j h hk
    obtain ⟨k, rfl⟩ : ∃ m, k = m + 1 := ⟨k - 1, by omega⟩
    simp only [WSame.l0]
    rw [if_neg (by omega), List.drop_eq_nil_of_le (by omega), List.drop_eq_nil_of_le (by omega)]
    exact ⟨true, rfl, by simp⟩
  | succ d ih =>
    intro k j h hk
    obtain ⟨k, rfl⟩ : ∃ m, k = m + 1 := ⟨k - 1, by omega⟩
    simp only [WSame.l0]
    have hj : j < a.length := by omega
    have hj2 : j < b.length := by omega
    obtain ⟨r, h1, h2⟩ := ih k (j + 1) (by omega) (by omega)
    rw [if_pos (by omega), if_pos (by omega), if_pos (by omega), rd35_get a j hj, rd35_get b j hj2, wrap1 (n := a.length) (by omega) (by omega) (by omega), cast1, h1, List.drop_eq_getElem_cons hj, List.drop_eq_getElem_cons hj2]
    generalize a.drop (j + 1) = t at h2 ⊢
    generalize b.drop (j + 1) = t' at h2 ⊢
    generalize a[j] = x
    generalize b[j] = y
    by_cases e : x = y
    · subst e
      refine ⟨r, by simp, by simp [h2]⟩
    · refine ⟨false, ?_, by simp [e]⟩
      have hne : ¬ (x.f0.toList = y.f0.toList ∧ x.f1.toList = y.f1.toList) := fun ⟨h1, h2⟩ => e (by
        obtain ⟨x0, x1⟩ := x
        obtain ⟨y0, y1⟩ := y
        have e0 : x0 = y0 := tl_inj.1 h1
        have e1 : x1 = y1 := tl_inj.1 h2
        rw [e0, e1])
      rw [if_pos]
      by_cases e0 : x.f0.toList = y.f0.toList
      · have e1 : ¬ x.f1.toList = y.f1.toList := fun h => hne ⟨e0, h⟩
        simp [e0, e1]
      · simp [e0]
theorem wsame_f (a b : List S35) (ha : a.length ≤ 9223372036854775807) : ∃ r, WSame.f (a.length + 1) a b = some r ∧ (r = true ↔ a = b) := by
  unfold WSame.f
  by_cases hl : (a.length : Int) = (b.length : Int)
  · rw [if_pos hl]
    have := wsame_l0 a b (by omega) ha a.length (a.length + 1) 0 (by omega) (by omega)
    simpa using this
  · rw [if_neg hl]
    exact ⟨false, rfl, by simp; intro e; rw [e] at hl; exact hl rfl⟩
end Go.Proofs.YtjgommaikaeobaaDoor.L
