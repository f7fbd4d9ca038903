/- The document's calendar: its loops, with fuel enough, tell what dateC tells. -/
import Derived.Test.YtgipdacenppmdaaGreatDoorQA
import Derived.Test.YtgipdacenppmdaaGreatDoorP5
set_option linter.unusedVariables false
set_option linter.unusedSimpArgs false
namespace Go.Proofs.YtgipdacenppmdaaGreatDoor.G
open Go.RowKit Go.Lib Go.Proofs.YtgipdacenppmdaaGreatDoorW.PrintWords Go.Proofs.YtgipdacenppmdaaGreatDoor.P
theorem tmod_pos (a b : Int) (h : 0 ≤ a) : Int.tmod a b = a % b := Int.tmod_eq_emod_of_nonneg h
theorem rleap_f (y : Int) (h1 : 1 ≤ y) (h2 : y ≤ 9999) : watchfireref25_Leap.f y = some (decide (lpI y = 1)) := by
  unfold watchfireref25_Leap.f
  rw [if_pos (show y ≥ 1 from h1), if_pos h2, tmod_pos _ _ (by omega), tmod_pos _ _ (by omega), tmod_pos _ _ (by omega)]
  unfold lpI
  by_cases h4 : y % 4 = 0
  · rw [if_pos h4]
    by_cases h100 : y % 100 = 0
    · rw [if_pos h100]
      by_cases h400 : y % 400 = 0
      · rw [if_pos (Or.inr h400)]; simp [h400]
      · rw [if_neg (by omega)]; simp [h400]
    · rw [if_neg h100, if_pos (Or.inl ⟨h4, h100⟩)]; simp
  · rw [if_neg h4]
    have h400 : ¬ y % 400 = 0 := by omega
    rw [if_neg (by omega)]; simp [h400]
theorem ylong_f (y : Int) (h1 : 1 ≤ y) (h2 : y ≤ 9999) : watchfireref25_yearLong.f y = some (365 + lpI y) := by
  unfold watchfireref25_yearLong.f
  rw [rleap_f y h1 h2, Option.bind_some]
  rcases lpI_rng y with h | h <;> simp [h]
theorem rlong_f (k : Nat) (y m : Int) (h1 : 1 ≤ y) (h2 : y ≤ 9999) (hm1 : 1 ≤ m) (hm2 : m ≤ 12) : watchfireref25_Long.f (k + 3) y m = some (mlen y m) := by
  unfold watchfireref25_Long.f
  rw [if_neg (show ¬ y < 1 by omega), show (decide (y > 9999)) = false from decide_eq_false (by omega)]
  have hl := lpI_rng y
  rcases m_cases hm1 hm2 with rfl | rfl | rfl | rfl | rfl | rfl | rfl | rfl | rfl | rfl | rfl | rfl <;>
    simp [watchfireref25_Long.j0, watchfireref25_Long.j1, watchfireref25_Long.j2, mlen, rleap_f y h1 h2]
  rcases hl with h | h <;> simp [h]
theorem bg_rng (y : Int) (h1 : 1 ≤ y) (h2 : y ≤ 10000) : -719162 ≤ bg y ∧ bg y ≤ 2932897 := by unfold bg; omega
theorem beg_l1 (Y : Int) (hY : 1 ≤ Y) : ∀ (d k : Nat) (v x : Int), Y - 1 + d = x → d < k → x ≤ 9999 → v = bg (x + 1) → watchfireref25_begins.l1 k Y v x = some (bg Y)
  | 0, k + 1, v, x, hx, hk, h9, hv => by
    unfold watchfireref25_begins.l1
    rw [if_neg (by omega), hv, show x + 1 = Y by omega]
  | d + 1, k + 1, v, x, hx, hk, h9, hv => by
    unfold watchfireref25_begins.l1
    have hb := bg_succ x
    have hl := lpI_rng x
    have hr := bg_rng x (by omega) (by omega)
    rw [if_pos (by omega), ylong_f x (by omega) h9, Option.bind_some, wid (x := v - (365 + lpI x)) (by omega) (by omega), wid (x := x - 1) (by omega) (by omega)]
    exact beg_l1 Y hY d k _ _ (by omega) (by omega) (by omega) (by rw [show x - 1 + 1 = x by omega]; omega)
  | _, 0, _, _, _, hk, _, _ => absurd hk (by omega)
theorem beg_l0 (Y : Int) (hY2 : Y ≤ 10000) : ∀ (d k : Nat) (v x : Int), x + d = Y → d + 1 < k → 1970 ≤ x → v = bg x → watchfireref25_begins.l0 k Y v x = some (bg Y)
  | 0, k + 2, v, x, hx, hk, h9, hv => by
    unfold watchfireref25_begins.l0
    rw [if_neg (by omega)]
    unfold watchfireref25_begins.l1
    rw [if_neg (by omega), hv, show x = Y by omega]
  | d + 1, k + 2, v, x, hx, hk, h9, hv => by
    unfold watchfireref25_begins.l0
    have hb := bg_succ x
    have hl := lpI_rng x
    have hr := bg_rng x (by omega) (by omega)
    rw [if_pos (by omega), ylong_f x (by omega) (by omega), Option.bind_some, wid (x := v + (365 + lpI x)) (by omega) (by omega), wid (x := x + 1) (by omega) (by omega)]
    exact beg_l0 Y hY2 d (k + 1) _ _ (by omega) (by omega) (by omega) (by omega)
  | _, 0, _, _, _, hk, _, _ => absurd hk (by omega)
  | _, 1, _, _, _, hk, _, _ => absurd hk (by omega)
theorem begins_first (k : Nat) (hk : 3000 ≤ k) : watchfireref25_begins.f k 1 = some (-719162) := by
  unfold watchfireref25_begins.f
  obtain ⟨k, rfl⟩ : ∃ n, k = n + 1 := ⟨k - 1, by omega⟩
  unfold watchfireref25_begins.l0
  rw [if_neg (by omega), beg_l1 1 (by omega) 1969 k 0 1969 (by omega) (by omega) (by omega) (by decide)]
  rfl
theorem begins_last (k : Nat) (hk : 10000 ≤ k) : watchfireref25_begins.f k 10000 = some 2932897 := by
  unfold watchfireref25_begins.f
  rw [beg_l0 10000 (by omega) 8030 k 0 1970 (by omega) (by omega) (by omega) (by decide)]
  rfl
/-- A day's place. -/
def IsDay (n Y M D : Int) : Prop := 1 ≤ Y ∧ Y ≤ 9999 ∧ 1 ≤ M ∧ M ≤ 12 ∧ 1 ≤ D ∧ D ≤ mlen Y M ∧ n = bg Y + mcum Y M + D - 1
theorem mcum_rng (y m : Int) (h1 : 1 ≤ m) (h2 : m ≤ 12) : 0 ≤ mcum y m ∧ mcum y m ≤ 335 := by
  have h := lpI_rng y
  rcases m_cases h1 h2 with rfl | rfl | rfl | rfl | rfl | rfl | rfl | rfl | rfl | rfl | rfl | rfl <;> simp [mcum] <;> omega
theorem date_l2 (n Y : Int) (h1 : 1 ≤ Y) (h2 : Y ≤ 9999) : ∀ (d k : Nat) (x0 m : Int), m + d = 12 → d + 5 < k → 1 ≤ m → 0 ≤ x0 → x0 + mcum Y m < 365 + lpI Y → n = bg Y + mcum Y m + x0 →
    ∃ M D, watchfireref25_Date.l2 k x0 Y m = some (Y, M, D) ∧ IsDay n Y M D
  | d, k + 4, x0, m, hm, hk, hm1, hx, hs, hn => by
    have hl := lpI_rng Y
    have hml := mlen_pos Y m
    have hmc := mcum_rng Y m hm1 (by omega)
    unfold watchfireref25_Date.l2
    rw [rlong_f k Y m h1 h2 hm1 (by omega)]
    simp only [Option.bind_some]
    by_cases hc : x0 ≥ mlen Y m
    · rw [if_pos hc]
      cases d with
      | zero =>
        have hm12 : m = 12 := by omega
        subst hm12
        have := mcum_last Y
        omega
      | succ d =>
        have hsu := mcum_succ Y m hm1 (by omega)
        rw [wid (x := x0 - mlen Y m) (by omega) (by omega), wid (x := m + 1) (by omega) (by omega)]
        exact date_l2 n Y h1 h2 d (k + 3) _ _ (by omega) (by omega) (by omega) (by omega) (by omega) (by omega)
    · rw [if_neg hc, wid (x := x0 + 1) (by omega) (by omega)]
      exact ⟨m, x0 + 1, rfl, h1, h2, hm1, by omega, by omega, by omega, by omega⟩
  | _, 0, _, _, _, hk, _, _, _, _ => absurd hk (by omega)
  | _, 1, _, _, _, hk, _, _, _, _ => absurd hk (by omega)
  | _, 2, _, _, _, hk, _, _, _, _ => absurd hk (by omega)
  | _, 3, _, _, _, hk, _, _, _, _ => absurd hk (by omega)
theorem date_l1 (n : Int) (hn : n ≤ 2932896) : ∀ (d k : Nat) (x0 y : Int), y + d = 9999 → d + 25 < k → 1 ≤ y → 0 ≤ x0 → n = bg y + x0 →
    ∃ Y M D, watchfireref25_Date.l1 k x0 y = some (Y, M, D) ∧ IsDay n Y M D
  | d, k + 1, x0, y, hy, hk, hy1, hx, he => by
    have hl := lpI_rng y
    have hb := bg_succ y
    have hr := bg_rng y hy1 (by omega)
    unfold watchfireref25_Date.l1
    rw [ylong_f y hy1 (by omega)]
    simp only [Option.bind_some]
    by_cases hc : x0 ≥ 365 + lpI y
    · rw [if_pos hc]
      cases d with
      | zero =>
        have hy9 : y = 9999 := by omega
        subst hy9
        have : bg (9999 + 1) = 2932897 := by decide
        omega
      | succ d =>
        rw [wid (x := x0 - (365 + lpI y)) (by omega) (by omega), wid (x := y + 1) (by omega) (by omega)]
        exact date_l1 n hn d k _ _ (by omega) (by omega) (by omega) (by omega) (by omega)
    · rw [if_neg hc]
      obtain ⟨M, D, h, hD⟩ := date_l2 n y hy1 (by omega) 11 k x0 1 (by omega) (by omega) (by omega) hx (by simp [mcum]; omega) (by simp [mcum]; omega)
      exact ⟨y, M, D, h, hD⟩
  | _, 0, _, _, _, hk, _, _, _ => absurd hk (by omega)
theorem date_l0 (n : Int) (hn0 : -719162 ≤ n) (hn : n ≤ 2932896) : ∀ (d k : Nat) (x0 y : Int), 1 + d = y → d + 10050 < k → y ≤ 1970 → n = bg y + x0 →
    ∃ Y M D, watchfireref25_Date.l0 k x0 y = some (Y, M, D) ∧ IsDay n Y M D
  | d, k + 1, x0, y, hy, hk, hy2, he => by
    have hr := bg_rng y (by omega) (by omega)
    unfold watchfireref25_Date.l0
    by_cases hc : x0 < 0
    · rw [if_pos hc]
      cases d with
      | zero =>
        have hy1 : y = 1 := by omega
        subst hy1
        have : bg 1 = -719162 := by decide
        omega
      | succ d =>
        have hl := lpI_rng (y - 1)
        have hb := bg_succ (y - 1)
        rw [show y - 1 + 1 = y by omega] at hb
        rw [wid (x := y - 1) (by omega) (by omega), ylong_f (y - 1) (by omega) (by omega), Option.bind_some, wid (x := x0 + (365 + lpI (y - 1))) (by omega) (by omega)]
        exact date_l0 n hn0 hn d k _ _ (by omega) (by omega) (by omega) (by omega)
    · rw [if_neg hc]
      exact date_l1 n hn (9999 - y).toNat k x0 y (by omega) (by omega) (by omega) (by omega) he
  | _, 0, _, _, _, hk, _, _ => absurd hk (by omega)
theorem rdate_j0 (k : Nat) (n : Int) (b : Bool) : watchfireref25_Date.j0 (k + 1) n b = if b = true then some (0, 0, 0) else watchfireref25_Date.l0 k n 1970 := by rw [watchfireref25_Date.j0]
theorem rdate_f (k : Nat) (n : Int) (hk : 13000 ≤ k) : watchfireref25_Date.f k n = some (dateC n) := by
  unfold watchfireref25_Date.f
  rw [begins_first k (by omega), Option.bind_some, begins_last k (by omega), Option.bind_some]
  obtain ⟨k, rfl⟩ : ∃ m, k = m + 1 := ⟨k - 1, by omega⟩
  by_cases h : n < -719162
  · rw [if_pos h, rdate_j0, if_pos rfl]
    unfold dateC
    rw [if_pos (Or.inl h)]
  · rw [if_neg h]
    by_cases h2 : n ≥ 2932897
    · rw [decide_eq_true h2, rdate_j0, if_pos rfl]
      unfold dateC
      rw [if_pos (Or.inr (by omega))]
    · rw [decide_eq_false h2, rdate_j0, if_neg (by simp)]
      obtain ⟨Y, M, D, hr, y1, y2, m1, m2, d1, d2, he⟩ := date_l0 n (by omega) (by omega) 1969 k n 1970 (by omega) (by omega) (by omega) (by rw [show bg 1970 = 0 by decide]; omega)
      rw [hr, date_of Y M D n y1 y2 m1 m2 d1 d2 he]
/-- A day that there is has its place. -/
theorem date_is (n : Int) (h1 : -719162 ≤ n) (h2 : n ≤ 2932896) : ∃ Y M D, dateC n = (Y, M, D) ∧ IsDay n Y M D := by
  obtain ⟨Y, M, D, hr, hd⟩ := date_l0 n h1 h2 1969 13000 n 1970 (by omega) (by omega) (by omega) (by rw [show bg 1970 = 0 by decide]; omega)
  obtain ⟨y1, y2, m1, m2, d1, d2, he⟩ := id hd
  exact ⟨Y, M, D, date_of Y M D n y1 y2 m1 m2 d1 d2 he, hd⟩
end Go.Proofs.YtgipdacenppmdaaGreatDoor.G
