/- The calendar, plainly: a day's number is its year's first day, the days of the months ahead, and its place in the month; dateC is that. -/
import Derived.Test.YtgipdacenppmdaaGreatDoorID
set_option linter.unusedVariables false
set_option linter.unusedSimpArgs false
namespace Go.Proofs.YtgipdacenppmdaaGreatDoor.G
open Go.RowKit Go.Lib
def lpI (y : Int) : Int := if (y % 4 = 0 ∧ y % 100 ≠ 0) ∨ y % 400 = 0 then 1 else 0
def bg (y : Int) : Int := 365 * (y - 1) + (y - 1) / 4 - (y - 1) / 100 + (y - 1) / 400 - 719162
theorem lpI_rng (y : Int) : lpI y = 0 ∨ lpI y = 1 := by unfold lpI; split <;> simp
theorem bg_succ (y : Int) : bg (y + 1) = bg y + 365 + lpI y := by unfold bg lpI; split <;> omega
def mlen (y m : Int) : Int := if m = 2 then 28 + lpI y else if m = 4 ∨ m = 6 ∨ m = 9 ∨ m = 11 then 30 else 31
def mcum (y m : Int) : Int := if m = 1 then 0 else if m = 2 then 31 else (153 * (m - 3) + 2) / 5 + 59 + lpI y
theorem m_cases {m : Int} (h1 : 1 ≤ m) (h2 : m ≤ 12) : m = 1 ∨ m = 2 ∨ m = 3 ∨ m = 4 ∨ m = 5 ∨ m = 6 ∨ m = 7 ∨ m = 8 ∨ m = 9 ∨ m = 10 ∨ m = 11 ∨ m = 12 := by omega
theorem mcum_succ (y m : Int) (h1 : 1 ≤ m) (h2 : m ≤ 11) : mcum y (m + 1) = mcum y m + mlen y m := by
  have h := lpI_rng y
  rcases m_cases h1 (by omega) with rfl | rfl | rfl | rfl | rfl | rfl | rfl | rfl | rfl | rfl | rfl | rfl <;> simp [mcum, mlen] <;> omega
theorem mcum_last (y : Int) : mcum y 12 + mlen y 12 = 365 + lpI y := by simp [mcum, mlen]; omega
theorem mlen_pos (y m : Int) : 28 ≤ mlen y m ∧ mlen y m ≤ 31 := by
  have h := lpI_rng y
  unfold mlen; split <;> (try split) <;> omega
/-- A day by its year (counted from March), its place in it. -/
theorem march_ymd (y d4 a b c e : Int) (ha : 0 ≤ a) (hb : 0 ≤ b) (hb2 : b ≤ 3) (hc : 0 ≤ c) (hc2 : c ≤ 24) (he : 0 ≤ e) (he2 : e ≤ 3) (hd : 0 ≤ d4)
    (hd2 : d4 ≤ 364 ∨ (d4 = 365 ∧ e = 3 ∧ (c ≠ 24 ∨ b = 3))) :
    Ymd (146097 * a + 36524 * b + 1461 * c + 365 * e + d4) a (36524 * b + 1461 * c + 365 * e + d4) b (1461 * c + 365 * e + d4) c (365 * e + d4) e d4 ((5 * d4 + 2) / 153) := by
  refine ⟨by omega, ⟨by omega, by omega⟩, ?_, by omega, by omega, ⟨by omega, by omega⟩, ?_, by omega, rfl⟩
  · unfold mn3; split <;> omega
  · unfold mn3; split <;> omega
theorem march_sum (y a b c e : Int) (hy : y = 400 * a + 100 * b + 4 * c + e) (hb : 0 ≤ b) (hb2 : b ≤ 3) (hc : 0 ≤ c) (hc2 : c ≤ 24) (he : 0 ≤ e) (he2 : e ≤ 3) :
    365 * y + y / 4 - y / 100 + y / 400 = 146097 * a + 36524 * b + 1461 * c + 365 * e := by omega
theorem march_leap (y a b c e : Int) (hy : y = 400 * a + 100 * b + 4 * c + e) (hb : 0 ≤ b) (hb2 : b ≤ 3) (hc : 0 ≤ c) (hc2 : c ≤ 24) (he : 0 ≤ e) (he2 : e ≤ 3) (h : lpI (y + 1) = 1) : e = 3 ∧ (c ≠ 24 ∨ b = 3) := by
  unfold lpI at h
  split at h <;> omega
theorem date_march (y d4 n : Int) (hy : 0 ≤ y) (hd : 0 ≤ d4) (hd2 : d4 ≤ 364 + lpI (y + 1)) (hn : n + 719468 = 365 * y + y / 4 - y / 100 + y / 400 + d4) (hr : ¬ (n < -719162 ∨ 2932896 < n)) :
    dateC n = (if 12 < (5 * d4 + 2) / 153 + 3 then (y + 1, (5 * d4 + 2) / 153 + 3 - 12, d4 - (153 * ((5 * d4 + 2) / 153) + 2) / 5 + 1) else (y, (5 * d4 + 2) / 153 + 3, d4 - (153 * ((5 * d4 + 2) / 153) + 2) / 5 + 1)) := by
  obtain ⟨a, b, c, e, hye, ha, hb, hb2, hc, hc2, he, he2⟩ : ∃ a b c e : Int, y = 400 * a + 100 * b + 4 * c + e ∧ 0 ≤ a ∧ 0 ≤ b ∧ b ≤ 3 ∧ 0 ≤ c ∧ c ≤ 24 ∧ 0 ≤ e ∧ e ≤ 3 :=
    ⟨y / 400, y % 400 / 100, y % 100 / 4, y % 4, by omega, by omega, by omega, by omega, by omega, by omega, by omega, by omega⟩
  have hl : d4 ≤ 364 ∨ (d4 = 365 ∧ e = 3 ∧ (c ≠ 24 ∨ b = 3)) := by
    rcases lpI_rng (y + 1) with h | h
    · left; omega
    · have := march_leap y a b c e hye hb hb2 hc hc2 he he2 h
      omega
  have hs := march_sum y a b c e hye hb hb2 hc hc2 he he2
  have hY := march_ymd y d4 a b c e ha hb hb2 hc hc2 he he2 hd hl
  have hne : n + 719468 = 146097 * a + 36524 * b + 1461 * c + 365 * e + d4 := by omega
  rw [← hne] at hY
  rw [dateC_eq hY hr]
  unfold ymdC
  rw [hye]
/-- The day that stands at (Y, M, D). -/
theorem date_of (Y M D n : Int) (hY1 : 1 ≤ Y) (hY2 : Y ≤ 9999) (hM1 : 1 ≤ M) (hM2 : M ≤ 12) (hD1 : 1 ≤ D) (hD2 : D ≤ mlen Y M) (hn : n = bg Y + mcum Y M + D - 1) : dateC n = (Y, M, D) := by
  have hl := lpI_rng Y
  have hr : ¬ (n < -719162 ∨ 2932896 < n) := by
    have h1 : mcum Y M + D ≤ 365 + lpI Y := by
      rcases m_cases hM1 hM2 with rfl | rfl | rfl | rfl | rfl | rfl | rfl | rfl | rfl | rfl | rfl | rfl <;> simp [mcum, mlen] at hD2 ⊢ <;> omega
    have h2 : 0 ≤ mcum Y M := by
      rcases m_cases hM1 hM2 with rfl | rfl | rfl | rfl | rfl | rfl | rfl | rfl | rfl | rfl | rfl | rfl <;> simp [mcum] <;> omega
    unfold bg at hn
    unfold lpI at h1 hl
    split at h1 <;> omega
  by_cases h3 : 3 ≤ M
  · have hm := date_march Y ((153 * (M - 3) + 2) / 5 + D - 1) n (by omega)
      (by rcases m_cases hM1 hM2 with rfl | rfl | rfl | rfl | rfl | rfl | rfl | rfl | rfl | rfl | rfl | rfl <;> omega)
      (by have := lpI_rng (Y + 1); rcases m_cases hM1 hM2 with rfl | rfl | rfl | rfl | rfl | rfl | rfl | rfl | rfl | rfl | rfl | rfl <;> simp [mlen] at hD2 <;> omega)
      (by
        rw [hn]; unfold bg mcum lpI
        rw [if_neg (by omega), if_neg (by omega)]
        split <;> omega) hr
    rw [hm]
    rcases m_cases hM1 hM2 with rfl | rfl | rfl | rfl | rfl | rfl | rfl | rfl | rfl | rfl | rfl | rfl <;> simp [mlen] at hD2 <;> first | omega | (rw [if_neg (by omega)]; refine Prod.ext rfl (Prod.ext ?_ ?_) <;> simp <;> omega)
  · have hm := date_march (Y - 1) (mcum Y M + D - 1 + 306) n (by omega)
      (by have h : M = 1 ∨ M = 2 := by omega
          rcases h with rfl | rfl <;> simp [mcum] <;> omega)
      (by have h : M = 1 ∨ M = 2 := by omega
          rw [show Y - 1 + 1 = Y by omega]
          rcases h with rfl | rfl <;> simp [mcum, mlen] at hD2 ⊢ <;> omega)
      (by rw [hn]; unfold bg; omega) hr
    rw [hm]
    have h : M = 1 ∨ M = 2 := by omega
    rcases h with rfl | rfl <;> simp [mcum, mlen] at hD2 ⊢ <;> (rw [if_pos (by omega)]; refine Prod.ext ?_ (Prod.ext ?_ ?_) <;> simp <;> omega)
end Go.Proofs.YtgipdacenppmdaaGreatDoor.G
