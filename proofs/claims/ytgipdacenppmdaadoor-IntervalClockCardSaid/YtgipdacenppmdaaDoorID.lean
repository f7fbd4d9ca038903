/- civil.Date, as a plain Lean function. -/
import Derived.Test.YtgipdacenppmdaaDoorM1
set_option linter.unusedVariables false
set_option linter.unusedSimpArgs false
namespace Go.Proofs.YtgipdacenppmdaaDoor.G
open Go.RowKit Go.Lib Go.Proofs.YtgipdacenppmdaaDoorW.PrintWords Go.Proofs.YtgipdacenppmdaaDoorW.PrintMore Go.Proofs.YtgipdacenppmdaaDoor.P
def mn3 (x : Int) : Int := if x < 3 then x else 3
/-- The steps from a day's number (from 0000-03-01 on) to its year, month and day. -/
structure Ymd (d a d1 b d2 c d3 e d4 m : Int) : Prop where
  a1 : d = 146097 * a + d1
  a2 : 0 ≤ d1 ∧ d1 < 146097
  b1 : b = mn3 (d1 / 36524)
  b2 : d2 = d1 - 36524 * b
  c1 : d2 = 1461 * c + d3
  c2 : 0 ≤ d3 ∧ d3 < 1461
  e1 : e = mn3 (d3 / 365)
  e2 : d4 = d3 - 365 * e
  m1 : m = (5 * d4 + 2) / 153
theorem ymd_ex (d : Int) (h : 0 ≤ d) : ∃ a d1 b d2 c d3 e d4 m, Ymd d a d1 b d2 c d3 e d4 m := by
  have hd2 : 0 ≤ d % 146097 - 36524 * mn3 (d % 146097 / 36524) := by
    unfold mn3
    have := Int.emod_nonneg d (show (146097 : Int) ≠ 0 by omega)
    split <;> omega
  exact ⟨d / 146097, d % 146097, _, _, (d % 146097 - 36524 * mn3 (d % 146097 / 36524)) / 1461, (d % 146097 - 36524 * mn3 (d % 146097 / 36524)) % 1461, _, _, _, by omega, ⟨by omega, by omega⟩, rfl, rfl, by omega, ⟨by omega, by omega⟩, rfl, rfl, rfl⟩
theorem Ymd.rng {d a d1 b d2 c d3 e d4 m : Int} (h : Ymd d a d1 b d2 c d3 e d4 m) (h0 : 0 ≤ d) (h1 : d ≤ 4000000) : 0 ≤ a ∧ a ≤ 28 ∧ 0 ≤ b ∧ b ≤ 3 ∧ 0 ≤ d2 ∧ d2 ≤ 36524 ∧ 0 ≤ c ∧ c ≤ 24 ∧ 0 ≤ e ∧ e ≤ 3 ∧ 0 ≤ d4 ∧ d4 ≤ 365 ∧ 0 ≤ m ∧ m ≤ 11 := by
  obtain ⟨a1, ⟨a2, a3⟩, b1, b2, c1, ⟨c2, c3⟩, e1, e2, m1⟩ := h
  unfold mn3 at b1 e1
  have hb : 0 ≤ b ∧ b ≤ 3 ∧ 0 ≤ d2 ∧ d2 ≤ 36524 := by split at b1 <;> omega
  have hc : 0 ≤ c ∧ c ≤ 24 := by omega
  have he : 0 ≤ e ∧ e ≤ 3 ∧ 0 ≤ d4 ∧ d4 ≤ 365 := by split at e1 <;> omega
  omega
def ymdC (a b c e d4 m : Int) : Int × Int × Int :=
  if 12 < m + 3 then (400 * a + 100 * b + 4 * c + e + 1, m + 3 - 12, d4 - (153 * m + 2) / 5 + 1) else (400 * a + 100 * b + 4 * c + e, m + 3, d4 - (153 * m + 2) / 5 + 1)
def dateC (n : Int) : Int × Int × Int :=
  if n < -719162 ∨ 2932896 < n then (0, 0, 0) else
  ymdC ((n + 719468) / 146097) (mn3 ((n + 719468) % 146097 / 36524)) (((n + 719468) % 146097 - 36524 * mn3 ((n + 719468) % 146097 / 36524)) / 1461)
    (mn3 (((n + 719468) % 146097 - 36524 * mn3 ((n + 719468) % 146097 / 36524)) % 1461 / 365))
    (((n + 719468) % 146097 - 36524 * mn3 ((n + 719468) % 146097 / 36524)) % 1461 - 365 * mn3 (((n + 719468) % 146097 - 36524 * mn3 ((n + 719468) % 146097 / 36524)) % 1461 / 365))
    ((5 * (((n + 719468) % 146097 - 36524 * mn3 ((n + 719468) % 146097 / 36524)) % 1461 - 365 * mn3 (((n + 719468) % 146097 - 36524 * mn3 ((n + 719468) % 146097 / 36524)) % 1461 / 365)) + 2) / 153)
theorem Ymd.uniq {d a d1 b d2 c d3 e d4 m : Int} (h : Ymd d a d1 b d2 c d3 e d4 m) : a = d / 146097 ∧ d1 = d % 146097 ∧ b = mn3 (d % 146097 / 36524) ∧ c = (d % 146097 - 36524 * mn3 (d % 146097 / 36524)) / 1461 ∧ d3 = (d % 146097 - 36524 * mn3 (d % 146097 / 36524)) % 1461 ∧
    e = mn3 ((d % 146097 - 36524 * mn3 (d % 146097 / 36524)) % 1461 / 365) ∧ d4 = (d % 146097 - 36524 * mn3 (d % 146097 / 36524)) % 1461 - 365 * mn3 ((d % 146097 - 36524 * mn3 (d % 146097 / 36524)) % 1461 / 365) ∧ m = (5 * ((d % 146097 - 36524 * mn3 (d % 146097 / 36524)) % 1461 - 365 * mn3 ((d % 146097 - 36524 * mn3 (d % 146097 / 36524)) % 1461 / 365)) + 2) / 153 := by
  obtain ⟨a1, ⟨a2, a3⟩, b1, b2, c1, ⟨c2, c3⟩, e1, e2, m1⟩ := h
  have h1 : d1 = d % 146097 := by omega
  subst h1
  have hc : d3 = (d % 146097 - 36524 * mn3 (d % 146097 / 36524)) % 1461 := by rw [← b1, ← b2]; omega
  have hc2 : c = (d % 146097 - 36524 * mn3 (d % 146097 / 36524)) / 1461 := by rw [← b1, ← b2]; omega
  refine ⟨by omega, rfl, b1, hc2, hc, by rw [e1, hc], by rw [e2, e1, hc], by rw [m1, e2, e1, hc]⟩
theorem dateC_eq {n a d1 b d2 c d3 e d4 m : Int} (h : Ymd (n + 719468) a d1 b d2 c d3 e d4 m) (h1 : ¬ (n < -719162 ∨ 2932896 < n)) : dateC n = ymdC a b c e d4 m := by
  obtain ⟨e1, e2, e3, e4, e5, e6, e7, e8⟩ := h.uniq
  unfold dateC
  rw [if_neg h1, e1, e3, e4, e6, e7, e8]
def CDate.f (a0 : Int) : Option (Int × Int × Int) := some (dateC a0)
theorem days_first : civil_Days.f 8 1 1 1 = some (-719162, 0) := by kernel_rfl
theorem days_last : civil_Days.f 8 9999 12 31 = some (2932896, 0) := by kernel_rfl
theorem wid {x : Int} (h1 : -9223372036854775808 ≤ x) (h2 : x ≤ 9223372036854775807) : wrap64 x = x := by unfold wrap64; omega
theorem mn_3 (x : Int) : min x 3 = mn3 x := by unfold mn3; split <;> omega
set_option maxHeartbeats 8000000 in
set_option maxRecDepth 100000 in
theorem CDate.calls (a0 : Int) (r1 : Int) (r2 : Int) (r3 : Int) (w : World) (hT : TabS w) (h : CDate.f a0 = some (r1, r2, r3)) :
    Calls Tryd.prog 19 #[.int .i64 a0] w fun e w' => e = .returned (.tuple #[.int .i64 r1, .int .i64 r2, .int .i64 r3]) ∧ Below w.heap.size w w' := by
  have h' := Option.some.inj h
  clear h
  have HT := Aside0.mk hT
  have HE := Aside0.mk h'
  clear hT h'
  by_cases h0 : a0 < -719162
  · have d0 : decide (a0 < -719162) = true := decide_eq_true h0
    obtain ⟨rfl, rfl, rfl⟩ : (0 : Int) = r1 ∧ (0 : Int) = r2 ∧ (0 : Int) = r3 := by
      have := HE.out
      unfold dateC at this
      rw [if_pos (.inl h0)] at this
      simpa using this
    go_enter Tryd.func19, Tryd.ntmps19
    go_wp2_with (fail)
    refine (civil_Days.calls 8 1 1 1 _ _ w HT.out days_first).mono ?_
    rintro en w1 ⟨rfl, hB⟩
    have HB1 := Aside0.mk hB
    clear hB
    go_wp2_with (fail)
    refine (civil_Days.calls 8 9999 12 31 _ _ w1 (HT.out.below HB1.out) days_last).mono ?_
    rintro en w2 ⟨rfl, hB⟩
    have HB2 := Aside0.mk (below_then HB1.out HB1.out.size hB)
    clear hB
    go_wp2_with (fail)
    go_ret3
    exact ⟨rfl, HB2.out⟩
  · have d0 : decide (a0 < -719162) = false := decide_eq_false h0
    by_cases h1 : 2932896 < a0
    · have d1 : decide (a0 > 2932896) = true := decide_eq_true h1
      have d2 : decide (2932896 < a0) = true := d1
      obtain ⟨rfl, rfl, rfl⟩ : (0 : Int) = r1 ∧ (0 : Int) = r2 ∧ (0 : Int) = r3 := by
        have := HE.out
        unfold dateC at this
        rw [if_pos (.inr h1)] at this
        simpa using this
      go_enter Tryd.func19, Tryd.ntmps19
      go_wp2_with (fail)
      refine (civil_Days.calls 8 1 1 1 _ _ w HT.out days_first).mono ?_
      rintro en w1 ⟨rfl, hB⟩
      have HB1 := Aside0.mk hB
      clear hB
      go_wp2_with (fail)
      refine (civil_Days.calls 8 9999 12 31 _ _ w1 (HT.out.below HB1.out) days_last).mono ?_
      rintro en w2 ⟨rfl, hB⟩
      have HB2 := Aside0.mk (below_then HB1.out HB1.out.size hB)
      clear hB
      go_wp2_with (fail)
      go_ret3
      exact ⟨rfl, HB2.out⟩
    · have d1 : decide (a0 > 2932896) = false := decide_eq_false h1
      have d2 : decide (2932896 < a0) = false := d1
      obtain ⟨a, q1, b, q2, c, q3, e, q4, m, hy⟩ := ymd_ex (a0 + 719468) (by omega)
      obtain ⟨ra, ra2, rb, rb2, rd2, rd22, rc, rc2, re, re2, rq, rq2, rm, rm2⟩ := hy.rng (by omega) (by omega)
      have hE := HE.out
      rw [dateC_eq hy (by omega)] at hE
      obtain ⟨a1, ⟨a2, a3⟩, b1, b2, c1, ⟨c2, c3⟩, e1, e2, m1⟩ := hy
      obtain ⟨d, hd⟩ : ∃ d, d = a0 + 719468 := ⟨_, rfl⟩
      rw [← hd] at a1
      have s1 : wrap64 (a0 - -719468) = d := by rw [show (a0 - -719468 : Int) = d by omega]; exact wid (by omega) (by omega)
      have s1' : wrap64 (a0 + 719468) = d := by rw [show (a0 + 719468 : Int) = d by omega]; exact wid (by omega) (by omega)
      have s2 : wrap64 (Int.tdiv d 146097) = a := by rw [Int.tdiv_eq_ediv_of_nonneg (by omega), show d / 146097 = a by omega]; exact wid (by omega) (by omega)
      have s3 : Int.tmod d 146097 = q1 := by rw [Int.tmod_eq_emod_of_nonneg (by omega)]; omega
      obtain ⟨x1, hx1⟩ : ∃ x1, x1 = q1 / 36524 := ⟨_, rfl⟩
      have s4 : wrap64 (Int.tdiv q1 36524) = x1 := by rw [Int.tdiv_eq_ediv_of_nonneg (by omega), hx1]; exact wid (by omega) (by omega)
      have s5 : min x1 3 = b := by rw [mn_3, hx1, ← b1]
      have s6 : wrap64 (b * 36524) = b * 36524 := wid (by omega) (by omega)
      have s7 : wrap64 (q1 - b * 36524) = q2 := by rw [show (q1 - b * 36524 : Int) = q2 by omega]; exact wid (by omega) (by omega)
      have s8 : wrap64 (Int.tdiv q2 1461) = c := by rw [Int.tdiv_eq_ediv_of_nonneg (by omega), show q2 / 1461 = c by omega]; exact wid (by omega) (by omega)
      have s9 : Int.tmod q2 1461 = q3 := by rw [Int.tmod_eq_emod_of_nonneg (by omega)]; omega
      obtain ⟨x2, hx2⟩ : ∃ x2, x2 = q3 / 365 := ⟨_, rfl⟩
      have s10 : wrap64 (Int.tdiv q3 365) = x2 := by rw [Int.tdiv_eq_ediv_of_nonneg (by omega), hx2]; exact wid (by omega) (by omega)
      have s11 : min x2 3 = e := by rw [mn_3, hx2, ← e1]
      have s12 : wrap64 (e * 365) = e * 365 := wid (by omega) (by omega)
      have s13 : wrap64 (q3 - e * 365) = q4 := by rw [show (q3 - e * 365 : Int) = q4 by omega]; exact wid (by omega) (by omega)
      obtain ⟨x3, hx3⟩ : ∃ x3, x3 = 5 * q4 := ⟨_, rfl⟩
      have s14 : wrap64 (5 * q4) = x3 := by rw [show (5 * q4 : Int) = x3 by omega]; exact wid (by omega) (by omega)
      obtain ⟨x4, hx4⟩ : ∃ x4, x4 = x3 + 2 := ⟨_, rfl⟩
      have s15 : wrap64 (x3 + 2) = x4 := by rw [show (x3 + 2 : Int) = x4 by omega]; exact wid (by omega) (by omega)
      have s16 : wrap64 (Int.tdiv x4 153) = m := by rw [Int.tdiv_eq_ediv_of_nonneg (by omega), show x4 / 153 = m by rw [m1, hx4, hx3]]; exact wid (by omega) (by omega)
      obtain ⟨x5, hx5⟩ : ∃ x5, x5 = 400 * a := ⟨_, rfl⟩
      have s17 : wrap64 (400 * a) = x5 := by rw [show (400 * a : Int) = x5 by omega]; exact wid (by omega) (by omega)
      obtain ⟨x6, hx6⟩ : ∃ x6, x6 = 100 * b := ⟨_, rfl⟩
      have s18 : wrap64 (100 * b) = x6 := by rw [show (100 * b : Int) = x6 by omega]; exact wid (by omega) (by omega)
      obtain ⟨x7, hx7⟩ : ∃ x7, x7 = x5 + x6 := ⟨_, rfl⟩
      have s19 : wrap64 (x5 + x6) = x7 := by rw [show (x5 + x6 : Int) = x7 by omega]; exact wid (by omega) (by omega)
      obtain ⟨x8, hx8⟩ : ∃ x8, x8 = 4 * c := ⟨_, rfl⟩
      have s20 : wrap64 (4 * c) = x8 := by rw [show (4 * c : Int) = x8 by omega]; exact wid (by omega) (by omega)
      obtain ⟨x9, hx9⟩ : ∃ x9, x9 = x7 + x8 := ⟨_, rfl⟩
      have s21 : wrap64 (x7 + x8) = x9 := by rw [show (x7 + x8 : Int) = x9 by omega]; exact wid (by omega) (by omega)
      obtain ⟨y, hy⟩ : ∃ y, y = x9 + e := ⟨_, rfl⟩
      have s22 : wrap64 (x9 + e) = y := by rw [show (x9 + e : Int) = y by omega]; exact wid (by omega) (by omega)
      obtain ⟨m3, hm3⟩ : ∃ m3, m3 = m + 3 := ⟨_, rfl⟩
      have s23 : wrap64 (m + 3) = m3 := by rw [show (m + 3 : Int) = m3 by omega]; exact wid (by omega) (by omega)
      obtain ⟨x10, hx10⟩ : ∃ x10, x10 = 153 * m := ⟨_, rfl⟩
      have s24 : wrap64 (153 * m) = x10 := by rw [show (153 * m : Int) = x10 by omega]; exact wid (by omega) (by omega)
      obtain ⟨x11, hx11⟩ : ∃ x11, x11 = x10 + 2 := ⟨_, rfl⟩
      have s25 : wrap64 (x10 + 2) = x11 := by rw [show (x10 + 2 : Int) = x11 by omega]; exact wid (by omega) (by omega)
      obtain ⟨x12, hx12⟩ : ∃ x12, x12 = x11 / 5 := ⟨_, rfl⟩
      have s26 : wrap64 (Int.tdiv x11 5) = x12 := by rw [Int.tdiv_eq_ediv_of_nonneg (by omega), hx12]; exact wid (by omega) (by omega)
      obtain ⟨x13, hx13⟩ : ∃ x13, x13 = q4 - x12 := ⟨_, rfl⟩
      have s27 : wrap64 (q4 - x12) = x13 := by rw [show (q4 - x12 : Int) = x13 by omega]; exact wid (by omega) (by omega)
      obtain ⟨dd, hdd⟩ : ∃ dd, dd = x13 + 1 := ⟨_, rfl⟩
      have s28 : wrap64 (x13 + 1) = dd := by rw [show (x13 + 1 : Int) = dd by omega]; exact wid (by omega) (by omega)
      have s29 : wrap64 (y + 1) = y + 1 := wid (by omega) (by omega)
      have s30 : wrap64 (m3 - 12) = m3 - 12 := wid (by omega) (by omega)
      have hz : ymdC a b c e q4 m = if 12 < m3 then (y + 1, m3 - 12, dd) else (y, m3, dd) := by
        have hyy : 400 * a + 100 * b + 4 * c + e = y := by omega
        have hddd : q4 - (153 * m + 2) / 5 + 1 = dd := by rw [hdd, hx13, hx12, hx11, hx10]
        unfold ymdC
        rw [hyy, hddd, ← hm3]
      rw [hz] at hE
      have HE2 := Aside0.mk hE
      clear a1 a2 a3 b1 b2 c1 c2 c3 e1 e2 m1 hd hx1 hx2 hx3 hx4 hx5 hx6 hx7 hx8 hx9 hx10 hx11 hx12 hx13 hy hm3 hdd hz hE ra ra2 rb rb2 rd2 rd22 rc rc2 re re2 rq rq2 rm rm2 h0 h1 HE
      by_cases hm : 12 < m3
      · have f1 : decide (m3 > 12) = true := decide_eq_true hm
        have f2 : decide (12 < m3) = true := f1
        have hE := HE2.out
        rw [if_pos hm] at hE
        simp only [Prod.mk.injEq] at hE
        obtain ⟨rfl, rfl, rfl⟩ := hE
        go_enter Tryd.func19, Tryd.ntmps19
        go_wp2_with (fail)
        refine (civil_Days.calls 8 1 1 1 _ _ w HT.out days_first).mono ?_
        rintro en w1 ⟨rfl, hB⟩
        have HB1 := Aside0.mk hB
        clear hB
        go_wp2_with (fail)
        refine (civil_Days.calls 8 9999 12 31 _ _ w1 (HT.out.below HB1.out) days_last).mono ?_
        rintro en w2 ⟨rfl, hB⟩
        have HB2 := Aside0.mk (below_then HB1.out HB1.out.size hB)
        clear hB
        go_wp2_with (fail)
        go_ret3
        exact ⟨show Ending.returned (.tuple #[.int .i64 (wrap64 (y + 1)), .int .i64 (wrap64 (m3 - 12)), .int .i64 (wrap64 (x13 + 1))]) = _ by rw [s29, s30, s28], HB2.out⟩
      · have f1 : decide (m3 > 12) = false := decide_eq_false hm
        have f2 : decide (12 < m3) = false := f1
        have hE := HE2.out
        rw [if_neg hm] at hE
        simp only [Prod.mk.injEq] at hE
        obtain ⟨rfl, rfl, rfl⟩ := hE
        go_enter Tryd.func19, Tryd.ntmps19
        go_wp2_with (fail)
        refine (civil_Days.calls 8 1 1 1 _ _ w HT.out days_first).mono ?_
        rintro en w1 ⟨rfl, hB⟩
        have HB1 := Aside0.mk hB
        clear hB
        go_wp2_with (fail)
        refine (civil_Days.calls 8 9999 12 31 _ _ w1 (HT.out.below HB1.out) days_last).mono ?_
        rintro en w2 ⟨rfl, hB⟩
        have HB2 := Aside0.mk (below_then HB1.out HB1.out.size hB)
        clear hB
        go_wp2_with (fail)
        go_ret3
        exact ⟨show Ending.returned (.tuple #[.int .i64 (wrap64 (x9 + e)), .int .i64 (wrap64 (m + 3)), .int .i64 (wrap64 (x13 + 1))]) = _ by rw [s22, s23, s28], HB2.out⟩
end Go.Proofs.YtgipdacenppmdaaDoor.G
