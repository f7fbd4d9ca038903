/- IntervalWeeks: the plain law and the walk. -/
import Derived.Test.YtgipdacenppmdaaDoorQL
import Derived.Test.YtgipdacenppmdaaDoorIY
import Derived.Test.YtgipdacenppmdaaDoorLN
set_option linter.unusedVariables false
set_option linter.unusedSimpArgs false
namespace Go.Proofs.YtgipdacenppmdaaDoor.G
open Go.RowKit Go.Lib Go.Proofs.YtgipdacenppmdaaDoorW.PrintWords Go.Proofs.YtgipdacenppmdaaDoor.P
/-- A day of our times is one. -/
theorem dateC_pos (n : Int) (h0 : 0 ≤ n) (h1 : n ≤ 1000000) : (dateC n).1 ≠ 0 := by
  obtain ⟨a, d1, b, d2, c, d3, e, d4, m, hY⟩ := ymd_ex (n + 719468) (by omega)
  have hr := hY.rng (by omega) (by omega)
  have ha : 4 ≤ a := by have := hY.a1; have := hY.a2; omega
  rw [dateC_eq hY (by omega)]
  unfold ymdC
  split
  · show (400 * a + 100 * b + 4 * c + e + 1 : Int) ≠ 0
    omega
  · show (400 * a + 100 * b + 4 * c + e : Int) ≠ 0
    omega
theorem floor_pos (a b : Int) (h : 0 ≤ a) (h2 : a ≤ 1000000000000000) (hb : 0 < b) : civil_floor.f a b = some (a / b, a % b) := by
  have hm := Int.emod_nonneg a (show b ≠ 0 by omega)
  have hd : 0 ≤ a / b := Int.ediv_nonneg h (by omega)
  have hd2 : a / b ≤ a := Int.ediv_le_self b h
  rw [floor_f a b (by omega), Int.tmod_eq_emod_of_nonneg h, Int.tdiv_eq_ediv_of_nonneg h, if_neg (by omega), wid (by omega) (by omega)]
/-- What a second of our times is called: its weekday. -/
theorem of_now (s : Int) (h0 : 0 ≤ s) (h1 : s ≤ 5000000000) : ∃ y m d mi se, civil_Of.f s 0 = some (y, m, d, (s / 86400 + 4) % 7, mi, se, 0) := by
  unfold civil_Of.f civil_clock.f
  rw [if_pos (show (0 : Int) ≥ -1440 by omega), decide_eq_true (show (0 : Int) ≤ 1440 by omega)]
  simp only [Option.bind_some, if_true]
  rw [if_neg (by omega), if_neg (by omega), wid (x := (60 : Int) * 0) (by omega) (by omega), wid (x := s + 60 * 0) (by omega) (by omega), show s + 60 * 0 = s by omega, floor_pos s 86400 h0 (by omega) (by omega)]
  simp only [Option.bind_some, CDate.f]
  have hp := dateC_pos (s / 86400) (by omega) (by omega)
  rw [if_neg hp, wid (x := s / 86400 + 4) (by omega) (by omega), floor_pos (s / 86400 + 4) 7 (by omega) (by omega) (by omega)]
  simp only [Option.bind_some]
  exact ⟨_, _, _, _, _, rfl⟩
theorem ofC_now (s : Int) (h0 : 0 ≤ s) (h1 : s ≤ 5000000000) : (ofC s 0).e = 0 ∧ (ofC s 0).wd = (s / 86400 + 4) % 7 := by
  obtain ⟨y, m, d, mi, se, h⟩ := of_now s h0 h1
  unfold ofC
  rw [h]
  exact ⟨rfl, rfl⟩
def vB : ByteArray := ⟨#[118]⟩
theorem v_name : nameOk vB = true := by kernel_rfl
def wk (s : Int) : Int := (s / 86400 + 4) % 7
theorem may0 (n : Int) (h0 : 0 ≤ n) (h6 : n ≤ 6) : mayB 0 n = true := by
  unfold mayB
  rw [if_pos rfl]
  exact decide_eq_true ⟨h0, h6⟩
theorem right0 (a b : Int) (ha : 0 ≤ a) (ha6 : a ≤ 6) (hb : 0 ≤ b) (hb6 : b ≤ 6) : rightB 0 a b = decide (a ≤ b) := by
  unfold rightB
  rw [may0 a ha ha6, may0 b hb hb6, if_neg (by omega), if_neg (by omega), Bool.true_and, Bool.true_and]
theorem chk_v (a b : Int) (ha : 0 ≤ a) (ha6 : a ≤ 6) (hb : 0 ≤ b) (hb6 : b ≤ 6) : chk 0 [[⟨a, b⟩], [], [], [], []] 0 = if a ≤ b then 0 else 15 := by
  rw [chk_cons, if_neg (by simp)]
  simp only [List.all_cons, List.all_nil, Bool.and_true, right0 a b ha ha6 hb hb6, decide_eq_true_eq]
  by_cases h : a ≤ b
  · rw [if_pos h, if_pos h, chk_cons, if_neg (by simp), if_pos (by simp), chk_cons, if_neg (by simp), if_pos (by simp), chk_cons, if_neg (by simp), if_pos (by simp), chk_cons, if_neg (by simp), if_pos (by simp), chk_nil, if_neg (by omega)]
  · rw [if_neg h, if_neg h]
theorem has_v (a b s : Int) (ha : 0 ≤ a) (hb6 : b ≤ 6) (hab : a ≤ b) (h0 : 0 ≤ s) (h1 : s ≤ 5000000000) : IHas.f vB [⟨a, b⟩] [] [] [] [] 0 s = some (decide (a ≤ wk s ∧ wk s ≤ b)) := by
  have hc : chk 0 [[⟨a, b⟩], [], [], [], []] 0 = 0 := by rw [chk_v a b ha (by omega) (by omega) hb6, if_pos hab]
  rw [hasB_f vB _ _ _ _ _ 0 s v_name hc]
  obtain ⟨e1, e2⟩ := ofC_now s h0 h1
  unfold atB
  rw [if_pos e1, e2]
  congr 1
  unfold atL
  rw [if_neg (by simp)]
  have ha0 : ∀ (k long : Int) (n2 n3 n4 n5 : Int), atL k [([], n2), ([], n3), ([], n4), ([], n5)] long = true := fun k long n2 n3 n4 n5 => by simp [atL]
  rw [ha0]
  have hin : ∀ long : Int, ([⟨a, b⟩] : List S37).any (inB 0 long ((s / 86400 + 4) % 7)) = decide (a ≤ wk s ∧ wk s ≤ b) := fun long => by
    unfold inB wk
    simp
  rw [hin]
  cases decide (a ≤ wk s ∧ wk s ≤ b) <;> rfl
theorem has_bad (a b s : Int) (ha : 0 ≤ a) (ha6 : a ≤ 6) (hb : 0 ≤ b) (hb6 : b ≤ 6) (hab : ¬ a ≤ b) : IHas.f vB [⟨a, b⟩] [] [] [] [] 0 s = some false := by
  unfold IHas.f
  rw [icheck_n, v_name, if_pos rfl, chk_v a b ha ha6 hb hb6, if_neg hab]
  rfl
theorem weeks_l0 (a b s : Int) (ha : 0 ≤ a) (hb6 : b ≤ 6) (hab : a ≤ b) (h0 : 0 ≤ s) (h1 : s ≤ 4294967295) : ∀ (d k : Nat) (i : Int) (acc : Bool), i + d = b + 1 → d < k → a ≤ i → acc = decide (a ≤ wk s ∧ wk s ≤ i - 1) →
    watchfirelaw26_IntervalWeeks.l0 k s b acc i vB [⟨a, b⟩] 0 = some true
  | 0, k + 1, i, acc, hi, hk, hai, hacc => by
    rw [watchfirelaw26_IntervalWeeks.l0, if_neg (by omega), wid (x := s) (by omega) (by omega), has_v a b s ha hb6 hab h0 (by omega), wid (x := s + 604800) (by omega) (by omega), has_v a b (s + 604800) ha hb6 hab (by omega) (by omega)]
    have hw : wk (s + 604800) = wk s := by unfold wk; omega
    rw [hw, hacc, show i - 1 = b by omega]
    simp only [Option.bind_some, beq_self_eq_true, if_true]
    rfl
  | d + 1, k + 1, i, acc, hi, hk, hai, hacc => by
    rw [watchfirelaw26_IntervalWeeks.l0, if_pos (by omega), wid (x := i + 1) (by omega) (by omega)]
    cases hb : acc with
    | true =>
      rw [if_pos rfl]
      rw [hb] at hacc
      have := of_decide_eq_true hacc.symm
      exact weeks_l0 a b s ha hb6 hab h0 h1 d k (i + 1) true (by omega) (by omega) (by omega) (by symm; apply decide_eq_true; omega)
    | false =>
      rw [hb] at hacc
      have := of_decide_eq_false hacc.symm
      rw [if_neg (by simp), wid (x := s) (by omega) (by omega), show (⟨#[118]⟩ : ByteArray) = vB from rfl, has_v i i s (by omega) (by omega) (by omega) h0 (by omega), Option.bind_some]
      refine weeks_l0 a b s ha hb6 hab h0 h1 d k (i + 1) _ (by omega) (by omega) (by omega) ?_
      apply decide_eq_decide.2
      omega
  | _, 0, _, _, _, hk, _, _ => absurd hk (by omega)
theorem intervalWeeks_true (a0 a1 s : Int) (h1 : 0 ≤ a0) (h2 : a0 ≤ 255) (h3 : 0 ≤ a1) (h4 : a1 ≤ 255) (h0 : 0 ≤ s) (hs : s ≤ 4294967295) : watchfirelaw26_IntervalWeeks.f 100 a0 a1 s = some true := by
  unfold watchfirelaw26_IntervalWeeks.f
  rw [Option.bind_some, wid (x := a0) (by omega) (by omega), wid (x := a1) (by omega) (by omega), Int.tmod_eq_emod_of_nonneg h1, Int.tmod_eq_emod_of_nonneg h3]
  have ha : 0 ≤ a0 % 7 ∧ a0 % 7 ≤ 6 := by omega
  have hb : 0 ≤ a1 % 7 ∧ a1 % 7 ≤ 6 := by omega
  revert ha hb
  generalize a0 % 7 = a
  generalize a1 % 7 = b
  intro ha hb
  rw [show (⟨#[118]⟩ : ByteArray) = vB from rfl]
  by_cases hab : a > b
  · rw [if_pos hab, icheck_n, v_name, if_pos rfl, chk_v a b ha.1 ha.2 hb.1 hb.2, if_neg (by omega), has_bad a b _ ha.1 ha.2 hb.1 hb.2 (by omega)]
    rfl
  · rw [if_neg hab]
    exact weeks_l0 a b s ha.1 hb.2 (by omega) h0 hs (b + 1 - a).toNat 100 a false (by omega) (by omega) (by omega) (by symm; apply decide_eq_false; omega)
theorem intervalWeeks_walk (a0 a1 s : Int) (w : World) (hT : TabS w) (h0 : (Lit.int .u8 a0).wf = true) (h1 : (Lit.int .u8 a1).wf = true) (hs : (Lit.int .u32 s).wf = true) :
    Calls Tryd.prog 4 #[.int .u8 a0, .int .u8 a1, .int .u32 s] w fun e w' => e = .returned (.bool true) ∧ Below w.heap.size w w' := by
  have k0 := in_u8 h0
  have k1 := in_u8 h1
  have ks := in_u32 hs
  exact watchfirelaw26_IntervalWeeks.calls 100 a0 a1 s true w hT (intervalWeeks_true a0 a1 s k0.1 k0.2 k1.1 k1.2 ks.1 ks.2)
end Go.Proofs.YtgipdacenppmdaaDoor.G
