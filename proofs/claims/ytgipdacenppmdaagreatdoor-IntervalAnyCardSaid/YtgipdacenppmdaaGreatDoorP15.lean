-- Told by a program of this session out of the seat's translation.
import Derived.Test.YtgipdacenppmdaaGreatDoorP0
import Derived.Test.YtgipdacenppmdaaGreatDoorP2
import Derived.Test.YtgipdacenppmdaaGreatDoorP13
import Derived.Test.YtgipdacenppmdaaGreatDoorP14
import Derived.Test.YtgipdacenppmdaaGreatDoorIO
import Derived.Test.YtgipdacenppmdaaGreatDoorIS
import Derived.Test.YtgipdacenppmdaaGreatDoorIY
namespace Go.Proofs.YtgipdacenppmdaaGreatDoor.P
open Go.RowKit Go.Proofs.YtgipdacenppmdaaGreatDoorW.PrintWords Go.Proofs.YtgipdacenppmdaaGreatDoorW.PrintLast Go.Proofs.YtgipdacenppmdaaGreatDoorW.PrintMore
attribute [local go_sem] max2_int min2_int max_two min_two max_three min_three max_four min_four   -- for this text's walks alone
set_option linter.unusedVariables false
set_option linter.unusedSimpArgs false

open Go.Proofs.YtgipdacenppmdaaGreatDoor.G
mutual
def watchfirelaw26_IntervalAny.j0 : Nat → List (S24) → List ByteArray → Int → Bool → Option (Bool)
 | 0, _, _, _, _ => none
 | k + 1, x0, x1, x2, x15 => if x15 = true then ((IAwake.f).bind fun t283 => (some t283)) else (watchfirelaw26_IntervalAny.l0 k x0 x1 x2 0)
def watchfirelaw26_IntervalAny.l0 : Nat → List (S24) → List ByteArray → Int → Int → Option (Bool)
 | 0, _, _, _, _ => none
 | k + 1, x0, x1, x2, x7 => if x7 < (x0.length : Int) then (if 0 ≤ x7 then ((watchfireref26_Light.f k ((rd_T24 x0 x7).f0) ((rd_T24 x0 x7).f1) ((rd_T24 x0 x7).f2) ((rd_T24 x0 x7).f3) ((rd_T24 x0 x7).f4) ((rd_T24 x0 x7).f5) ((rd_T24 x0 x7).f6)).bind fun t288 => (if t288 = true then (if x7 > 0 then (if 0 ≤ (wrap64 (x7 - 1)) then (if (wrap64 (x7 - 1)) < (x0.length : Int) then ((ISame.f ((rd_T24 x0 x7).f0) ((rd_T24 x0 x7).f1) ((rd_T24 x0 x7).f2) ((rd_T24 x0 x7).f3) ((rd_T24 x0 x7).f4) ((rd_T24 x0 x7).f5) ((rd_T24 x0 x7).f6) ((rd_T24 x0 (wrap64 (x7 - 1))).f0) ((rd_T24 x0 (wrap64 (x7 - 1))).f1) ((rd_T24 x0 (wrap64 (x7 - 1))).f2) ((rd_T24 x0 (wrap64 (x7 - 1))).f3) ((rd_T24 x0 (wrap64 (x7 - 1))).f4) ((rd_T24 x0 (wrap64 (x7 - 1))).f5) ((rd_T24 x0 (wrap64 (x7 - 1))).f6)).bind fun t292 => ((watchfireref26_Same.f k ((rd_T24 x0 x7).f0) ((rd_T24 x0 x7).f1) ((rd_T24 x0 x7).f2) ((rd_T24 x0 x7).f3) ((rd_T24 x0 x7).f4) ((rd_T24 x0 x7).f5) ((rd_T24 x0 x7).f6) ((rd_T24 x0 (wrap64 (x7 - 1))).f0) ((rd_T24 x0 (wrap64 (x7 - 1))).f1) ((rd_T24 x0 (wrap64 (x7 - 1))).f2) ((rd_T24 x0 (wrap64 (x7 - 1))).f3) ((rd_T24 x0 (wrap64 (x7 - 1))).f4) ((rd_T24 x0 (wrap64 (x7 - 1))).f5) ((rd_T24 x0 (wrap64 (x7 - 1))).f6)).bind fun t295 => (if (t292 != t295) = true then (some false) else (watchfirelaw26_IntervalAny.l0 k x0 x1 x2 (wrap64 (x7 + 1)))))) else (none)) else (none)) else (watchfirelaw26_IntervalAny.l0 k x0 x1 x2 (wrap64 (x7 + 1)))) else ((IAwake.f).bind fun t289 => (some t289)))) else (none)) else ((IAny.f x0 x1 x2).bind fun t284 => ((watchfireref26_Any.f k x0 x1 x2).bind fun t285 => (if (t284 == t285) = true then ((IAwake.f).bind fun t286 => (some t286)) else (some false))))
end
def watchfirelaw26_IntervalAny.f (k : Nat) (l0 : List (S24)) (l1 : List ByteArray) (a2 : Int) : Option (Bool) := if (l0.length : Int) > 12 then (watchfirelaw26_IntervalAny.j0 k l0 l1 a2 true) else (watchfirelaw26_IntervalAny.j0 k l0 l1 a2 (decide ((l1.length : Int) > 12)))
theorem watchfirelaw26_IntervalAny.mono_l : ∀ k, (∀ y0 y1 y2 y3, LeO (watchfirelaw26_IntervalAny.j0 k y0 y1 y2 y3) (watchfirelaw26_IntervalAny.j0 (k + 1) y0 y1 y2 y3)) ∧ (∀ y0 y1 y2 y3, LeO (watchfirelaw26_IntervalAny.l0 k y0 y1 y2 y3) (watchfirelaw26_IntervalAny.l0 (k + 1) y0 y1 y2 y3))
 | 0 => ⟨fun _ _ _ _ r h => by simp [watchfirelaw26_IntervalAny.j0] at h, fun _ _ _ _ r h => by simp [watchfirelaw26_IntervalAny.l0] at h⟩
 | k + 1 => by
  obtain ⟨ih0, ih1⟩ := watchfirelaw26_IntervalAny.mono_l k
  refine ⟨?_, ?_⟩
  ·intro y0 y1 y2 y3
   unfold watchfirelaw26_IntervalAny.j0
   repeat' first
   | (with_reducible exact ih0 _ _ _ _)
   | (with_reducible exact ih1 _ _ _ _)
   | (with_reducible exact watchfireref26_Any.mono _ _ _ _)
   | (with_reducible exact watchfireref26_Light.mono _ _ _ _ _ _ _ _)
   | (with_reducible exact watchfireref26_Same.mono _ _ _ _ _ _ _ _ _ _ _ _ _ _ _)
   | (with_reducible exact LeO.refl _)
   | (with_reducible exact LeO.none _)
   | (with_reducible refine LeO.ite ?_ ?_)
   | (with_reducible refine LeO.bind ?_ (fun _ => ?_))
   | exact ih0 _ _ _ _
   | exact ih1 _ _ _ _
   | exact watchfireref26_Any.mono _ _ _ _
   | exact watchfireref26_Light.mono _ _ _ _ _ _ _ _
   | exact watchfireref26_Same.mono _ _ _ _ _ _ _ _ _ _ _ _ _ _ _
   | exact LeO.none _
   | refine LeO.ite ?_ ?_
   | refine LeO.bind ?_ (fun _ => ?_)
  ·intro y0 y1 y2 y3
   unfold watchfirelaw26_IntervalAny.l0
   repeat' first
   | (with_reducible exact ih0 _ _ _ _)
   | (with_reducible exact ih1 _ _ _ _)
   | (with_reducible exact watchfireref26_Any.mono _ _ _ _)
   | (with_reducible exact watchfireref26_Light.mono _ _ _ _ _ _ _ _)
   | (with_reducible exact watchfireref26_Same.mono _ _ _ _ _ _ _ _ _ _ _ _ _ _ _)
   | (with_reducible exact LeO.refl _)
   | (with_reducible exact LeO.none _)
   | (with_reducible refine LeO.ite ?_ ?_)
   | (with_reducible refine LeO.bind ?_ (fun _ => ?_))
   | exact ih0 _ _ _ _
   | exact ih1 _ _ _ _
   | exact watchfireref26_Any.mono _ _ _ _
   | exact watchfireref26_Light.mono _ _ _ _ _ _ _ _
   | exact watchfireref26_Same.mono _ _ _ _ _ _ _ _ _ _ _ _ _ _ _
   | exact LeO.none _
   | refine LeO.ite ?_ ?_
   | refine LeO.bind ?_ (fun _ => ?_)
theorem watchfirelaw26_IntervalAny.mono : ∀ a0 a1 a2 k, LeO (watchfirelaw26_IntervalAny.f k a0 a1 a2) (watchfirelaw26_IntervalAny.f (k + 1) a0 a1 a2) := by
 intro a0 a1 a2 k
 obtain ⟨ih0, ih1⟩ := watchfirelaw26_IntervalAny.mono_l k
 unfold watchfirelaw26_IntervalAny.f
 repeat' first
   | (with_reducible exact ih0 _ _ _ _)
   | (with_reducible exact ih1 _ _ _ _)
   | (with_reducible exact watchfireref26_Any.mono _ _ _ _)
   | (with_reducible exact watchfireref26_Light.mono _ _ _ _ _ _ _ _)
   | (with_reducible exact watchfireref26_Same.mono _ _ _ _ _ _ _ _ _ _ _ _ _ _ _)
   | (with_reducible exact LeO.refl _)
   | (with_reducible exact LeO.none _)
   | (with_reducible refine LeO.ite ?_ ?_)
   | (with_reducible refine LeO.bind ?_ (fun _ => ?_))
   | exact ih0 _ _ _ _
   | exact ih1 _ _ _ _
   | exact watchfireref26_Any.mono _ _ _ _
   | exact watchfireref26_Light.mono _ _ _ _ _ _ _ _
   | exact watchfireref26_Same.mono _ _ _ _ _ _ _ _ _ _ _ _ _ _ _
   | exact LeO.none _
   | refine LeO.ite ?_ ?_
   | refine LeO.bind ?_ (fun _ => ?_)
def watchfirelaw26_IntervalAny.T8 : Bool × List (List Nat × List Nat) := (true, [([], []), ([0], [0]), ([1], [1]), ([2], [2]), ([2], [2]), ([3, 4, 2], [2, 3, 4]), ([5, 2], [2, 5]), ([2], [2]), ([2], [2]), ([8, 2], [2, 8]), ([7, 9, 2], [2, 7, 9]), ([10, 2], [2, 10]), ([6, 11, 2, 2], [2, 6, 11]), ([2], [2]), ([2], [2]), ([13, 14, 2], [2, 13, 14]), ([15, 2], [2, 15]), ([2], [2]), ([2], [2]), ([18, 2], [2, 18]), ([17, 19, 2], [2, 17, 19]), ([20, 2], [2, 20]), ([16, 21, 12, 2], [2, 16, 21]), ([12, 22, 2], [2, 12, 22]), ([2, 23], [2, 23])])
def watchfirelaw26_IntervalAny.B8 : List Nat := [0, 1, 3, 7, 7, 31, 63, 7, 7, 263, 903, 1927, 4095, 7, 7, 24583, 57351, 7, 7, 262151, 917511, 1966087, 4194303, 8388607, 16777215]
theorem watchfirelaw26_IntervalAny.tab8 : rtab .any (opsOf Tryz.f7 8) = watchfirelaw26_IntervalAny.T8 := by kernel_rfl
theorem watchfirelaw26_IntervalAny.bits8 : waitsOk watchfirelaw26_IntervalAny.T8.2 watchfirelaw26_IntervalAny.B8 = true := by kernel_rfl
set_option maxHeartbeats 8000000 in
set_option maxRecDepth 100000 in
theorem watchfirelaw26_IntervalAny.calls (k : Nat) (A0 : Option Addr) (c0 : Nat) (l0 : List (S24)) (A1 : Option Addr) (c1 : Nat) (l1 : List ByteArray) (a2 : Int) (r : Bool) (w : World) (hr0 : Kd.C k24 w A0 l0.length l0) (hc0 : l0.length ≤ c0) (hr1 : Kd.C Kd.string w A1 l1.length l1) (hc1 : l1.length ≤ c1) (hT : TabS w) (h : watchfirelaw26_IntervalAny.f k l0 l1 a2 = some r) :
  Calls Tryz.prog 7 #[.slice A0 l0.length c0, .slice A1 l1.length c1, .int .i64 a2] w fun e w' => e = .returned (.bool r) ∧ Below w.heap.size w w' := by
 have hu24 := Tryz.underlying24
 have HR0 := Aside0.mk hr0
 have HC0 := Aside0.mk hc0
 clear hr0 hc0
 have HR1 := Aside0.mk hr1
 have HC1 := Aside0.mk hc1
 clear hr1 hc1
 have HT := Aside0.mk hT
 clear hT
 have HB := Aside0.mk (Below.refl w.heap.size w)
 have H : (if (l0.length : Int) > 12 then (watchfirelaw26_IntervalAny.j0 k l0 l1 a2 true) else (watchfirelaw26_IntervalAny.j0 k l0 l1 a2 (decide ((l1.length : Int) > 12)))) = some r := h
 clear h
 have HC4 := Aside0.mk H
 clear H
 go_enter Tryz.func7, Tryz.ntmps7
 go_upto_region 1 with (fail)
 go_cut [15] (fun v15 wc => ∃ (kq : Nat) (x15_3 : Bool), v15 = .bool x15_3 ∧ Aside0 (watchfirelaw26_IntervalAny.j0 kq l0 l1 a2 x15_3 = some r) ∧ Aside0 (kq ≤ k) ∧ Aside0 (Below w.heap.size w wc))
 case first =>
  have H := HC4.out
  clear HC4
  by_cases c5 : (l0.length : Int) > 12
  ·rw [if_pos c5] at H
   have c5b0 : decide (12 < (l0.length : Int)) = true := decide_eq_true c5
   have c5b1 : decide (12 < l0.length) = true := decide_eq_true (by omega)
   clear c5
   (first | rw [c5b0] | (simp only [i64_w, i32_w]; rw [c5b0]) | skip)
   have H' := Aside0.mk H
   clear H
   go_wp2
   go_meet
   case rel => exact ⟨_, (true), (by first | rfl | (simp; done) | (simp [*]; done)), H', ⟨by first | omega | exact Nat.le_refl _⟩, ⟨by repeat (first | (with_reducible first | exact HB.out | apply below_alloc | apply pw_below_drewN | apply below_drew1) | exact HB.out)⟩⟩
  ·rw [if_neg c5] at H
   have c5b0 : decide (12 < (l0.length : Int)) = false := decide_eq_false c5
   have c5b1 : decide (12 < l0.length) = false := decide_eq_false (by omega)
   clear c5
   (first | rw [c5b0] | (simp only [i64_w, i32_w]; rw [c5b0]) | skip)
   have H' := Aside0.mk H
   clear H
   go_wp2
   go_meet
   case rel => exact ⟨_, (decide ((l1.length : Int) > 12)), (by first | rfl | (simp; done) | (simp [*]; done)), H', ⟨by first | omega | exact Nat.le_refl _⟩, ⟨by repeat (first | (with_reducible first | exact HB.out | apply below_alloc | apply pw_below_drewN | apply below_drew1) | exact HB.out)⟩⟩
 case rest =>
  clear HC4
  try clear c1
  try clear p2
  try clear c5
  try clear c5b0
  try clear c5b1
  obtain ⟨kq, x15_3, rfl, HA, HJ3, HB⟩ := hcut
  cases kq with
  | zero => exact absurd HA.out (by simp [watchfirelaw26_IntervalAny.j0])
  | succ kj3 =>
   have H := HA.out
   clear HA
   simp only [watchfirelaw26_IntervalAny.j0] at H
   by_cases c6 : x15_3 = true
   ·subst c6
    have H1 : ((IAwake.f).bind fun t283 => (some t283)) = some r := by rw [if_pos rfl] at H; exact H
    clear H
    have H := H1
    clear H1
    replace H := Option.bind_eq_some_iff.mp H
    obtain ⟨t283, A70, H⟩ := H
    replace H : (some t283) = some r := H
    have A7 := Aside0.mk A70
    clear A70
    obtain rfl := Option.some.inj H
    go_wp2_with (first | ((with_reducible refine gate_callee (f := 9) rfl ?_); refine goesL_ (some 16) rfl rfl Tryz.func9 (by kernel_rfl) rfl #[] rfl (by (try simp only [List.map_toArray, List.map_cons, List.map_nil]); first | done | rfl | (simp only [List.length_drop, List.length_take]; rfl)) ?_; (with_reducible refine (IAwake.calls  t283 _ ?side1 A7.out).mono ?_); (case side1 => exact (TabS.below HT.out (by repeat (first | (with_reducible first | exact HB.out | apply below_alloc | apply pw_below_drewN | apply below_drew1) | exact HB.out)))); rintro e w8 ⟨rfl, hb⟩; refine ⟨_, rfl, ?_⟩; have n0_ := Aside0.mk (below_step (by repeat (first | (with_reducible first | exact HB.out | apply below_alloc | apply pw_below_drewN | apply below_drew1) | exact HB.out)) hb); clear HB; have HB := n0_; clear n0_; (try clear hb); (try clear hb2); (try clear hk); (try clear hi)))
    go_ret
    exact ⟨by first | rfl | (simp [errW_none, errW_some] <;> rfl) | (simp [*, errW_none, errW_some] <;> rfl), by repeat (first | (with_reducible first | exact HB.out | apply below_alloc | apply pw_below_drewN | apply below_drew1) | exact HB.out)⟩
   ·replace c6 := Bool.eq_false_iff.mpr c6
    subst c6
    have H1 : (watchfirelaw26_IntervalAny.l0 kj3 l0 l1 a2 0) = some r := by rw [if_neg (show ¬ (false = true) by decide)] at H; exact H
    clear H
    have H := H1
    clear H1
    have H' := Aside0.mk H
    clear H
    go_wp2
    go_loopg [7] kj3 (fun kq v7 w' => ∃ (x7_2 : Int), v7 = .int .i64 x7_2 ∧ Aside0 (watchfirelaw26_IntervalAny.l0 kq l0 l1 a2 x7_2 = some r) ∧ Aside0 (kq ≤ kj3) ∧ Aside0 (Below w.heap.size w w'))
    case atStart => exact ⟨(0), (by first | rfl | (simp; done) | (simp [*]; done)), H', ⟨Nat.le_refl _⟩, ⟨by repeat (first | (with_reducible first | exact HB.out | apply below_alloc | apply pw_below_drewN | apply below_drew1) | exact HB.out)⟩⟩
    case round =>
     clear H'
     try clear c1
     try clear p2
     try clear c5
     try clear c5b0
     try clear c5b1
     try clear c6
     try clear c7
     try clear p2
     obtain ⟨x7_2, rfl, HA, HK2, HB⟩ := hrel
     cases gk with
     | zero => exact absurd HA.out (by simp [watchfirelaw26_IntervalAny.l0])
     | succ k2 =>
      have H := HA.out
      clear HA
      simp only [watchfirelaw26_IntervalAny.l0] at H
      by_cases c9 : x7_2 < (l0.length : Int)
      ·rw [if_pos c9] at H
       have c9b0 : decide (x7_2 < (l0.length : Int)) = true := decide_eq_true c9
       clear c9
       by_cases c10 : 0 ≤ x7_2
       ·rw [if_pos c10] at H
        have c10b0 : decide (0 ≤ x7_2) = true := decide_eq_true c10
        clear c10
        replace H := Option.bind_eq_some_iff.mp H
        obtain ⟨t288, A110, H⟩ := H
        replace H : (if t288 = true then (if x7_2 > 0 then (if 0 ≤ (wrap64 (x7_2 - 1)) then (if (wrap64 (x7_2 - 1)) < (l0.length : Int) then ((ISame.f ((rd_T24 l0 x7_2).f0) ((rd_T24 l0 x7_2).f1) ((rd_T24 l0 x7_2).f2) ((rd_T24 l0 x7_2).f3) ((rd_T24 l0 x7_2).f4) ((rd_T24 l0 x7_2).f5) ((rd_T24 l0 x7_2).f6) ((rd_T24 l0 (wrap64 (x7_2 - 1))).f0) ((rd_T24 l0 (wrap64 (x7_2 - 1))).f1) ((rd_T24 l0 (wrap64 (x7_2 - 1))).f2) ((rd_T24 l0 (wrap64 (x7_2 - 1))).f3) ((rd_T24 l0 (wrap64 (x7_2 - 1))).f4) ((rd_T24 l0 (wrap64 (x7_2 - 1))).f5) ((rd_T24 l0 (wrap64 (x7_2 - 1))).f6)).bind fun t292 => ((watchfireref26_Same.f k2 ((rd_T24 l0 x7_2).f0) ((rd_T24 l0 x7_2).f1) ((rd_T24 l0 x7_2).f2) ((rd_T24 l0 x7_2).f3) ((rd_T24 l0 x7_2).f4) ((rd_T24 l0 x7_2).f5) ((rd_T24 l0 x7_2).f6) ((rd_T24 l0 (wrap64 (x7_2 - 1))).f0) ((rd_T24 l0 (wrap64 (x7_2 - 1))).f1) ((rd_T24 l0 (wrap64 (x7_2 - 1))).f2) ((rd_T24 l0 (wrap64 (x7_2 - 1))).f3) ((rd_T24 l0 (wrap64 (x7_2 - 1))).f4) ((rd_T24 l0 (wrap64 (x7_2 - 1))).f5) ((rd_T24 l0 (wrap64 (x7_2 - 1))).f6)).bind fun t295 => (if (t292 != t295) = true then (some false) else (watchfirelaw26_IntervalAny.l0 k2 l0 l1 a2 (wrap64 (x7_2 + 1)))))) else (none)) else (none)) else (watchfirelaw26_IntervalAny.l0 k2 l0 l1 a2 (wrap64 (x7_2 + 1)))) else ((IAwake.f).bind fun t289 => (some t289))) = some r := H
        have A11 := Aside0.mk A110
        clear A110
        by_cases c12 : t288 = true
        ·subst c12
         have H1 : (if x7_2 > 0 then (if 0 ≤ (wrap64 (x7_2 - 1)) then (if (wrap64 (x7_2 - 1)) < (l0.length : Int) then ((ISame.f ((rd_T24 l0 x7_2).f0) ((rd_T24 l0 x7_2).f1) ((rd_T24 l0 x7_2).f2) ((rd_T24 l0 x7_2).f3) ((rd_T24 l0 x7_2).f4) ((rd_T24 l0 x7_2).f5) ((rd_T24 l0 x7_2).f6) ((rd_T24 l0 (wrap64 (x7_2 - 1))).f0) ((rd_T24 l0 (wrap64 (x7_2 - 1))).f1) ((rd_T24 l0 (wrap64 (x7_2 - 1))).f2) ((rd_T24 l0 (wrap64 (x7_2 - 1))).f3) ((rd_T24 l0 (wrap64 (x7_2 - 1))).f4) ((rd_T24 l0 (wrap64 (x7_2 - 1))).f5) ((rd_T24 l0 (wrap64 (x7_2 - 1))).f6)).bind fun t292 => ((watchfireref26_Same.f k2 ((rd_T24 l0 x7_2).f0) ((rd_T24 l0 x7_2).f1) ((rd_T24 l0 x7_2).f2) ((rd_T24 l0 x7_2).f3) ((rd_T24 l0 x7_2).f4) ((rd_T24 l0 x7_2).f5) ((rd_T24 l0 x7_2).f6) ((rd_T24 l0 (wrap64 (x7_2 - 1))).f0) ((rd_T24 l0 (wrap64 (x7_2 - 1))).f1) ((rd_T24 l0 (wrap64 (x7_2 - 1))).f2) ((rd_T24 l0 (wrap64 (x7_2 - 1))).f3) ((rd_T24 l0 (wrap64 (x7_2 - 1))).f4) ((rd_T24 l0 (wrap64 (x7_2 - 1))).f5) ((rd_T24 l0 (wrap64 (x7_2 - 1))).f6)).bind fun t295 => (if (t292 != t295) = true then (some false) else (watchfirelaw26_IntervalAny.l0 k2 l0 l1 a2 (wrap64 (x7_2 + 1)))))) else (none)) else (none)) else (watchfirelaw26_IntervalAny.l0 k2 l0 l1 a2 (wrap64 (x7_2 + 1)))) = some r := by rw [if_pos rfl] at H; exact H
         clear H
         have H := H1
         clear H1
         by_cases c13 : x7_2 > 0
         ·rw [if_pos c13] at H
          have c13b0 : decide (0 < x7_2) = true := decide_eq_true c13
          clear c13
          obtain ⟨ji14, hji14⟩ : ∃ j_ : Int, (wrap64 (x7_2 - 1)) = j_ := ⟨_, rfl⟩
          replace H : (if 0 ≤ (ji14) then (if (ji14) < (l0.length : Int) then ((ISame.f ((rd_T24 l0 x7_2).f0) ((rd_T24 l0 x7_2).f1) ((rd_T24 l0 x7_2).f2) ((rd_T24 l0 x7_2).f3) ((rd_T24 l0 x7_2).f4) ((rd_T24 l0 x7_2).f5) ((rd_T24 l0 x7_2).f6) ((rd_T24 l0 (ji14)).f0) ((rd_T24 l0 (ji14)).f1) ((rd_T24 l0 (ji14)).f2) ((rd_T24 l0 (ji14)).f3) ((rd_T24 l0 (ji14)).f4) ((rd_T24 l0 (ji14)).f5) ((rd_T24 l0 (ji14)).f6)).bind fun t292 => ((watchfireref26_Same.f k2 ((rd_T24 l0 x7_2).f0) ((rd_T24 l0 x7_2).f1) ((rd_T24 l0 x7_2).f2) ((rd_T24 l0 x7_2).f3) ((rd_T24 l0 x7_2).f4) ((rd_T24 l0 x7_2).f5) ((rd_T24 l0 x7_2).f6) ((rd_T24 l0 (ji14)).f0) ((rd_T24 l0 (ji14)).f1) ((rd_T24 l0 (ji14)).f2) ((rd_T24 l0 (ji14)).f3) ((rd_T24 l0 (ji14)).f4) ((rd_T24 l0 (ji14)).f5) ((rd_T24 l0 (ji14)).f6)).bind fun t295 => (if (t292 != t295) = true then (some false) else (watchfirelaw26_IntervalAny.l0 k2 l0 l1 a2 (wrap64 (x7_2 + 1)))))) else (none)) else (none)) = some r := by first | (rw [hji14] at H; exact H) | (simp only [hji14] at H ⊢; exact H)
          (try rw [hji14] at A11)
          have hji14w : (IntKind.i64.wrap (x7_2 - 1)) = ji14 := (i64_w _).trans hji14
          by_cases c15 : 0 ≤ (ji14)
          ·rw [if_pos c15] at H
           have c15b0 : decide (0 ≤ (ji14)) = true := decide_eq_true c15
           clear c15
           by_cases c16 : (ji14) < (l0.length : Int)
           ·rw [if_pos c16] at H
            have c16b0 : decide ((ji14) < (l0.length : Int)) = true := decide_eq_true c16
            clear c16
            replace H := Option.bind_eq_some_iff.mp H
            obtain ⟨t292, A170, H⟩ := H
            replace H : ((watchfireref26_Same.f k2 ((rd_T24 l0 x7_2).f0) ((rd_T24 l0 x7_2).f1) ((rd_T24 l0 x7_2).f2) ((rd_T24 l0 x7_2).f3) ((rd_T24 l0 x7_2).f4) ((rd_T24 l0 x7_2).f5) ((rd_T24 l0 x7_2).f6) ((rd_T24 l0 (ji14)).f0) ((rd_T24 l0 (ji14)).f1) ((rd_T24 l0 (ji14)).f2) ((rd_T24 l0 (ji14)).f3) ((rd_T24 l0 (ji14)).f4) ((rd_T24 l0 (ji14)).f5) ((rd_T24 l0 (ji14)).f6)).bind fun t295 => (if (t292 != t295) = true then (some false) else (watchfirelaw26_IntervalAny.l0 k2 l0 l1 a2 (wrap64 (x7_2 + 1))))) = some r := H
            have A17 := Aside0.mk A170
            clear A170
            replace H := Option.bind_eq_some_iff.mp H
            obtain ⟨t295, A180, H⟩ := H
            replace H : (if (t292 != t295) = true then (some false) else (watchfirelaw26_IntervalAny.l0 k2 l0 l1 a2 (wrap64 (x7_2 + 1)))) = some r := H
            have A18 := Aside0.mk A180
            clear A180
            by_cases c19 : (t292 != t295) = true
            ·rw [if_pos c19] at H
             have c19b0 : (t292 != t295) = true := c19
             (try (have c19b1 : decide (t292 = t295) = false := by simpa using c19))
             (try (have c19b2 : (t292 == t295) = false := by simpa using c19))
             (try (have c19b3 : ¬ (t292 = t295) := by simpa using c19))
             clear c19
             obtain rfl := Option.some.inj H
             have p287 : 0 ≤ (x7_2 : Int) := of_decide_eq_true (by first | (with_reducible assumption) | assumption)
             have q287 : x7_2 < (l0.length : Int) := of_decide_eq_true (by first | (with_reducible assumption) | assumption)
             obtain ⟨ad287, A287_1, c287_1, A287_2, c287_2, A287_3, c287_3, A287_4, c287_4, A287_5, c287_5, e287, hx287_0, hx287_1, hx287_2, hx287_3, hx287_4, hx287_5, hx287_6, hl287_1, hi287_1, hl287_2, hi287_2, hl287_3, hi287_3, hl287_4, hi287_4, hl287_5, hi287_5⟩ := at_T24 HR0.out x7_2 p287 q287
             cases e287
             replace hx287_0 := (HB.out.cell (World.block_lt_of_cell? w _ hx287_0)).trans hx287_0
             replace hx287_1 := (HB.out.cell (World.block_lt_of_cell? w _ hx287_1)).trans hx287_1
             replace hx287_2 := (HB.out.cell (World.block_lt_of_cell? w _ hx287_2)).trans hx287_2
             replace hx287_3 := (HB.out.cell (World.block_lt_of_cell? w _ hx287_3)).trans hx287_3
             replace hx287_4 := (HB.out.cell (World.block_lt_of_cell? w _ hx287_4)).trans hx287_4
             replace hx287_5 := (HB.out.cell (World.block_lt_of_cell? w _ hx287_5)).trans hx287_5
             replace hx287_6 := (HB.out.cell (World.block_lt_of_cell? w _ hx287_6)).trans hx287_6
             have HR287_1 := Aside0.mk hi287_1
             have HC287_1 := Aside0.mk hl287_1
             clear hi287_1 hl287_1
             have HR287_2 := Aside0.mk hi287_2
             have HC287_2 := Aside0.mk hl287_2
             clear hi287_2 hl287_2
             have HR287_3 := Aside0.mk hi287_3
             have HC287_3 := Aside0.mk hl287_3
             clear hi287_3 hl287_3
             have HR287_4 := Aside0.mk hi287_4
             have HC287_4 := Aside0.mk hl287_4
             clear hi287_4 hl287_4
             have HR287_5 := Aside0.mk hi287_5
             have HC287_5 := Aside0.mk hl287_5
             clear hi287_5 hl287_5
             replace p287 := eq_true p287
             replace q287 := eq_true q287
             try go_wp2_with (first | ((with_reducible refine gate_callee (f := 8) rfl ?_); refine goesL_ (some 27) rfl rfl Tryz.func8 (by kernel_rfl) rfl #[.agg #[.string ((rd_T24 l0 x7_2).f0), .slice A287_1 ((rd_T24 l0 x7_2).f1).length c287_1, .slice A287_2 ((rd_T24 l0 x7_2).f2).length c287_2, .slice A287_3 ((rd_T24 l0 x7_2).f3).length c287_3, .slice A287_4 ((rd_T24 l0 x7_2).f4).length c287_4, .slice A287_5 ((rd_T24 l0 x7_2).f5).length c287_5, .int .i64 ((rd_T24 l0 x7_2).f6)]] rfl (by (try simp only [List.map_toArray, List.map_cons, List.map_nil]); first | done | rfl | (simp only [List.length_drop, List.length_take]; rfl)) ?_; (with_reducible refine (watchfireref26_Light.calls k2 ((rd_T24 l0 x7_2).f0) _ _ ((rd_T24 l0 x7_2).f1) _ _ ((rd_T24 l0 x7_2).f2) _ _ ((rd_T24 l0 x7_2).f3) _ _ ((rd_T24 l0 x7_2).f4) _ _ ((rd_T24 l0 x7_2).f5) ((rd_T24 l0 x7_2).f6) true _ ?side1 ?side2 ?side3 ?side4 ?side5 ?side6 ?side7 ?side8 ?side9 ?side10 A11.out).mono ?_); (case side1 => repeat (first | exact (Kd.C_below HR287_1.out HB.out) | (with_reducible refine Kd.C_alloc ?_ _) | (with_reducible refine Kd.C_drewN ?_ _) | (with_reducible refine Kd.C_drew ?_))); (case side2 => exact HC287_1.out); (case side3 => repeat (first | exact (Kd.C_below HR287_2.out HB.out) | (with_reducible refine Kd.C_alloc ?_ _) | (with_reducible refine Kd.C_drewN ?_ _) | (with_reducible refine Kd.C_drew ?_))); (case side4 => exact HC287_2.out); (case side5 => repeat (first | exact (Kd.C_below HR287_3.out HB.out) | (with_reducible refine Kd.C_alloc ?_ _) | (with_reducible refine Kd.C_drewN ?_ _) | (with_reducible refine Kd.C_drew ?_))); (case side6 => exact HC287_3.out); (case side7 => repeat (first | exact (Kd.C_below HR287_4.out HB.out) | (with_reducible refine Kd.C_alloc ?_ _) | (with_reducible refine Kd.C_drewN ?_ _) | (with_reducible refine Kd.C_drew ?_))); (case side8 => exact HC287_4.out); (case side9 => repeat (first | exact (Kd.C_below HR287_5.out HB.out) | (with_reducible refine Kd.C_alloc ?_ _) | (with_reducible refine Kd.C_drewN ?_ _) | (with_reducible refine Kd.C_drew ?_))); (case side10 => exact HC287_5.out); rintro e w20 ⟨rfl, hb⟩; refine ⟨_, rfl, ?_⟩; have n0_ := Aside0.mk (below_step (by repeat (first | (with_reducible first | exact HB.out | apply below_alloc | apply pw_below_drewN | apply below_drew1) | exact HB.out)) hb); clear HB; have HB := n0_; clear n0_; (try clear hb); (try clear hb2); (try clear hk); (try clear hi)))
             have n0_ := Aside0.mk (below_drew1 HB.out)
             clear HB
             have HB := n0_
             clear n0_
             have p290 : 0 ≤ (x7_2 : Int) := of_decide_eq_true (by first | (with_reducible assumption) | assumption)
             have q290 : x7_2 < (l0.length : Int) := of_decide_eq_true (by first | (with_reducible assumption) | assumption)
             obtain ⟨ad290, A290_1, c290_1, A290_2, c290_2, A290_3, c290_3, A290_4, c290_4, A290_5, c290_5, e290, hx290_0, hx290_1, hx290_2, hx290_3, hx290_4, hx290_5, hx290_6, hl290_1, hi290_1, hl290_2, hi290_2, hl290_3, hi290_3, hl290_4, hi290_4, hl290_5, hi290_5⟩ := at_T24 HR0.out x7_2 p290 q290
             have hw290_6 := hx290_6
             have hw290_5 := hx290_5
             have hw290_4 := hx290_4
             have hw290_3 := hx290_3
             have hw290_2 := hx290_2
             have hw290_1 := hx290_1
             have hw290_0 := hx290_0
             obtain rfl : ad287 = ad290 := (by injection e290)
             replace hx290_0 := (HB.out.cell (World.block_lt_of_cell? w _ hx290_0)).trans hx290_0
             replace hx290_1 := (HB.out.cell (World.block_lt_of_cell? w _ hx290_1)).trans hx290_1
             replace hx290_2 := (HB.out.cell (World.block_lt_of_cell? w _ hx290_2)).trans hx290_2
             replace hx290_3 := (HB.out.cell (World.block_lt_of_cell? w _ hx290_3)).trans hx290_3
             replace hx290_4 := (HB.out.cell (World.block_lt_of_cell? w _ hx290_4)).trans hx290_4
             replace hx290_5 := (HB.out.cell (World.block_lt_of_cell? w _ hx290_5)).trans hx290_5
             replace hx290_6 := (HB.out.cell (World.block_lt_of_cell? w _ hx290_6)).trans hx290_6
             have HR290_1 := Aside0.mk hi290_1
             have HC290_1 := Aside0.mk hl290_1
             clear hi290_1 hl290_1
             have HR290_2 := Aside0.mk hi290_2
             have HC290_2 := Aside0.mk hl290_2
             clear hi290_2 hl290_2
             have HR290_3 := Aside0.mk hi290_3
             have HC290_3 := Aside0.mk hl290_3
             clear hi290_3 hl290_3
             have HR290_4 := Aside0.mk hi290_4
             have HC290_4 := Aside0.mk hl290_4
             clear hi290_4 hl290_4
             have HR290_5 := Aside0.mk hi290_5
             have HC290_5 := Aside0.mk hl290_5
             clear hi290_5 hl290_5
             replace p290 := eq_true p290
             replace q290 := eq_true q290
             have p291 : 0 ≤ ((ji14) : Int) := of_decide_eq_true (by first | (with_reducible assumption) | assumption)
             have q291 : (ji14) < (l0.length : Int) := of_decide_eq_true (by first | (with_reducible assumption) | assumption)
             obtain ⟨ad291, A291_1, c291_1, A291_2, c291_2, A291_3, c291_3, A291_4, c291_4, A291_5, c291_5, e291, hx291_0, hx291_1, hx291_2, hx291_3, hx291_4, hx291_5, hx291_6, hl291_1, hi291_1, hl291_2, hi291_2, hl291_3, hi291_3, hl291_4, hi291_4, hl291_5, hi291_5⟩ := at_T24 HR0.out (ji14) p291 q291
             have hw291_6 := hx291_6
             have hw291_5 := hx291_5
             have hw291_4 := hx291_4
             have hw291_3 := hx291_3
             have hw291_2 := hx291_2
             have hw291_1 := hx291_1
             have hw291_0 := hx291_0
             obtain rfl : ad287 = ad291 := (by injection e291)
             replace hx291_0 := (HB.out.cell (World.block_lt_of_cell? w _ hx291_0)).trans hx291_0
             replace hx291_1 := (HB.out.cell (World.block_lt_of_cell? w _ hx291_1)).trans hx291_1
             replace hx291_2 := (HB.out.cell (World.block_lt_of_cell? w _ hx291_2)).trans hx291_2
             replace hx291_3 := (HB.out.cell (World.block_lt_of_cell? w _ hx291_3)).trans hx291_3
             replace hx291_4 := (HB.out.cell (World.block_lt_of_cell? w _ hx291_4)).trans hx291_4
             replace hx291_5 := (HB.out.cell (World.block_lt_of_cell? w _ hx291_5)).trans hx291_5
             replace hx291_6 := (HB.out.cell (World.block_lt_of_cell? w _ hx291_6)).trans hx291_6
             have HR291_1 := Aside0.mk hi291_1
             have HC291_1 := Aside0.mk hl291_1
             clear hi291_1 hl291_1
             have HR291_2 := Aside0.mk hi291_2
             have HC291_2 := Aside0.mk hl291_2
             clear hi291_2 hl291_2
             have HR291_3 := Aside0.mk hi291_3
             have HC291_3 := Aside0.mk hl291_3
             clear hi291_3 hl291_3
             have HR291_4 := Aside0.mk hi291_4
             have HC291_4 := Aside0.mk hl291_4
             clear hi291_4 hl291_4
             have HR291_5 := Aside0.mk hi291_5
             have HC291_5 := Aside0.mk hl291_5
             clear hi291_5 hl291_5
             replace p291 := eq_true p291
             replace q291 := eq_true q291
             have p293 : 0 ≤ (x7_2 : Int) := of_decide_eq_true (by first | (with_reducible assumption) | assumption)
             have q293 : x7_2 < (l0.length : Int) := of_decide_eq_true (by first | (with_reducible assumption) | assumption)
             obtain ⟨ad293, A293_1, c293_1, A293_2, c293_2, A293_3, c293_3, A293_4, c293_4, A293_5, c293_5, e293, hx293_0, hx293_1, hx293_2, hx293_3, hx293_4, hx293_5, hx293_6, hl293_1, hi293_1, hl293_2, hi293_2, hl293_3, hi293_3, hl293_4, hi293_4, hl293_5, hi293_5⟩ := at_T24 HR0.out x7_2 p293 q293
             have hw293_6 := hx293_6
             have hw293_5 := hx293_5
             have hw293_4 := hx293_4
             have hw293_3 := hx293_3
             have hw293_2 := hx293_2
             have hw293_1 := hx293_1
             have hw293_0 := hx293_0
             obtain rfl : ad287 = ad293 := (by injection e293)
             replace hx293_0 := (HB.out.cell (World.block_lt_of_cell? w _ hx293_0)).trans hx293_0
             replace hx293_1 := (HB.out.cell (World.block_lt_of_cell? w _ hx293_1)).trans hx293_1
             replace hx293_2 := (HB.out.cell (World.block_lt_of_cell? w _ hx293_2)).trans hx293_2
             replace hx293_3 := (HB.out.cell (World.block_lt_of_cell? w _ hx293_3)).trans hx293_3
             replace hx293_4 := (HB.out.cell (World.block_lt_of_cell? w _ hx293_4)).trans hx293_4
             replace hx293_5 := (HB.out.cell (World.block_lt_of_cell? w _ hx293_5)).trans hx293_5
             replace hx293_6 := (HB.out.cell (World.block_lt_of_cell? w _ hx293_6)).trans hx293_6
             have HR293_1 := Aside0.mk hi293_1
             have HC293_1 := Aside0.mk hl293_1
             clear hi293_1 hl293_1
             have HR293_2 := Aside0.mk hi293_2
             have HC293_2 := Aside0.mk hl293_2
             clear hi293_2 hl293_2
             have HR293_3 := Aside0.mk hi293_3
             have HC293_3 := Aside0.mk hl293_3
             clear hi293_3 hl293_3
             have HR293_4 := Aside0.mk hi293_4
             have HC293_4 := Aside0.mk hl293_4
             clear hi293_4 hl293_4
             have HR293_5 := Aside0.mk hi293_5
             have HC293_5 := Aside0.mk hl293_5
             clear hi293_5 hl293_5
             replace p293 := eq_true p293
             replace q293 := eq_true q293
             have ea_ := Option.some.inj (hx290_1.symm.trans hx293_1)
             injection ea_ with ea_ en_ ec_
             subst ea_
             subst ec_
             clear en_
             have ea_ := Option.some.inj (hx290_2.symm.trans hx293_2)
             injection ea_ with ea_ en_ ec_
             subst ea_
             subst ec_
             clear en_
             have ea_ := Option.some.inj (hx290_3.symm.trans hx293_3)
             injection ea_ with ea_ en_ ec_
             subst ea_
             subst ec_
             clear en_
             have ea_ := Option.some.inj (hx290_4.symm.trans hx293_4)
             injection ea_ with ea_ en_ ec_
             subst ea_
             subst ec_
             clear en_
             have ea_ := Option.some.inj (hx290_5.symm.trans hx293_5)
             injection ea_ with ea_ en_ ec_
             subst ea_
             subst ec_
             clear en_
             have p294 : 0 ≤ ((ji14) : Int) := of_decide_eq_true (by first | (with_reducible assumption) | assumption)
             have q294 : (ji14) < (l0.length : Int) := of_decide_eq_true (by first | (with_reducible assumption) | assumption)
             obtain ⟨ad294, A294_1, c294_1, A294_2, c294_2, A294_3, c294_3, A294_4, c294_4, A294_5, c294_5, e294, hx294_0, hx294_1, hx294_2, hx294_3, hx294_4, hx294_5, hx294_6, hl294_1, hi294_1, hl294_2, hi294_2, hl294_3, hi294_3, hl294_4, hi294_4, hl294_5, hi294_5⟩ := at_T24 HR0.out (ji14) p294 q294
             have hw294_6 := hx294_6
             have hw294_5 := hx294_5
             have hw294_4 := hx294_4
             have hw294_3 := hx294_3
             have hw294_2 := hx294_2
             have hw294_1 := hx294_1
             have hw294_0 := hx294_0
             obtain rfl : ad287 = ad294 := (by injection e294)
             replace hx294_0 := (HB.out.cell (World.block_lt_of_cell? w _ hx294_0)).trans hx294_0
             replace hx294_1 := (HB.out.cell (World.block_lt_of_cell? w _ hx294_1)).trans hx294_1
             replace hx294_2 := (HB.out.cell (World.block_lt_of_cell? w _ hx294_2)).trans hx294_2
             replace hx294_3 := (HB.out.cell (World.block_lt_of_cell? w _ hx294_3)).trans hx294_3
             replace hx294_4 := (HB.out.cell (World.block_lt_of_cell? w _ hx294_4)).trans hx294_4
             replace hx294_5 := (HB.out.cell (World.block_lt_of_cell? w _ hx294_5)).trans hx294_5
             replace hx294_6 := (HB.out.cell (World.block_lt_of_cell? w _ hx294_6)).trans hx294_6
             have HR294_1 := Aside0.mk hi294_1
             have HC294_1 := Aside0.mk hl294_1
             clear hi294_1 hl294_1
             have HR294_2 := Aside0.mk hi294_2
             have HC294_2 := Aside0.mk hl294_2
             clear hi294_2 hl294_2
             have HR294_3 := Aside0.mk hi294_3
             have HC294_3 := Aside0.mk hl294_3
             clear hi294_3 hl294_3
             have HR294_4 := Aside0.mk hi294_4
             have HC294_4 := Aside0.mk hl294_4
             clear hi294_4 hl294_4
             have HR294_5 := Aside0.mk hi294_5
             have HC294_5 := Aside0.mk hl294_5
             clear hi294_5 hl294_5
             replace p294 := eq_true p294
             replace q294 := eq_true q294
             have ea_ := Option.some.inj (hx291_1.symm.trans hx294_1)
             injection ea_ with ea_ en_ ec_
             subst ea_
             subst ec_
             clear en_
             have ea_ := Option.some.inj (hx291_2.symm.trans hx294_2)
             injection ea_ with ea_ en_ ec_
             subst ea_
             subst ec_
             clear en_
             have ea_ := Option.some.inj (hx291_3.symm.trans hx294_3)
             injection ea_ with ea_ en_ ec_
             subst ea_
             subst ec_
             clear en_
             have ea_ := Option.some.inj (hx291_4.symm.trans hx294_4)
             injection ea_ with ea_ en_ ec_
             subst ea_
             subst ec_
             clear en_
             have ea_ := Option.some.inj (hx291_5.symm.trans hx294_5)
             injection ea_ with ea_ en_ ec_
             subst ea_
             subst ec_
             clear en_
             refine start_ (n := 25) (S := fun w' => w'.cell? (ad287.add ((x7_2).toNat * 7)) = some (.string ((rd_T24 l0 x7_2).f0)) ∧ w'.cell? ⟨(ad287.add ((x7_2).toNat * 7)).block, (ad287.add ((x7_2).toNat * 7)).off + 1, none⟩ = some (.slice A290_1 ((rd_T24 l0 x7_2).f1).length c290_1) ∧ w'.cell? ⟨(ad287.add ((x7_2).toNat * 7)).block, (ad287.add ((x7_2).toNat * 7)).off + 2, none⟩ = some (.slice A290_2 ((rd_T24 l0 x7_2).f2).length c290_2) ∧ w'.cell? ⟨(ad287.add ((x7_2).toNat * 7)).block, (ad287.add ((x7_2).toNat * 7)).off + 3, none⟩ = some (.slice A290_3 ((rd_T24 l0 x7_2).f3).length c290_3) ∧ w'.cell? ⟨(ad287.add ((x7_2).toNat * 7)).block, (ad287.add ((x7_2).toNat * 7)).off + 4, none⟩ = some (.slice A290_4 ((rd_T24 l0 x7_2).f4).length c290_4) ∧ w'.cell? ⟨(ad287.add ((x7_2).toNat * 7)).block, (ad287.add ((x7_2).toNat * 7)).off + 5, none⟩ = some (.slice A290_5 ((rd_T24 l0 x7_2).f5).length c290_5) ∧ w'.cell? ⟨(ad287.add ((x7_2).toNat * 7)).block, (ad287.add ((x7_2).toNat * 7)).off + 6, none⟩ = some (.int .i64 ((rd_T24 l0 x7_2).f6)) ∧ w'.cell? (ad287.add (((ji14)).toNat * 7)) = some (.string ((rd_T24 l0 (ji14)).f0)) ∧ w'.cell? ⟨(ad287.add (((ji14)).toNat * 7)).block, (ad287.add (((ji14)).toNat * 7)).off + 1, none⟩ = some (.slice A291_1 ((rd_T24 l0 (ji14)).f1).length c291_1) ∧ w'.cell? ⟨(ad287.add (((ji14)).toNat * 7)).block, (ad287.add (((ji14)).toNat * 7)).off + 2, none⟩ = some (.slice A291_2 ((rd_T24 l0 (ji14)).f2).length c291_2) ∧ w'.cell? ⟨(ad287.add (((ji14)).toNat * 7)).block, (ad287.add (((ji14)).toNat * 7)).off + 3, none⟩ = some (.slice A291_3 ((rd_T24 l0 (ji14)).f3).length c291_3) ∧ w'.cell? ⟨(ad287.add (((ji14)).toNat * 7)).block, (ad287.add (((ji14)).toNat * 7)).off + 4, none⟩ = some (.slice A291_4 ((rd_T24 l0 (ji14)).f4).length c291_4) ∧ w'.cell? ⟨(ad287.add (((ji14)).toNat * 7)).block, (ad287.add (((ji14)).toNat * 7)).off + 5, none⟩ = some (.slice A291_5 ((rd_T24 l0 (ji14)).f5).length c291_5) ∧ w'.cell? ⟨(ad287.add (((ji14)).toNat * 7)).block, (ad287.add (((ji14)).toNat * 7)).off + 6, none⟩ = some (.int .i64 ((rd_T24 l0 (ji14)).f6)) ∧ w'.cell? (ad287.add ((x7_2).toNat * 7)) = some (.string ((rd_T24 l0 x7_2).f0)) ∧ w'.cell? ⟨(ad287.add ((x7_2).toNat * 7)).block, (ad287.add ((x7_2).toNat * 7)).off + 1, none⟩ = some (.slice A290_1 ((rd_T24 l0 x7_2).f1).length c290_1) ∧ w'.cell? ⟨(ad287.add ((x7_2).toNat * 7)).block, (ad287.add ((x7_2).toNat * 7)).off + 2, none⟩ = some (.slice A290_2 ((rd_T24 l0 x7_2).f2).length c290_2) ∧ w'.cell? ⟨(ad287.add ((x7_2).toNat * 7)).block, (ad287.add ((x7_2).toNat * 7)).off + 3, none⟩ = some (.slice A290_3 ((rd_T24 l0 x7_2).f3).length c290_3) ∧ w'.cell? ⟨(ad287.add ((x7_2).toNat * 7)).block, (ad287.add ((x7_2).toNat * 7)).off + 4, none⟩ = some (.slice A290_4 ((rd_T24 l0 x7_2).f4).length c290_4) ∧ w'.cell? ⟨(ad287.add ((x7_2).toNat * 7)).block, (ad287.add ((x7_2).toNat * 7)).off + 5, none⟩ = some (.slice A290_5 ((rd_T24 l0 x7_2).f5).length c290_5) ∧ w'.cell? ⟨(ad287.add ((x7_2).toNat * 7)).block, (ad287.add ((x7_2).toNat * 7)).off + 6, none⟩ = some (.int .i64 ((rd_T24 l0 x7_2).f6)) ∧ w'.cell? (ad287.add (((ji14)).toNat * 7)) = some (.string ((rd_T24 l0 (ji14)).f0)) ∧ w'.cell? ⟨(ad287.add (((ji14)).toNat * 7)).block, (ad287.add (((ji14)).toNat * 7)).off + 1, none⟩ = some (.slice A291_1 ((rd_T24 l0 (ji14)).f1).length c291_1) ∧ w'.cell? ⟨(ad287.add (((ji14)).toNat * 7)).block, (ad287.add (((ji14)).toNat * 7)).off + 2, none⟩ = some (.slice A291_2 ((rd_T24 l0 (ji14)).f2).length c291_2) ∧ w'.cell? ⟨(ad287.add (((ji14)).toNat * 7)).block, (ad287.add (((ji14)).toNat * 7)).off + 3, none⟩ = some (.slice A291_3 ((rd_T24 l0 (ji14)).f3).length c291_3) ∧ w'.cell? ⟨(ad287.add (((ji14)).toNat * 7)).block, (ad287.add (((ji14)).toNat * 7)).off + 4, none⟩ = some (.slice A291_4 ((rd_T24 l0 (ji14)).f4).length c291_4) ∧ w'.cell? ⟨(ad287.add (((ji14)).toNat * 7)).block, (ad287.add (((ji14)).toNat * 7)).off + 5, none⟩ = some (.slice A291_5 ((rd_T24 l0 (ji14)).f5).length c291_5) ∧ w'.cell? ⟨(ad287.add (((ji14)).toNat * 7)).block, (ad287.add (((ji14)).toNat * 7)).off + 6, none⟩ = some (.int .i64 ((rd_T24 l0 (ji14)).f6))) (ds := []) #[false, false, false, false, false, false, false, false, false, false, false, false, false, false, false, false, false, false, false, false, false, false, false, false, false] (by kernel_rfl) rfl rfl ⟨((HB.out.cell (World.block_lt_of_cell? w _ hw290_0)).trans hw290_0), ((HB.out.cell (World.block_lt_of_cell? w _ hw290_1)).trans hw290_1), ((HB.out.cell (World.block_lt_of_cell? w _ hw290_2)).trans hw290_2), ((HB.out.cell (World.block_lt_of_cell? w _ hw290_3)).trans hw290_3), ((HB.out.cell (World.block_lt_of_cell? w _ hw290_4)).trans hw290_4), ((HB.out.cell (World.block_lt_of_cell? w _ hw290_5)).trans hw290_5), ((HB.out.cell (World.block_lt_of_cell? w _ hw290_6)).trans hw290_6), ((HB.out.cell (World.block_lt_of_cell? w _ hw291_0)).trans hw291_0), ((HB.out.cell (World.block_lt_of_cell? w _ hw291_1)).trans hw291_1), ((HB.out.cell (World.block_lt_of_cell? w _ hw291_2)).trans hw291_2), ((HB.out.cell (World.block_lt_of_cell? w _ hw291_3)).trans hw291_3), ((HB.out.cell (World.block_lt_of_cell? w _ hw291_4)).trans hw291_4), ((HB.out.cell (World.block_lt_of_cell? w _ hw291_5)).trans hw291_5), ((HB.out.cell (World.block_lt_of_cell? w _ hw291_6)).trans hw291_6), ((HB.out.cell (World.block_lt_of_cell? w _ hw293_0)).trans hw293_0), ((HB.out.cell (World.block_lt_of_cell? w _ hw293_1)).trans hw293_1), ((HB.out.cell (World.block_lt_of_cell? w _ hw293_2)).trans hw293_2), ((HB.out.cell (World.block_lt_of_cell? w _ hw293_3)).trans hw293_3), ((HB.out.cell (World.block_lt_of_cell? w _ hw293_4)).trans hw293_4), ((HB.out.cell (World.block_lt_of_cell? w _ hw293_5)).trans hw293_5), ((HB.out.cell (World.block_lt_of_cell? w _ hw293_6)).trans hw293_6), ((HB.out.cell (World.block_lt_of_cell? w _ hw294_0)).trans hw294_0), ((HB.out.cell (World.block_lt_of_cell? w _ hw294_1)).trans hw294_1), ((HB.out.cell (World.block_lt_of_cell? w _ hw294_2)).trans hw294_2), ((HB.out.cell (World.block_lt_of_cell? w _ hw294_3)).trans hw294_3), ((HB.out.cell (World.block_lt_of_cell? w _ hw294_4)).trans hw294_4), ((HB.out.cell (World.block_lt_of_cell? w _ hw294_5)).trans hw294_5), ((HB.out.cell (World.block_lt_of_cell? w _ hw294_6)).trans hw294_6)⟩ (fun hHeld => ?_); refine with_tabW watchfirelaw26_IntervalAny.tab8 watchfirelaw26_IntervalAny.bits8 (fun HT_ HW_ => ?_)
             generalize w20.drew = w21 at HB HR290_1 HR290_2 HR290_3 HR290_4 HR290_5 HR291_1 HR291_2 HR291_3 HR291_4 HR291_5 HR293_1 HR293_2 HR293_3 HR293_4 HR293_5 HR294_1 HR294_2 HR294_3 HR294_4 HR294_5 hx290_0 hx290_1 hx290_2 hx290_3 hx290_4 hx290_5 hx290_6 hx291_0 hx291_1 hx291_2 hx291_3 hx291_4 hx291_5 hx291_6 hx293_0 hx293_1 hx293_2 hx293_3 hx293_4 hx293_5 hx293_6 hx294_0 hx294_1 hx294_2 hx294_3 hx294_4 hx294_5 hx294_6 hHeld ⊢
             refine pure_ (i := 0) (N := some 30) (v := ?_) (a' := ?_) #[true, false, false, false, false, false, false, false, false, false, false, false, false, false, false, false, false, false, false, false, false, false, false, false, false] rfl rfl (any_of HT_.out (by kernel_rfl)) (fun _ _ _ h => h) (Or.inl ⟨by rfl, ?_⟩) ?_ ?_
             rotate_left
             ·intro w'
              go_simp
              with_reducible rfl
             rotate_left
             ·simp only [Act.put, List.setIfInBounds_toArray, List.set_cons_zero, List.set_cons_succ, i64_w, i32_w]
              rfl
             refine pure_ (i := 1) (N := some 31) (v := ?_) (a' := ?_) #[true, true, false, false, false, false, false, false, false, false, false, false, false, false, false, false, false, false, false, false, false, false, false, false, false] rfl rfl (any_of HT_.out (by kernel_rfl)) (fun _ _ _ h => h) (Or.inl ⟨by rfl, ?_⟩) ?_ ?_
             rotate_left
             ·intro w'
              go_simp
              with_reducible rfl
             rotate_left
             ·simp only [Act.put, List.setIfInBounds_toArray, List.set_cons_zero, List.set_cons_succ, i64_w, i32_w]
              rfl
             refine pure_ (i := 2) (N := some 32) (v := ?_) (a' := ?_) #[true, true, true, false, false, false, false, false, false, false, false, false, false, false, false, false, false, false, false, false, false, false, false, false, false] rfl rfl (any_of HT_.out (by kernel_rfl)) (fun _ _ _ h => h) (Or.inl ⟨by rfl, ?_⟩) ?_ ?_
             rotate_left
             ·intro w'
              go_simp
              with_reducible rfl
             rotate_left
             ·simp only [Act.put, List.setIfInBounds_toArray, List.set_cons_zero, List.set_cons_succ, i64_w, i32_w]
              rfl
             refine pure_ (i := 3) (N := some 33) (v := ?_) (a' := ?_) #[true, true, true, true, false, false, false, false, false, false, false, false, false, false, false, false, false, false, false, false, false, false, false, false, false] rfl rfl (any_of HT_.out (by kernel_rfl)) (fun _ _ _ h => h) (Or.inl ⟨by rfl, ?_⟩) ?_ ?_
             rotate_left
             ·intro w'
              go_simp
              with_reducible rfl
             rotate_left
             ·simp only [Act.put, List.setIfInBounds_toArray, List.set_cons_zero, List.set_cons_succ, i64_w, i32_w]
              rfl
             refine pure_ (i := 4) (N := some 34) (v := ?_) (a' := ?_) #[true, true, true, true, true, false, false, false, false, false, false, false, false, false, false, false, false, false, false, false, false, false, false, false, false] rfl rfl (any_of HT_.out (by kernel_rfl)) (fun _ _ _ h => h) (Or.inl ⟨by rfl, ?_⟩) ?_ ?_
             rotate_left
             ·intro w'
              go_simp
              with_reducible rfl
             rotate_left
             ·simp only [Act.put, List.setIfInBounds_toArray, List.set_cons_zero, List.set_cons_succ, i64_w, i32_w]
              rfl
             refine pure_ (i := 5) (N := some 35) (v := ?_) (a' := ?_) #[true, true, true, true, true, true, false, false, false, false, false, false, false, false, false, false, false, false, false, false, false, false, false, false, false] rfl rfl (any_of HT_.out (by kernel_rfl)) (fun _ _ _ h => h) (Or.inl ⟨by rfl, ?_⟩) ?_ ?_
             rotate_left
             ·intro w'
              go_simp
              with_reducible rfl
             rotate_left
             ·simp only [Act.put, List.setIfInBounds_toArray, List.set_cons_zero, List.set_cons_succ, i64_w, i32_w]
              rfl
             refine pure_ (i := 7) (N := some 37) (v := ?_) (a' := ?_) #[true, true, true, true, true, true, false, true, false, false, false, false, false, false, false, false, false, false, false, false, false, false, false, false, false] rfl rfl (any_of HT_.out (by kernel_rfl)) (fun _ _ _ h => h) (Or.inl ⟨by rfl, ?_⟩) ?_ ?_
             rotate_left
             ·intro w'
              go_simp
              with_reducible rfl
             rotate_left
             ·simp only [Act.put, List.setIfInBounds_toArray, List.set_cons_zero, List.set_cons_succ, i64_w, i32_w]
              rfl
             refine pure_ (i := 8) (N := some 38) (v := ?_) (a' := ?_) #[true, true, true, true, true, true, false, true, true, false, false, false, false, false, false, false, false, false, false, false, false, false, false, false, false] rfl rfl (any_of HT_.out (by kernel_rfl)) (fun _ _ _ h => h) (Or.inl ⟨by rfl, ?_⟩) ?_ ?_
             rotate_left
             ·intro w'
              go_simp
              with_reducible rfl
             rotate_left
             ·simp only [Act.put, List.setIfInBounds_toArray, List.set_cons_zero, List.set_cons_succ, i64_w, i32_w]
              rfl
             refine pure_ (i := 9) (N := some 39) (v := ?_) (a' := ?_) #[true, true, true, true, true, true, false, true, true, true, false, false, false, false, false, false, false, false, false, false, false, false, false, false, false] rfl rfl (any_of HT_.out (by kernel_rfl)) (fun _ _ _ h => h) (Or.inl ⟨by rfl, ?_⟩) ?_ ?_
             rotate_left
             ·intro w'
              go_simp
              with_reducible rfl
             rotate_left
             ·simp only [Act.put, List.setIfInBounds_toArray, List.set_cons_zero, List.set_cons_succ, i64_w, i32_w]
              rfl
             refine pure_ (i := 10) (N := some 40) (v := ?_) (a' := ?_) #[true, true, true, true, true, true, false, true, true, true, true, false, false, false, false, false, false, false, false, false, false, false, false, false, false] rfl rfl (any_of HT_.out (by kernel_rfl)) (fun _ _ _ h => h) (Or.inl ⟨by rfl, ?_⟩) ?_ ?_
             rotate_left
             ·intro w'
              go_simp
              with_reducible rfl
             rotate_left
             ·simp only [Act.put, List.setIfInBounds_toArray, List.set_cons_zero, List.set_cons_succ, i64_w, i32_w]
              rfl
             refine pure_ (i := 13) (N := some 43) (v := ?_) (a' := ?_) #[true, true, true, true, true, true, false, true, true, true, true, false, false, true, false, false, false, false, false, false, false, false, false, false, false] rfl rfl (any_of HT_.out (by kernel_rfl)) (fun _ _ _ h => h) (Or.inl ⟨by rfl, ?_⟩) ?_ ?_
             rotate_left
             ·intro w'
              go_simp
              with_reducible rfl
             rotate_left
             ·simp only [Act.put, List.setIfInBounds_toArray, List.set_cons_zero, List.set_cons_succ, i64_w, i32_w]
              rfl
             refine pure_ (i := 14) (N := some 44) (v := ?_) (a' := ?_) #[true, true, true, true, true, true, false, true, true, true, true, false, false, true, true, false, false, false, false, false, false, false, false, false, false] rfl rfl (any_of HT_.out (by kernel_rfl)) (fun _ _ _ h => h) (Or.inl ⟨by rfl, ?_⟩) ?_ ?_
             rotate_left
             ·intro w'
              go_simp
              with_reducible rfl
             rotate_left
             ·simp only [Act.put, List.setIfInBounds_toArray, List.set_cons_zero, List.set_cons_succ, i64_w, i32_w]
              rfl
             refine pure_ (i := 15) (N := some 45) (v := ?_) (a' := ?_) #[true, true, true, true, true, true, false, true, true, true, true, false, false, true, true, true, false, false, false, false, false, false, false, false, false] rfl rfl (any_of HT_.out (by kernel_rfl)) (fun _ _ _ h => h) (Or.inl ⟨by rfl, ?_⟩) ?_ ?_
             rotate_left
             ·intro w'
              go_simp
              with_reducible rfl
             rotate_left
             ·simp only [Act.put, List.setIfInBounds_toArray, List.set_cons_zero, List.set_cons_succ, i64_w, i32_w]
              rfl
             refine pure_ (i := 17) (N := some 47) (v := ?_) (a' := ?_) #[true, true, true, true, true, true, false, true, true, true, true, false, false, true, true, true, false, true, false, false, false, false, false, false, false] rfl rfl (any_of HT_.out (by kernel_rfl)) (fun _ _ _ h => h) (Or.inl ⟨by rfl, ?_⟩) ?_ ?_
             rotate_left
             ·intro w'
              go_simp
              with_reducible rfl
             rotate_left
             ·simp only [Act.put, List.setIfInBounds_toArray, List.set_cons_zero, List.set_cons_succ, i64_w, i32_w]
              rfl
             refine pure_ (i := 18) (N := some 48) (v := ?_) (a' := ?_) #[true, true, true, true, true, true, false, true, true, true, true, false, false, true, true, true, false, true, true, false, false, false, false, false, false] rfl rfl (any_of HT_.out (by kernel_rfl)) (fun _ _ _ h => h) (Or.inl ⟨by rfl, ?_⟩) ?_ ?_
             rotate_left
             ·intro w'
              go_simp
              with_reducible rfl
             rotate_left
             ·simp only [Act.put, List.setIfInBounds_toArray, List.set_cons_zero, List.set_cons_succ, i64_w, i32_w]
              rfl
             refine pure_ (i := 19) (N := some 49) (v := ?_) (a' := ?_) #[true, true, true, true, true, true, false, true, true, true, true, false, false, true, true, true, false, true, true, true, false, false, false, false, false] rfl rfl (any_of HT_.out (by kernel_rfl)) (fun _ _ _ h => h) (Or.inl ⟨by rfl, ?_⟩) ?_ ?_
             rotate_left
             ·intro w'
              go_simp
              with_reducible rfl
             rotate_left
             ·simp only [Act.put, List.setIfInBounds_toArray, List.set_cons_zero, List.set_cons_succ, i64_w, i32_w]
              rfl
             refine pure_ (i := 20) (N := some 50) (v := ?_) (a' := ?_) #[true, true, true, true, true, true, false, true, true, true, true, false, false, true, true, true, false, true, true, true, true, false, false, false, false] rfl rfl (any_of HT_.out (by kernel_rfl)) (fun _ _ _ h => h) (Or.inl ⟨by rfl, ?_⟩) ?_ ?_
             rotate_left
             ·intro w'
              go_simp
              with_reducible rfl
             rotate_left
             ·simp only [Act.put, List.setIfInBounds_toArray, List.set_cons_zero, List.set_cons_succ, i64_w, i32_w]
              rfl
             refine take_ (i := 6) (N := some 36) (v := ?_) (a' := ?_) #[true, true, true, true, true, true, true, true, true, true, true, false, false, true, true, true, false, true, true, true, true, false, false, false, false] rfl rfl (take_ofW HT_.out HW_.out (by kernel_rfl)) (fun _ _ _ h => h) (Or.inl ⟨by rfl, ?_⟩) hHeld ?_ ?_
             rotate_left
             ·rintro w' ⟨s0, s1, s2, s3, s4, s5, s6, s7, s8, s9, s10, s11, s12, s13, s14, s15, s16, s17, s18, s19, s20, s21, s22, s23, s24, s25, s26, s27⟩
              go_simp
              with_reducible rfl
             rotate_left
             ·simp only [Act.put, List.setIfInBounds_toArray, List.set_cons_zero, List.set_cons_succ, i64_w, i32_w]
              rfl
             refine take_ (i := 11) (N := some 41) (v := ?_) (a' := ?_) #[true, true, true, true, true, true, true, true, true, true, true, true, false, true, true, true, false, true, true, true, true, false, false, false, false] rfl rfl (take_ofW HT_.out HW_.out (by kernel_rfl)) (fun _ _ _ h => h) (Or.inl ⟨by rfl, ?_⟩) hHeld ?_ ?_
             rotate_left
             ·rintro w' ⟨s0, s1, s2, s3, s4, s5, s6, s7, s8, s9, s10, s11, s12, s13, s14, s15, s16, s17, s18, s19, s20, s21, s22, s23, s24, s25, s26, s27⟩
              go_simp
              with_reducible rfl
             rotate_left
             ·simp only [Act.put, List.setIfInBounds_toArray, List.set_cons_zero, List.set_cons_succ, i64_w, i32_w]
              rfl
             refine take_ (i := 16) (N := some 46) (v := ?_) (a' := ?_) #[true, true, true, true, true, true, true, true, true, true, true, true, false, true, true, true, true, true, true, true, true, false, false, false, false] rfl rfl (take_ofW HT_.out HW_.out (by kernel_rfl)) (fun _ _ _ h => h) (Or.inl ⟨by rfl, ?_⟩) hHeld ?_ ?_
             rotate_left
             ·rintro w' ⟨s0, s1, s2, s3, s4, s5, s6, s7, s8, s9, s10, s11, s12, s13, s14, s15, s16, s17, s18, s19, s20, s21, s22, s23, s24, s25, s26, s27⟩
              go_simp
              with_reducible rfl
             rotate_left
             ·simp only [Act.put, List.setIfInBounds_toArray, List.set_cons_zero, List.set_cons_succ, i64_w, i32_w]
              rfl
             refine take_ (i := 21) (N := some 51) (v := ?_) (a' := ?_) #[true, true, true, true, true, true, true, true, true, true, true, true, false, true, true, true, true, true, true, true, true, true, false, false, false] rfl rfl (take_ofW HT_.out HW_.out (by kernel_rfl)) (fun _ _ _ h => h) (Or.inl ⟨by rfl, ?_⟩) hHeld ?_ ?_
             rotate_left
             ·rintro w' ⟨s0, s1, s2, s3, s4, s5, s6, s7, s8, s9, s10, s11, s12, s13, s14, s15, s16, s17, s18, s19, s20, s21, s22, s23, s24, s25, s26, s27⟩
              go_simp
              with_reducible rfl
             rotate_left
             ·simp only [Act.put, List.setIfInBounds_toArray, List.set_cons_zero, List.set_cons_succ, i64_w, i32_w]
              rfl
             refine one_ (i := 12) (N := some 42) #[true, true, true, true, true, true, true, true, true, true, true, true, true, true, true, true, true, true, true, true, true, true, false, false, false] rfl rfl (one_of HT_.out (by kernel_rfl)) (by decide) (fun K hK => ?_)
             refine goes_ Tryz.func21 (by kernel_rfl) rfl #[.agg #[.string ((rd_T24 l0 x7_2).f0), .slice A290_1 ((rd_T24 l0 x7_2).f1).length c290_1, .slice A290_2 ((rd_T24 l0 x7_2).f2).length c290_2, .slice A290_3 ((rd_T24 l0 x7_2).f3).length c290_3, .slice A290_4 ((rd_T24 l0 x7_2).f4).length c290_4, .slice A290_5 ((rd_T24 l0 x7_2).f5).length c290_5, .int .i64 ((rd_T24 l0 x7_2).f6)], .agg #[.string ((rd_T24 l0 (ji14)).f0), .slice A291_1 ((rd_T24 l0 (ji14)).f1).length c291_1, .slice A291_2 ((rd_T24 l0 (ji14)).f2).length c291_2, .slice A291_3 ((rd_T24 l0 (ji14)).f3).length c291_3, .slice A291_4 ((rd_T24 l0 (ji14)).f4).length c291_4, .slice A291_5 ((rd_T24 l0 (ji14)).f5).length c291_5, .int .i64 ((rd_T24 l0 (ji14)).f6)]] (by rfl) rfl rfl (by (try simp only [List.map_toArray, List.map_cons, List.map_nil]); first | done | (simp only [hji14]; rfl) | rfl | (simp only [List.length_drop, List.length_take]; rfl)) ?_
             with_reducible refine (ISame.calls ((rd_T24 l0 x7_2).f0) _ _ ((rd_T24 l0 x7_2).f1) _ _ ((rd_T24 l0 x7_2).f2) _ _ ((rd_T24 l0 x7_2).f3) _ _ ((rd_T24 l0 x7_2).f4) _ _ ((rd_T24 l0 x7_2).f5) ((rd_T24 l0 x7_2).f6) ((rd_T24 l0 (ji14)).f0) _ _ ((rd_T24 l0 (ji14)).f1) _ _ ((rd_T24 l0 (ji14)).f2) _ _ ((rd_T24 l0 (ji14)).f3) _ _ ((rd_T24 l0 (ji14)).f4) _ _ ((rd_T24 l0 (ji14)).f5) ((rd_T24 l0 (ji14)).f6) t292 _ ?side1 ?side2 ?side3 ?side4 ?side5 ?side6 ?side7 ?side8 ?side9 ?side10 ?side11 ?side12 ?side13 ?side14 ?side15 ?side16 ?side17 ?side18 ?side19 ?side20 A17.out).mono ?_
             (case side1 => repeat (first | exact (Kd.C_below HR290_1.out HB.out) | (with_reducible refine Kd.C_alloc ?_ _) | (with_reducible refine Kd.C_drewN ?_ _) | (with_reducible refine Kd.C_drew ?_)))
             (case side2 => exact HC290_1.out)
             (case side3 => repeat (first | exact (Kd.C_below HR290_2.out HB.out) | (with_reducible refine Kd.C_alloc ?_ _) | (with_reducible refine Kd.C_drewN ?_ _) | (with_reducible refine Kd.C_drew ?_)))
             (case side4 => exact HC290_2.out)
             (case side5 => repeat (first | exact (Kd.C_below HR290_3.out HB.out) | (with_reducible refine Kd.C_alloc ?_ _) | (with_reducible refine Kd.C_drewN ?_ _) | (with_reducible refine Kd.C_drew ?_)))
             (case side6 => exact HC290_3.out)
             (case side7 => repeat (first | exact (Kd.C_below HR290_4.out HB.out) | (with_reducible refine Kd.C_alloc ?_ _) | (with_reducible refine Kd.C_drewN ?_ _) | (with_reducible refine Kd.C_drew ?_)))
             (case side8 => exact HC290_4.out)
             (case side9 => repeat (first | exact (Kd.C_below HR290_5.out HB.out) | (with_reducible refine Kd.C_alloc ?_ _) | (with_reducible refine Kd.C_drewN ?_ _) | (with_reducible refine Kd.C_drew ?_)))
             (case side10 => exact HC290_5.out)
             (case side11 => repeat (first | exact (Kd.C_below HR291_1.out HB.out) | (with_reducible refine Kd.C_alloc ?_ _) | (with_reducible refine Kd.C_drewN ?_ _) | (with_reducible refine Kd.C_drew ?_)))
             (case side12 => exact HC291_1.out)
             (case side13 => repeat (first | exact (Kd.C_below HR291_2.out HB.out) | (with_reducible refine Kd.C_alloc ?_ _) | (with_reducible refine Kd.C_drewN ?_ _) | (with_reducible refine Kd.C_drew ?_)))
             (case side14 => exact HC291_2.out)
             (case side15 => repeat (first | exact (Kd.C_below HR291_3.out HB.out) | (with_reducible refine Kd.C_alloc ?_ _) | (with_reducible refine Kd.C_drewN ?_ _) | (with_reducible refine Kd.C_drew ?_)))
             (case side16 => exact HC291_3.out)
             (case side17 => repeat (first | exact (Kd.C_below HR291_4.out HB.out) | (with_reducible refine Kd.C_alloc ?_ _) | (with_reducible refine Kd.C_drewN ?_ _) | (with_reducible refine Kd.C_drew ?_)))
             (case side18 => exact HC291_4.out)
             (case side19 => repeat (first | exact (Kd.C_below HR291_5.out HB.out) | (with_reducible refine Kd.C_alloc ?_ _) | (with_reducible refine Kd.C_drewN ?_ _) | (with_reducible refine Kd.C_drew ?_)))
             (case side20 => exact HC291_5.out)
             rintro e w22 ⟨rfl, hb⟩
             refine ⟨_, rfl, ?_⟩
             have n0_ := Aside0.mk (below_step (by repeat (first | (with_reducible first | exact HB.out | apply below_alloc | apply pw_below_drewN | apply below_drew1) | exact HB.out)) hb)
             clear HB
             have HB := n0_
             clear n0_
             (try clear hb)
             (try clear hb2)
             (try clear hk)
             (try clear hi)
             refine hK.out _ _ ⟨((HB.out.cell (World.block_lt_of_cell? w _ hw290_0)).trans hw290_0), ((HB.out.cell (World.block_lt_of_cell? w _ hw290_1)).trans hw290_1), ((HB.out.cell (World.block_lt_of_cell? w _ hw290_2)).trans hw290_2), ((HB.out.cell (World.block_lt_of_cell? w _ hw290_3)).trans hw290_3), ((HB.out.cell (World.block_lt_of_cell? w _ hw290_4)).trans hw290_4), ((HB.out.cell (World.block_lt_of_cell? w _ hw290_5)).trans hw290_5), ((HB.out.cell (World.block_lt_of_cell? w _ hw290_6)).trans hw290_6), ((HB.out.cell (World.block_lt_of_cell? w _ hw291_0)).trans hw291_0), ((HB.out.cell (World.block_lt_of_cell? w _ hw291_1)).trans hw291_1), ((HB.out.cell (World.block_lt_of_cell? w _ hw291_2)).trans hw291_2), ((HB.out.cell (World.block_lt_of_cell? w _ hw291_3)).trans hw291_3), ((HB.out.cell (World.block_lt_of_cell? w _ hw291_4)).trans hw291_4), ((HB.out.cell (World.block_lt_of_cell? w _ hw291_5)).trans hw291_5), ((HB.out.cell (World.block_lt_of_cell? w _ hw291_6)).trans hw291_6), ((HB.out.cell (World.block_lt_of_cell? w _ hw293_0)).trans hw293_0), ((HB.out.cell (World.block_lt_of_cell? w _ hw293_1)).trans hw293_1), ((HB.out.cell (World.block_lt_of_cell? w _ hw293_2)).trans hw293_2), ((HB.out.cell (World.block_lt_of_cell? w _ hw293_3)).trans hw293_3), ((HB.out.cell (World.block_lt_of_cell? w _ hw293_4)).trans hw293_4), ((HB.out.cell (World.block_lt_of_cell? w _ hw293_5)).trans hw293_5), ((HB.out.cell (World.block_lt_of_cell? w _ hw293_6)).trans hw293_6), ((HB.out.cell (World.block_lt_of_cell? w _ hw294_0)).trans hw294_0), ((HB.out.cell (World.block_lt_of_cell? w _ hw294_1)).trans hw294_1), ((HB.out.cell (World.block_lt_of_cell? w _ hw294_2)).trans hw294_2), ((HB.out.cell (World.block_lt_of_cell? w _ hw294_3)).trans hw294_3), ((HB.out.cell (World.block_lt_of_cell? w _ hw294_4)).trans hw294_4), ((HB.out.cell (World.block_lt_of_cell? w _ hw294_5)).trans hw294_5), ((HB.out.cell (World.block_lt_of_cell? w _ hw294_6)).trans hw294_6)⟩ (fun hHeld => ?_)
             clear hK K
             refine norm_ (a' := ?_) ?_ ?_
             rotate_left
             ·show Act.put _ (some 42) _ = _
              simp only [Act.put, List.setIfInBounds_toArray, List.set_cons_zero, List.set_cons_succ, i64_w, i32_w]
              rfl
             refine one_ (i := 22) (N := some 52) #[true, true, true, true, true, true, true, true, true, true, true, true, true, true, true, true, true, true, true, true, true, true, true, false, false] rfl rfl (one_of HT_.out (by kernel_rfl)) (by decide) (fun K hK => ?_)
             refine goes_ Tryz.func18 (by kernel_rfl) rfl #[.agg #[.string ((rd_T24 l0 x7_2).f0), .slice A290_1 ((rd_T24 l0 x7_2).f1).length c290_1, .slice A290_2 ((rd_T24 l0 x7_2).f2).length c290_2, .slice A290_3 ((rd_T24 l0 x7_2).f3).length c290_3, .slice A290_4 ((rd_T24 l0 x7_2).f4).length c290_4, .slice A290_5 ((rd_T24 l0 x7_2).f5).length c290_5, .int .i64 ((rd_T24 l0 x7_2).f6)], .agg #[.string ((rd_T24 l0 (ji14)).f0), .slice A291_1 ((rd_T24 l0 (ji14)).f1).length c291_1, .slice A291_2 ((rd_T24 l0 (ji14)).f2).length c291_2, .slice A291_3 ((rd_T24 l0 (ji14)).f3).length c291_3, .slice A291_4 ((rd_T24 l0 (ji14)).f4).length c291_4, .slice A291_5 ((rd_T24 l0 (ji14)).f5).length c291_5, .int .i64 ((rd_T24 l0 (ji14)).f6)]] (by rfl) rfl rfl (by (try simp only [List.map_toArray, List.map_cons, List.map_nil]); first | done | (simp only [hji14]; rfl) | rfl | (simp only [List.length_drop, List.length_take]; rfl)) ?_
             with_reducible refine (watchfireref26_Same.calls k2 ((rd_T24 l0 x7_2).f0) _ _ ((rd_T24 l0 x7_2).f1) _ _ ((rd_T24 l0 x7_2).f2) _ _ ((rd_T24 l0 x7_2).f3) _ _ ((rd_T24 l0 x7_2).f4) _ _ ((rd_T24 l0 x7_2).f5) ((rd_T24 l0 x7_2).f6) ((rd_T24 l0 (ji14)).f0) _ _ ((rd_T24 l0 (ji14)).f1) _ _ ((rd_T24 l0 (ji14)).f2) _ _ ((rd_T24 l0 (ji14)).f3) _ _ ((rd_T24 l0 (ji14)).f4) _ _ ((rd_T24 l0 (ji14)).f5) ((rd_T24 l0 (ji14)).f6) t295 _ ?side1 ?side2 ?side3 ?side4 ?side5 ?side6 ?side7 ?side8 ?side9 ?side10 ?side11 ?side12 ?side13 ?side14 ?side15 ?side16 ?side17 ?side18 ?side19 ?side20 A18.out).mono ?_
             (case side1 => repeat (first | exact (Kd.C_below HR293_1.out HB.out) | (with_reducible refine Kd.C_alloc ?_ _) | (with_reducible refine Kd.C_drewN ?_ _) | (with_reducible refine Kd.C_drew ?_)))
             (case side2 => exact HC293_1.out)
             (case side3 => repeat (first | exact (Kd.C_below HR293_2.out HB.out) | (with_reducible refine Kd.C_alloc ?_ _) | (with_reducible refine Kd.C_drewN ?_ _) | (with_reducible refine Kd.C_drew ?_)))
             (case side4 => exact HC293_2.out)
             (case side5 => repeat (first | exact (Kd.C_below HR293_3.out HB.out) | (with_reducible refine Kd.C_alloc ?_ _) | (with_reducible refine Kd.C_drewN ?_ _) | (with_reducible refine Kd.C_drew ?_)))
             (case side6 => exact HC293_3.out)
             (case side7 => repeat (first | exact (Kd.C_below HR293_4.out HB.out) | (with_reducible refine Kd.C_alloc ?_ _) | (with_reducible refine Kd.C_drewN ?_ _) | (with_reducible refine Kd.C_drew ?_)))
             (case side8 => exact HC293_4.out)
             (case side9 => repeat (first | exact (Kd.C_below HR293_5.out HB.out) | (with_reducible refine Kd.C_alloc ?_ _) | (with_reducible refine Kd.C_drewN ?_ _) | (with_reducible refine Kd.C_drew ?_)))
             (case side10 => exact HC293_5.out)
             (case side11 => repeat (first | exact (Kd.C_below HR294_1.out HB.out) | (with_reducible refine Kd.C_alloc ?_ _) | (with_reducible refine Kd.C_drewN ?_ _) | (with_reducible refine Kd.C_drew ?_)))
             (case side12 => exact HC294_1.out)
             (case side13 => repeat (first | exact (Kd.C_below HR294_2.out HB.out) | (with_reducible refine Kd.C_alloc ?_ _) | (with_reducible refine Kd.C_drewN ?_ _) | (with_reducible refine Kd.C_drew ?_)))
             (case side14 => exact HC294_2.out)
             (case side15 => repeat (first | exact (Kd.C_below HR294_3.out HB.out) | (with_reducible refine Kd.C_alloc ?_ _) | (with_reducible refine Kd.C_drewN ?_ _) | (with_reducible refine Kd.C_drew ?_)))
             (case side16 => exact HC294_3.out)
             (case side17 => repeat (first | exact (Kd.C_below HR294_4.out HB.out) | (with_reducible refine Kd.C_alloc ?_ _) | (with_reducible refine Kd.C_drewN ?_ _) | (with_reducible refine Kd.C_drew ?_)))
             (case side18 => exact HC294_4.out)
             (case side19 => repeat (first | exact (Kd.C_below HR294_5.out HB.out) | (with_reducible refine Kd.C_alloc ?_ _) | (with_reducible refine Kd.C_drewN ?_ _) | (with_reducible refine Kd.C_drew ?_)))
             (case side20 => exact HC294_5.out)
             rintro e w23 ⟨rfl, hb⟩
             refine ⟨_, rfl, ?_⟩
             have n0_ := Aside0.mk (below_step (by repeat (first | (with_reducible first | exact HB.out | apply below_alloc | apply pw_below_drewN | apply below_drew1) | exact HB.out)) hb)
             clear HB
             have HB := n0_
             clear n0_
             (try clear hb)
             (try clear hb2)
             (try clear hk)
             (try clear hi)
             refine hK.out _ _ ⟨((HB.out.cell (World.block_lt_of_cell? w _ hw290_0)).trans hw290_0), ((HB.out.cell (World.block_lt_of_cell? w _ hw290_1)).trans hw290_1), ((HB.out.cell (World.block_lt_of_cell? w _ hw290_2)).trans hw290_2), ((HB.out.cell (World.block_lt_of_cell? w _ hw290_3)).trans hw290_3), ((HB.out.cell (World.block_lt_of_cell? w _ hw290_4)).trans hw290_4), ((HB.out.cell (World.block_lt_of_cell? w _ hw290_5)).trans hw290_5), ((HB.out.cell (World.block_lt_of_cell? w _ hw290_6)).trans hw290_6), ((HB.out.cell (World.block_lt_of_cell? w _ hw291_0)).trans hw291_0), ((HB.out.cell (World.block_lt_of_cell? w _ hw291_1)).trans hw291_1), ((HB.out.cell (World.block_lt_of_cell? w _ hw291_2)).trans hw291_2), ((HB.out.cell (World.block_lt_of_cell? w _ hw291_3)).trans hw291_3), ((HB.out.cell (World.block_lt_of_cell? w _ hw291_4)).trans hw291_4), ((HB.out.cell (World.block_lt_of_cell? w _ hw291_5)).trans hw291_5), ((HB.out.cell (World.block_lt_of_cell? w _ hw291_6)).trans hw291_6), ((HB.out.cell (World.block_lt_of_cell? w _ hw293_0)).trans hw293_0), ((HB.out.cell (World.block_lt_of_cell? w _ hw293_1)).trans hw293_1), ((HB.out.cell (World.block_lt_of_cell? w _ hw293_2)).trans hw293_2), ((HB.out.cell (World.block_lt_of_cell? w _ hw293_3)).trans hw293_3), ((HB.out.cell (World.block_lt_of_cell? w _ hw293_4)).trans hw293_4), ((HB.out.cell (World.block_lt_of_cell? w _ hw293_5)).trans hw293_5), ((HB.out.cell (World.block_lt_of_cell? w _ hw293_6)).trans hw293_6), ((HB.out.cell (World.block_lt_of_cell? w _ hw294_0)).trans hw294_0), ((HB.out.cell (World.block_lt_of_cell? w _ hw294_1)).trans hw294_1), ((HB.out.cell (World.block_lt_of_cell? w _ hw294_2)).trans hw294_2), ((HB.out.cell (World.block_lt_of_cell? w _ hw294_3)).trans hw294_3), ((HB.out.cell (World.block_lt_of_cell? w _ hw294_4)).trans hw294_4), ((HB.out.cell (World.block_lt_of_cell? w _ hw294_5)).trans hw294_5), ((HB.out.cell (World.block_lt_of_cell? w _ hw294_6)).trans hw294_6)⟩ (fun hHeld => ?_)
             clear hK K
             refine norm_ (a' := ?_) ?_ ?_
             rotate_left
             ·show Act.put _ (some 52) _ = _
              simp only [Act.put, List.setIfInBounds_toArray, List.set_cons_zero, List.set_cons_succ, i64_w, i32_w]
              rfl
             refine pure_ (i := 23) (N := some 53) (v := ?_) (a' := ?_) #[true, true, true, true, true, true, true, true, true, true, true, true, true, true, true, true, true, true, true, true, true, true, true, true, false] rfl rfl (any_of HT_.out (by kernel_rfl)) (fun _ _ _ h => h) (Or.inl ⟨by rfl, ?_⟩) ?_ ?_
             rotate_left
             ·intro w'
              go_simp
              with_reducible rfl
             rotate_left
             ·simp only [Act.put, List.setIfInBounds_toArray, List.set_cons_zero, List.set_cons_succ, i64_w, i32_w]
              rfl
             refine pure_ (i := 24) (N := some 54) (v := ?_) (a' := ?_) #[true, true, true, true, true, true, true, true, true, true, true, true, true, true, true, true, true, true, true, true, true, true, true, true, true] rfl rfl (any_of HT_.out (by kernel_rfl)) (fun _ _ _ h => h) (Or.inl ⟨by rfl, ?_⟩) ?_ ?_
             rotate_left
             ·intro w'
              go_simp
              with_reducible rfl
             rotate_left
             ·simp only [Act.put, List.setIfInBounds_toArray, List.set_cons_zero, List.set_cons_succ, i64_w, i32_w]
              rfl
             refine done_ (done_of HT_.out (by kernel_rfl)) ?_
             try go_wp2
             go_ret
             exact ⟨by first | rfl | (simp [errW_none, errW_some] <;> rfl) | (simp only [← hji14]; first | rfl | (simp [errW_none, errW_some] <;> rfl)) | (simp [*, errW_none, errW_some] <;> rfl), by repeat (first | (with_reducible first | exact HB.out | apply below_alloc | apply pw_below_drewN | apply below_drew1) | exact HB.out)⟩
            ·rw [if_neg c19] at H
             have c19b0 : (t292 != t295) = false := by simpa using c19
             (try (have c19b1 : decide (t292 = t295) = true := by simpa using c19))
             (try (have c19b2 : (t292 == t295) = true := by simpa using c19))
             clear c19
             have H' := Aside0.mk H
             clear H
             have p287 : 0 ≤ (x7_2 : Int) := of_decide_eq_true (by first | (with_reducible assumption) | assumption)
             have q287 : x7_2 < (l0.length : Int) := of_decide_eq_true (by first | (with_reducible assumption) | assumption)
             obtain ⟨ad287, A287_1, c287_1, A287_2, c287_2, A287_3, c287_3, A287_4, c287_4, A287_5, c287_5, e287, hx287_0, hx287_1, hx287_2, hx287_3, hx287_4, hx287_5, hx287_6, hl287_1, hi287_1, hl287_2, hi287_2, hl287_3, hi287_3, hl287_4, hi287_4, hl287_5, hi287_5⟩ := at_T24 HR0.out x7_2 p287 q287
             cases e287
             replace hx287_0 := (HB.out.cell (World.block_lt_of_cell? w _ hx287_0)).trans hx287_0
             replace hx287_1 := (HB.out.cell (World.block_lt_of_cell? w _ hx287_1)).trans hx287_1
             replace hx287_2 := (HB.out.cell (World.block_lt_of_cell? w _ hx287_2)).trans hx287_2
             replace hx287_3 := (HB.out.cell (World.block_lt_of_cell? w _ hx287_3)).trans hx287_3
             replace hx287_4 := (HB.out.cell (World.block_lt_of_cell? w _ hx287_4)).trans hx287_4
             replace hx287_5 := (HB.out.cell (World.block_lt_of_cell? w _ hx287_5)).trans hx287_5
             replace hx287_6 := (HB.out.cell (World.block_lt_of_cell? w _ hx287_6)).trans hx287_6
             have HR287_1 := Aside0.mk hi287_1
             have HC287_1 := Aside0.mk hl287_1
             clear hi287_1 hl287_1
             have HR287_2 := Aside0.mk hi287_2
             have HC287_2 := Aside0.mk hl287_2
             clear hi287_2 hl287_2
             have HR287_3 := Aside0.mk hi287_3
             have HC287_3 := Aside0.mk hl287_3
             clear hi287_3 hl287_3
             have HR287_4 := Aside0.mk hi287_4
             have HC287_4 := Aside0.mk hl287_4
             clear hi287_4 hl287_4
             have HR287_5 := Aside0.mk hi287_5
             have HC287_5 := Aside0.mk hl287_5
             clear hi287_5 hl287_5
             replace p287 := eq_true p287
             replace q287 := eq_true q287
             try go_wp2_with (first | ((with_reducible refine gate_callee (f := 8) rfl ?_); refine goesL_ (some 27) rfl rfl Tryz.func8 (by kernel_rfl) rfl #[.agg #[.string ((rd_T24 l0 x7_2).f0), .slice A287_1 ((rd_T24 l0 x7_2).f1).length c287_1, .slice A287_2 ((rd_T24 l0 x7_2).f2).length c287_2, .slice A287_3 ((rd_T24 l0 x7_2).f3).length c287_3, .slice A287_4 ((rd_T24 l0 x7_2).f4).length c287_4, .slice A287_5 ((rd_T24 l0 x7_2).f5).length c287_5, .int .i64 ((rd_T24 l0 x7_2).f6)]] rfl (by (try simp only [List.map_toArray, List.map_cons, List.map_nil]); first | done | rfl | (simp only [List.length_drop, List.length_take]; rfl)) ?_; (with_reducible refine (watchfireref26_Light.calls k2 ((rd_T24 l0 x7_2).f0) _ _ ((rd_T24 l0 x7_2).f1) _ _ ((rd_T24 l0 x7_2).f2) _ _ ((rd_T24 l0 x7_2).f3) _ _ ((rd_T24 l0 x7_2).f4) _ _ ((rd_T24 l0 x7_2).f5) ((rd_T24 l0 x7_2).f6) true _ ?side1 ?side2 ?side3 ?side4 ?side5 ?side6 ?side7 ?side8 ?side9 ?side10 A11.out).mono ?_); (case side1 => repeat (first | exact (Kd.C_below HR287_1.out HB.out) | (with_reducible refine Kd.C_alloc ?_ _) | (with_reducible refine Kd.C_drewN ?_ _) | (with_reducible refine Kd.C_drew ?_))); (case side2 => exact HC287_1.out); (case side3 => repeat (first | exact (Kd.C_below HR287_2.out HB.out) | (with_reducible refine Kd.C_alloc ?_ _) | (with_reducible refine Kd.C_drewN ?_ _) | (with_reducible refine Kd.C_drew ?_))); (case side4 => exact HC287_2.out); (case side5 => repeat (first | exact (Kd.C_below HR287_3.out HB.out) | (with_reducible refine Kd.C_alloc ?_ _) | (with_reducible refine Kd.C_drewN ?_ _) | (with_reducible refine Kd.C_drew ?_))); (case side6 => exact HC287_3.out); (case side7 => repeat (first | exact (Kd.C_below HR287_4.out HB.out) | (with_reducible refine Kd.C_alloc ?_ _) | (with_reducible refine Kd.C_drewN ?_ _) | (with_reducible refine Kd.C_drew ?_))); (case side8 => exact HC287_4.out); (case side9 => repeat (first | exact (Kd.C_below HR287_5.out HB.out) | (with_reducible refine Kd.C_alloc ?_ _) | (with_reducible refine Kd.C_drewN ?_ _) | (with_reducible refine Kd.C_drew ?_))); (case side10 => exact HC287_5.out); rintro e w24 ⟨rfl, hb⟩; refine ⟨_, rfl, ?_⟩; have n0_ := Aside0.mk (below_step (by repeat (first | (with_reducible first | exact HB.out | apply below_alloc | apply pw_below_drewN | apply below_drew1) | exact HB.out)) hb); clear HB; have HB := n0_; clear n0_; (try clear hb); (try clear hb2); (try clear hk); (try clear hi)))
             have n0_ := Aside0.mk (below_drew1 HB.out)
             clear HB
             have HB := n0_
             clear n0_
             have p290 : 0 ≤ (x7_2 : Int) := of_decide_eq_true (by first | (with_reducible assumption) | assumption)
             have q290 : x7_2 < (l0.length : Int) := of_decide_eq_true (by first | (with_reducible assumption) | assumption)
             obtain ⟨ad290, A290_1, c290_1, A290_2, c290_2, A290_3, c290_3, A290_4, c290_4, A290_5, c290_5, e290, hx290_0, hx290_1, hx290_2, hx290_3, hx290_4, hx290_5, hx290_6, hl290_1, hi290_1, hl290_2, hi290_2, hl290_3, hi290_3, hl290_4, hi290_4, hl290_5, hi290_5⟩ := at_T24 HR0.out x7_2 p290 q290
             have hw290_6 := hx290_6
             have hw290_5 := hx290_5
             have hw290_4 := hx290_4
             have hw290_3 := hx290_3
             have hw290_2 := hx290_2
             have hw290_1 := hx290_1
             have hw290_0 := hx290_0
             obtain rfl : ad287 = ad290 := (by injection e290)
             replace hx290_0 := (HB.out.cell (World.block_lt_of_cell? w _ hx290_0)).trans hx290_0
             replace hx290_1 := (HB.out.cell (World.block_lt_of_cell? w _ hx290_1)).trans hx290_1
             replace hx290_2 := (HB.out.cell (World.block_lt_of_cell? w _ hx290_2)).trans hx290_2
             replace hx290_3 := (HB.out.cell (World.block_lt_of_cell? w _ hx290_3)).trans hx290_3
             replace hx290_4 := (HB.out.cell (World.block_lt_of_cell? w _ hx290_4)).trans hx290_4
             replace hx290_5 := (HB.out.cell (World.block_lt_of_cell? w _ hx290_5)).trans hx290_5
             replace hx290_6 := (HB.out.cell (World.block_lt_of_cell? w _ hx290_6)).trans hx290_6
             have HR290_1 := Aside0.mk hi290_1
             have HC290_1 := Aside0.mk hl290_1
             clear hi290_1 hl290_1
             have HR290_2 := Aside0.mk hi290_2
             have HC290_2 := Aside0.mk hl290_2
             clear hi290_2 hl290_2
             have HR290_3 := Aside0.mk hi290_3
             have HC290_3 := Aside0.mk hl290_3
             clear hi290_3 hl290_3
             have HR290_4 := Aside0.mk hi290_4
             have HC290_4 := Aside0.mk hl290_4
             clear hi290_4 hl290_4
             have HR290_5 := Aside0.mk hi290_5
             have HC290_5 := Aside0.mk hl290_5
             clear hi290_5 hl290_5
             replace p290 := eq_true p290
             replace q290 := eq_true q290
             have p291 : 0 ≤ ((ji14) : Int) := of_decide_eq_true (by first | (with_reducible assumption) | assumption)
             have q291 : (ji14) < (l0.length : Int) := of_decide_eq_true (by first | (with_reducible assumption) | assumption)
             obtain ⟨ad291, A291_1, c291_1, A291_2, c291_2, A291_3, c291_3, A291_4, c291_4, A291_5, c291_5, e291, hx291_0, hx291_1, hx291_2, hx291_3, hx291_4, hx291_5, hx291_6, hl291_1, hi291_1, hl291_2, hi291_2, hl291_3, hi291_3, hl291_4, hi291_4, hl291_5, hi291_5⟩ := at_T24 HR0.out (ji14) p291 q291
             have hw291_6 := hx291_6
             have hw291_5 := hx291_5
             have hw291_4 := hx291_4
             have hw291_3 := hx291_3
             have hw291_2 := hx291_2
             have hw291_1 := hx291_1
             have hw291_0 := hx291_0
             obtain rfl : ad287 = ad291 := (by injection e291)
             replace hx291_0 := (HB.out.cell (World.block_lt_of_cell? w _ hx291_0)).trans hx291_0
             replace hx291_1 := (HB.out.cell (World.block_lt_of_cell? w _ hx291_1)).trans hx291_1
             replace hx291_2 := (HB.out.cell (World.block_lt_of_cell? w _ hx291_2)).trans hx291_2
             replace hx291_3 := (HB.out.cell (World.block_lt_of_cell? w _ hx291_3)).trans hx291_3
             replace hx291_4 := (HB.out.cell (World.block_lt_of_cell? w _ hx291_4)).trans hx291_4
             replace hx291_5 := (HB.out.cell (World.block_lt_of_cell? w _ hx291_5)).trans hx291_5
             replace hx291_6 := (HB.out.cell (World.block_lt_of_cell? w _ hx291_6)).trans hx291_6
             have HR291_1 := Aside0.mk hi291_1
             have HC291_1 := Aside0.mk hl291_1
             clear hi291_1 hl291_1
             have HR291_2 := Aside0.mk hi291_2
             have HC291_2 := Aside0.mk hl291_2
             clear hi291_2 hl291_2
             have HR291_3 := Aside0.mk hi291_3
             have HC291_3 := Aside0.mk hl291_3
             clear hi291_3 hl291_3
             have HR291_4 := Aside0.mk hi291_4
             have HC291_4 := Aside0.mk hl291_4
             clear hi291_4 hl291_4
             have HR291_5 := Aside0.mk hi291_5
             have HC291_5 := Aside0.mk hl291_5
             clear hi291_5 hl291_5
             replace p291 := eq_true p291
             replace q291 := eq_true q291
             have p293 : 0 ≤ (x7_2 : Int) := of_decide_eq_true (by first | (with_reducible assumption) | assumption)
             have q293 : x7_2 < (l0.length : Int) := of_decide_eq_true (by first | (with_reducible assumption) | assumption)
             obtain ⟨ad293, A293_1, c293_1, A293_2, c293_2, A293_3, c293_3, A293_4, c293_4, A293_5, c293_5, e293, hx293_0, hx293_1, hx293_2, hx293_3, hx293_4, hx293_5, hx293_6, hl293_1, hi293_1, hl293_2, hi293_2, hl293_3, hi293_3, hl293_4, hi293_4, hl293_5, hi293_5⟩ := at_T24 HR0.out x7_2 p293 q293
             have hw293_6 := hx293_6
             have hw293_5 := hx293_5
             have hw293_4 := hx293_4
             have hw293_3 := hx293_3
             have hw293_2 := hx293_2
             have hw293_1 := hx293_1
             have hw293_0 := hx293_0
             obtain rfl : ad287 = ad293 := (by injection e293)
             replace hx293_0 := (HB.out.cell (World.block_lt_of_cell? w _ hx293_0)).trans hx293_0
             replace hx293_1 := (HB.out.cell (World.block_lt_of_cell? w _ hx293_1)).trans hx293_1
             replace hx293_2 := (HB.out.cell (World.block_lt_of_cell? w _ hx293_2)).trans hx293_2
             replace hx293_3 := (HB.out.cell (World.block_lt_of_cell? w _ hx293_3)).trans hx293_3
             replace hx293_4 := (HB.out.cell (World.block_lt_of_cell? w _ hx293_4)).trans hx293_4
             replace hx293_5 := (HB.out.cell (World.block_lt_of_cell? w _ hx293_5)).trans hx293_5
             replace hx293_6 := (HB.out.cell (World.block_lt_of_cell? w _ hx293_6)).trans hx293_6
             have HR293_1 := Aside0.mk hi293_1
             have HC293_1 := Aside0.mk hl293_1
             clear hi293_1 hl293_1
             have HR293_2 := Aside0.mk hi293_2
             have HC293_2 := Aside0.mk hl293_2
             clear hi293_2 hl293_2
             have HR293_3 := Aside0.mk hi293_3
             have HC293_3 := Aside0.mk hl293_3
             clear hi293_3 hl293_3
             have HR293_4 := Aside0.mk hi293_4
             have HC293_4 := Aside0.mk hl293_4
             clear hi293_4 hl293_4
             have HR293_5 := Aside0.mk hi293_5
             have HC293_5 := Aside0.mk hl293_5
             clear hi293_5 hl293_5
             replace p293 := eq_true p293
             replace q293 := eq_true q293
             have ea_ := Option.some.inj (hx290_1.symm.trans hx293_1)
             injection ea_ with ea_ en_ ec_
             subst ea_
             subst ec_
             clear en_
             have ea_ := Option.some.inj (hx290_2.symm.trans hx293_2)
             injection ea_ with ea_ en_ ec_
             subst ea_
             subst ec_
             clear en_
             have ea_ := Option.some.inj (hx290_3.symm.trans hx293_3)
             injection ea_ with ea_ en_ ec_
             subst ea_
             subst ec_
             clear en_
             have ea_ := Option.some.inj (hx290_4.symm.trans hx293_4)
             injection ea_ with ea_ en_ ec_
             subst ea_
             subst ec_
             clear en_
             have ea_ := Option.some.inj (hx290_5.symm.trans hx293_5)
             injection ea_ with ea_ en_ ec_
             subst ea_
             subst ec_
             clear en_
             have p294 : 0 ≤ ((ji14) : Int) := of_decide_eq_true (by first | (with_reducible assumption) | assumption)
             have q294 : (ji14) < (l0.length : Int) := of_decide_eq_true (by first | (with_reducible assumption) | assumption)
             obtain ⟨ad294, A294_1, c294_1, A294_2, c294_2, A294_3, c294_3, A294_4, c294_4, A294_5, c294_5, e294, hx294_0, hx294_1, hx294_2, hx294_3, hx294_4, hx294_5, hx294_6, hl294_1, hi294_1, hl294_2, hi294_2, hl294_3, hi294_3, hl294_4, hi294_4, hl294_5, hi294_5⟩ := at_T24 HR0.out (ji14) p294 q294
             have hw294_6 := hx294_6
             have hw294_5 := hx294_5
             have hw294_4 := hx294_4
             have hw294_3 := hx294_3
             have hw294_2 := hx294_2
             have hw294_1 := hx294_1
             have hw294_0 := hx294_0
             obtain rfl : ad287 = ad294 := (by injection e294)
             replace hx294_0 := (HB.out.cell (World.block_lt_of_cell? w _ hx294_0)).trans hx294_0
             replace hx294_1 := (HB.out.cell (World.block_lt_of_cell? w _ hx294_1)).trans hx294_1
             replace hx294_2 := (HB.out.cell (World.block_lt_of_cell? w _ hx294_2)).trans hx294_2
             replace hx294_3 := (HB.out.cell (World.block_lt_of_cell? w _ hx294_3)).trans hx294_3
             replace hx294_4 := (HB.out.cell (World.block_lt_of_cell? w _ hx294_4)).trans hx294_4
             replace hx294_5 := (HB.out.cell (World.block_lt_of_cell? w _ hx294_5)).trans hx294_5
             replace hx294_6 := (HB.out.cell (World.block_lt_of_cell? w _ hx294_6)).trans hx294_6
             have HR294_1 := Aside0.mk hi294_1
             have HC294_1 := Aside0.mk hl294_1
             clear hi294_1 hl294_1
             have HR294_2 := Aside0.mk hi294_2
             have HC294_2 := Aside0.mk hl294_2
             clear hi294_2 hl294_2
             have HR294_3 := Aside0.mk hi294_3
             have HC294_3 := Aside0.mk hl294_3
             clear hi294_3 hl294_3
             have HR294_4 := Aside0.mk hi294_4
             have HC294_4 := Aside0.mk hl294_4
             clear hi294_4 hl294_4
             have HR294_5 := Aside0.mk hi294_5
             have HC294_5 := Aside0.mk hl294_5
             clear hi294_5 hl294_5
             replace p294 := eq_true p294
             replace q294 := eq_true q294
             have ea_ := Option.some.inj (hx291_1.symm.trans hx294_1)
             injection ea_ with ea_ en_ ec_
             subst ea_
             subst ec_
             clear en_
             have ea_ := Option.some.inj (hx291_2.symm.trans hx294_2)
             injection ea_ with ea_ en_ ec_
             subst ea_
             subst ec_
             clear en_
             have ea_ := Option.some.inj (hx291_3.symm.trans hx294_3)
             injection ea_ with ea_ en_ ec_
             subst ea_
             subst ec_
             clear en_
             have ea_ := Option.some.inj (hx291_4.symm.trans hx294_4)
             injection ea_ with ea_ en_ ec_
             subst ea_
             subst ec_
             clear en_
             have ea_ := Option.some.inj (hx291_5.symm.trans hx294_5)
             injection ea_ with ea_ en_ ec_
             subst ea_
             subst ec_
             clear en_
             refine start_ (n := 25) (S := fun w' => w'.cell? (ad287.add ((x7_2).toNat * 7)) = some (.string ((rd_T24 l0 x7_2).f0)) ∧ w'.cell? ⟨(ad287.add ((x7_2).toNat * 7)).block, (ad287.add ((x7_2).toNat * 7)).off + 1, none⟩ = some (.slice A290_1 ((rd_T24 l0 x7_2).f1).length c290_1) ∧ w'.cell? ⟨(ad287.add ((x7_2).toNat * 7)).block, (ad287.add ((x7_2).toNat * 7)).off + 2, none⟩ = some (.slice A290_2 ((rd_T24 l0 x7_2).f2).length c290_2) ∧ w'.cell? ⟨(ad287.add ((x7_2).toNat * 7)).block, (ad287.add ((x7_2).toNat * 7)).off + 3, none⟩ = some (.slice A290_3 ((rd_T24 l0 x7_2).f3).length c290_3) ∧ w'.cell? ⟨(ad287.add ((x7_2).toNat * 7)).block, (ad287.add ((x7_2).toNat * 7)).off + 4, none⟩ = some (.slice A290_4 ((rd_T24 l0 x7_2).f4).length c290_4) ∧ w'.cell? ⟨(ad287.add ((x7_2).toNat * 7)).block, (ad287.add ((x7_2).toNat * 7)).off + 5, none⟩ = some (.slice A290_5 ((rd_T24 l0 x7_2).f5).length c290_5) ∧ w'.cell? ⟨(ad287.add ((x7_2).toNat * 7)).block, (ad287.add ((x7_2).toNat * 7)).off + 6, none⟩ = some (.int .i64 ((rd_T24 l0 x7_2).f6)) ∧ w'.cell? (ad287.add (((ji14)).toNat * 7)) = some (.string ((rd_T24 l0 (ji14)).f0)) ∧ w'.cell? ⟨(ad287.add (((ji14)).toNat * 7)).block, (ad287.add (((ji14)).toNat * 7)).off + 1, none⟩ = some (.slice A291_1 ((rd_T24 l0 (ji14)).f1).length c291_1) ∧ w'.cell? ⟨(ad287.add (((ji14)).toNat * 7)).block, (ad287.add (((ji14)).toNat * 7)).off + 2, none⟩ = some (.slice A291_2 ((rd_T24 l0 (ji14)).f2).length c291_2) ∧ w'.cell? ⟨(ad287.add (((ji14)).toNat * 7)).block, (ad287.add (((ji14)).toNat * 7)).off + 3, none⟩ = some (.slice A291_3 ((rd_T24 l0 (ji14)).f3).length c291_3) ∧ w'.cell? ⟨(ad287.add (((ji14)).toNat * 7)).block, (ad287.add (((ji14)).toNat * 7)).off + 4, none⟩ = some (.slice A291_4 ((rd_T24 l0 (ji14)).f4).length c291_4) ∧ w'.cell? ⟨(ad287.add (((ji14)).toNat * 7)).block, (ad287.add (((ji14)).toNat * 7)).off + 5, none⟩ = some (.slice A291_5 ((rd_T24 l0 (ji14)).f5).length c291_5) ∧ w'.cell? ⟨(ad287.add (((ji14)).toNat * 7)).block, (ad287.add (((ji14)).toNat * 7)).off + 6, none⟩ = some (.int .i64 ((rd_T24 l0 (ji14)).f6)) ∧ w'.cell? (ad287.add ((x7_2).toNat * 7)) = some (.string ((rd_T24 l0 x7_2).f0)) ∧ w'.cell? ⟨(ad287.add ((x7_2).toNat * 7)).block, (ad287.add ((x7_2).toNat * 7)).off + 1, none⟩ = some (.slice A290_1 ((rd_T24 l0 x7_2).f1).length c290_1) ∧ w'.cell? ⟨(ad287.add ((x7_2).toNat * 7)).block, (ad287.add ((x7_2).toNat * 7)).off + 2, none⟩ = some (.slice A290_2 ((rd_T24 l0 x7_2).f2).length c290_2) ∧ w'.cell? ⟨(ad287.add ((x7_2).toNat * 7)).block, (ad287.add ((x7_2).toNat * 7)).off + 3, none⟩ = some (.slice A290_3 ((rd_T24 l0 x7_2).f3).length c290_3) ∧ w'.cell? ⟨(ad287.add ((x7_2).toNat * 7)).block, (ad287.add ((x7_2).toNat * 7)).off + 4, none⟩ = some (.slice A290_4 ((rd_T24 l0 x7_2).f4).length c290_4) ∧ w'.cell? ⟨(ad287.add ((x7_2).toNat * 7)).block, (ad287.add ((x7_2).toNat * 7)).off + 5, none⟩ = some (.slice A290_5 ((rd_T24 l0 x7_2).f5).length c290_5) ∧ w'.cell? ⟨(ad287.add ((x7_2).toNat * 7)).block, (ad287.add ((x7_2).toNat * 7)).off + 6, none⟩ = some (.int .i64 ((rd_T24 l0 x7_2).f6)) ∧ w'.cell? (ad287.add (((ji14)).toNat * 7)) = some (.string ((rd_T24 l0 (ji14)).f0)) ∧ w'.cell? ⟨(ad287.add (((ji14)).toNat * 7)).block, (ad287.add (((ji14)).toNat * 7)).off + 1, none⟩ = some (.slice A291_1 ((rd_T24 l0 (ji14)).f1).length c291_1) ∧ w'.cell? ⟨(ad287.add (((ji14)).toNat * 7)).block, (ad287.add (((ji14)).toNat * 7)).off + 2, none⟩ = some (.slice A291_2 ((rd_T24 l0 (ji14)).f2).length c291_2) ∧ w'.cell? ⟨(ad287.add (((ji14)).toNat * 7)).block, (ad287.add (((ji14)).toNat * 7)).off + 3, none⟩ = some (.slice A291_3 ((rd_T24 l0 (ji14)).f3).length c291_3) ∧ w'.cell? ⟨(ad287.add (((ji14)).toNat * 7)).block, (ad287.add (((ji14)).toNat * 7)).off + 4, none⟩ = some (.slice A291_4 ((rd_T24 l0 (ji14)).f4).length c291_4) ∧ w'.cell? ⟨(ad287.add (((ji14)).toNat * 7)).block, (ad287.add (((ji14)).toNat * 7)).off + 5, none⟩ = some (.slice A291_5 ((rd_T24 l0 (ji14)).f5).length c291_5) ∧ w'.cell? ⟨(ad287.add (((ji14)).toNat * 7)).block, (ad287.add (((ji14)).toNat * 7)).off + 6, none⟩ = some (.int .i64 ((rd_T24 l0 (ji14)).f6))) (ds := []) #[false, false, false, false, false, false, false, false, false, false, false, false, false, false, false, false, false, false, false, false, false, false, false, false, false] (by kernel_rfl) rfl rfl ⟨((HB.out.cell (World.block_lt_of_cell? w _ hw290_0)).trans hw290_0), ((HB.out.cell (World.block_lt_of_cell? w _ hw290_1)).trans hw290_1), ((HB.out.cell (World.block_lt_of_cell? w _ hw290_2)).trans hw290_2), ((HB.out.cell (World.block_lt_of_cell? w _ hw290_3)).trans hw290_3), ((HB.out.cell (World.block_lt_of_cell? w _ hw290_4)).trans hw290_4), ((HB.out.cell (World.block_lt_of_cell? w _ hw290_5)).trans hw290_5), ((HB.out.cell (World.block_lt_of_cell? w _ hw290_6)).trans hw290_6), ((HB.out.cell (World.block_lt_of_cell? w _ hw291_0)).trans hw291_0), ((HB.out.cell (World.block_lt_of_cell? w _ hw291_1)).trans hw291_1), ((HB.out.cell (World.block_lt_of_cell? w _ hw291_2)).trans hw291_2), ((HB.out.cell (World.block_lt_of_cell? w _ hw291_3)).trans hw291_3), ((HB.out.cell (World.block_lt_of_cell? w _ hw291_4)).trans hw291_4), ((HB.out.cell (World.block_lt_of_cell? w _ hw291_5)).trans hw291_5), ((HB.out.cell (World.block_lt_of_cell? w _ hw291_6)).trans hw291_6), ((HB.out.cell (World.block_lt_of_cell? w _ hw293_0)).trans hw293_0), ((HB.out.cell (World.block_lt_of_cell? w _ hw293_1)).trans hw293_1), ((HB.out.cell (World.block_lt_of_cell? w _ hw293_2)).trans hw293_2), ((HB.out.cell (World.block_lt_of_cell? w _ hw293_3)).trans hw293_3), ((HB.out.cell (World.block_lt_of_cell? w _ hw293_4)).trans hw293_4), ((HB.out.cell (World.block_lt_of_cell? w _ hw293_5)).trans hw293_5), ((HB.out.cell (World.block_lt_of_cell? w _ hw293_6)).trans hw293_6), ((HB.out.cell (World.block_lt_of_cell? w _ hw294_0)).trans hw294_0), ((HB.out.cell (World.block_lt_of_cell? w _ hw294_1)).trans hw294_1), ((HB.out.cell (World.block_lt_of_cell? w _ hw294_2)).trans hw294_2), ((HB.out.cell (World.block_lt_of_cell? w _ hw294_3)).trans hw294_3), ((HB.out.cell (World.block_lt_of_cell? w _ hw294_4)).trans hw294_4), ((HB.out.cell (World.block_lt_of_cell? w _ hw294_5)).trans hw294_5), ((HB.out.cell (World.block_lt_of_cell? w _ hw294_6)).trans hw294_6)⟩ (fun hHeld => ?_); refine with_tabW watchfirelaw26_IntervalAny.tab8 watchfirelaw26_IntervalAny.bits8 (fun HT_ HW_ => ?_)
             generalize w24.drew = w25 at HB HR290_1 HR290_2 HR290_3 HR290_4 HR290_5 HR291_1 HR291_2 HR291_3 HR291_4 HR291_5 HR293_1 HR293_2 HR293_3 HR293_4 HR293_5 HR294_1 HR294_2 HR294_3 HR294_4 HR294_5 hx290_0 hx290_1 hx290_2 hx290_3 hx290_4 hx290_5 hx290_6 hx291_0 hx291_1 hx291_2 hx291_3 hx291_4 hx291_5 hx291_6 hx293_0 hx293_1 hx293_2 hx293_3 hx293_4 hx293_5 hx293_6 hx294_0 hx294_1 hx294_2 hx294_3 hx294_4 hx294_5 hx294_6 hHeld ⊢
             refine pure_ (i := 0) (N := some 30) (v := ?_) (a' := ?_) #[true, false, false, false, false, false, false, false, false, false, false, false, false, false, false, false, false, false, false, false, false, false, false, false, false] rfl rfl (any_of HT_.out (by kernel_rfl)) (fun _ _ _ h => h) (Or.inl ⟨by rfl, ?_⟩) ?_ ?_
             rotate_left
             ·intro w'
              go_simp
              with_reducible rfl
             rotate_left
             ·simp only [Act.put, List.setIfInBounds_toArray, List.set_cons_zero, List.set_cons_succ, i64_w, i32_w]
              rfl
             refine pure_ (i := 1) (N := some 31) (v := ?_) (a' := ?_) #[true, true, false, false, false, false, false, false, false, false, false, false, false, false, false, false, false, false, false, false, false, false, false, false, false] rfl rfl (any_of HT_.out (by kernel_rfl)) (fun _ _ _ h => h) (Or.inl ⟨by rfl, ?_⟩) ?_ ?_
             rotate_left
             ·intro w'
              go_simp
              with_reducible rfl
             rotate_left
             ·simp only [Act.put, List.setIfInBounds_toArray, List.set_cons_zero, List.set_cons_succ, i64_w, i32_w]
              rfl
             refine pure_ (i := 2) (N := some 32) (v := ?_) (a' := ?_) #[true, true, true, false, false, false, false, false, false, false, false, false, false, false, false, false, false, false, false, false, false, false, false, false, false] rfl rfl (any_of HT_.out (by kernel_rfl)) (fun _ _ _ h => h) (Or.inl ⟨by rfl, ?_⟩) ?_ ?_
             rotate_left
             ·intro w'
              go_simp
              with_reducible rfl
             rotate_left
             ·simp only [Act.put, List.setIfInBounds_toArray, List.set_cons_zero, List.set_cons_succ, i64_w, i32_w]
              rfl
             refine pure_ (i := 3) (N := some 33) (v := ?_) (a' := ?_) #[true, true, true, true, false, false, false, false, false, false, false, false, false, false, false, false, false, false, false, false, false, false, false, false, false] rfl rfl (any_of HT_.out (by kernel_rfl)) (fun _ _ _ h => h) (Or.inl ⟨by rfl, ?_⟩) ?_ ?_
             rotate_left
             ·intro w'
              go_simp
              with_reducible rfl
             rotate_left
             ·simp only [Act.put, List.setIfInBounds_toArray, List.set_cons_zero, List.set_cons_succ, i64_w, i32_w]
              rfl
             refine pure_ (i := 4) (N := some 34) (v := ?_) (a' := ?_) #[true, true, true, true, true, false, false, false, false, false, false, false, false, false, false, false, false, false, false, false, false, false, false, false, false] rfl rfl (any_of HT_.out (by kernel_rfl)) (fun _ _ _ h => h) (Or.inl ⟨by rfl, ?_⟩) ?_ ?_
             rotate_left
             ·intro w'
              go_simp
              with_reducible rfl
             rotate_left
             ·simp only [Act.put, List.setIfInBounds_toArray, List.set_cons_zero, List.set_cons_succ, i64_w, i32_w]
              rfl
             refine pure_ (i := 5) (N := some 35) (v := ?_) (a' := ?_) #[true, true, true, true, true, true, false, false, false, false, false, false, false, false, false, false, false, false, false, false, false, false, false, false, false] rfl rfl (any_of HT_.out (by kernel_rfl)) (fun _ _ _ h => h) (Or.inl ⟨by rfl, ?_⟩) ?_ ?_
             rotate_left
             ·intro w'
              go_simp
              with_reducible rfl
             rotate_left
             ·simp only [Act.put, List.setIfInBounds_toArray, List.set_cons_zero, List.set_cons_succ, i64_w, i32_w]
              rfl
             refine pure_ (i := 7) (N := some 37) (v := ?_) (a' := ?_) #[true, true, true, true, true, true, false, true, false, false, false, false, false, false, false, false, false, false, false, false, false, false, false, false, false] rfl rfl (any_of HT_.out (by kernel_rfl)) (fun _ _ _ h => h) (Or.inl ⟨by rfl, ?_⟩) ?_ ?_
             rotate_left
             ·intro w'
              go_simp
              with_reducible rfl
             rotate_left
             ·simp only [Act.put, List.setIfInBounds_toArray, List.set_cons_zero, List.set_cons_succ, i64_w, i32_w]
              rfl
             refine pure_ (i := 8) (N := some 38) (v := ?_) (a' := ?_) #[true, true, true, true, true, true, false, true, true, false, false, false, false, false, false, false, false, false, false, false, false, false, false, false, false] rfl rfl (any_of HT_.out (by kernel_rfl)) (fun _ _ _ h => h) (Or.inl ⟨by rfl, ?_⟩) ?_ ?_
             rotate_left
             ·intro w'
              go_simp
              with_reducible rfl
             rotate_left
             ·simp only [Act.put, List.setIfInBounds_toArray, List.set_cons_zero, List.set_cons_succ, i64_w, i32_w]
              rfl
             refine pure_ (i := 9) (N := some 39) (v := ?_) (a' := ?_) #[true, true, true, true, true, true, false, true, true, true, false, false, false, false, false, false, false, false, false, false, false, false, false, false, false] rfl rfl (any_of HT_.out (by kernel_rfl)) (fun _ _ _ h => h) (Or.inl ⟨by rfl, ?_⟩) ?_ ?_
             rotate_left
             ·intro w'
              go_simp
              with_reducible rfl
             rotate_left
             ·simp only [Act.put, List.setIfInBounds_toArray, List.set_cons_zero, List.set_cons_succ, i64_w, i32_w]
              rfl
             refine pure_ (i := 10) (N := some 40) (v := ?_) (a' := ?_) #[true, true, true, true, true, true, false, true, true, true, true, false, false, false, false, false, false, false, false, false, false, false, false, false, false] rfl rfl (any_of HT_.out (by kernel_rfl)) (fun _ _ _ h => h) (Or.inl ⟨by rfl, ?_⟩) ?_ ?_
             rotate_left
             ·intro w'
              go_simp
              with_reducible rfl
             rotate_left
             ·simp only [Act.put, List.setIfInBounds_toArray, List.set_cons_zero, List.set_cons_succ, i64_w, i32_w]
              rfl
             refine pure_ (i := 13) (N := some 43) (v := ?_) (a' := ?_) #[true, true, true, true, true, true, false, true, true, true, true, false, false, true, false, false, false, false, false, false, false, false, false, false, false] rfl rfl (any_of HT_.out (by kernel_rfl)) (fun _ _ _ h => h) (Or.inl ⟨by rfl, ?_⟩) ?_ ?_
             rotate_left
             ·intro w'
              go_simp
              with_reducible rfl
             rotate_left
             ·simp only [Act.put, List.setIfInBounds_toArray, List.set_cons_zero, List.set_cons_succ, i64_w, i32_w]
              rfl
             refine pure_ (i := 14) (N := some 44) (v := ?_) (a' := ?_) #[true, true, true, true, true, true, false, true, true, true, true, false, false, true, true, false, false, false, false, false, false, false, false, false, false] rfl rfl (any_of HT_.out (by kernel_rfl)) (fun _ _ _ h => h) (Or.inl ⟨by rfl, ?_⟩) ?_ ?_
             rotate_left
             ·intro w'
              go_simp
              with_reducible rfl
             rotate_left
             ·simp only [Act.put, List.setIfInBounds_toArray, List.set_cons_zero, List.set_cons_succ, i64_w, i32_w]
              rfl
             refine pure_ (i := 15) (N := some 45) (v := ?_) (a' := ?_) #[true, true, true, true, true, true, false, true, true, true, true, false, false, true, true, true, false, false, false, false, false, false, false, false, false] rfl rfl (any_of HT_.out (by kernel_rfl)) (fun _ _ _ h => h) (Or.inl ⟨by rfl, ?_⟩) ?_ ?_
             rotate_left
             ·intro w'
              go_simp
              with_reducible rfl
             rotate_left
             ·simp only [Act.put, List.setIfInBounds_toArray, List.set_cons_zero, List.set_cons_succ, i64_w, i32_w]
              rfl
             refine pure_ (i := 17) (N := some 47) (v := ?_) (a' := ?_) #[true, true, true, true, true, true, false, true, true, true, true, false, false, true, true, true, false, true, false, false, false, false, false, false, false] rfl rfl (any_of HT_.out (by kernel_rfl)) (fun _ _ _ h => h) (Or.inl ⟨by rfl, ?_⟩) ?_ ?_
             rotate_left
             ·intro w'
              go_simp
              with_reducible rfl
             rotate_left
             ·simp only [Act.put, List.setIfInBounds_toArray, List.set_cons_zero, List.set_cons_succ, i64_w, i32_w]
              rfl
             refine pure_ (i := 18) (N := some 48) (v := ?_) (a' := ?_) #[true, true, true, true, true, true, false, true, true, true, true, false, false, true, true, true, false, true, true, false, false, false, false, false, false] rfl rfl (any_of HT_.out (by kernel_rfl)) (fun _ _ _ h => h) (Or.inl ⟨by rfl, ?_⟩) ?_ ?_
             rotate_left
             ·intro w'
              go_simp
              with_reducible rfl
             rotate_left
             ·simp only [Act.put, List.setIfInBounds_toArray, List.set_cons_zero, List.set_cons_succ, i64_w, i32_w]
              rfl
             refine pure_ (i := 19) (N := some 49) (v := ?_) (a' := ?_) #[true, true, true, true, true, true, false, true, true, true, true, false, false, true, true, true, false, true, true, true, false, false, false, false, false] rfl rfl (any_of HT_.out (by kernel_rfl)) (fun _ _ _ h => h) (Or.inl ⟨by rfl, ?_⟩) ?_ ?_
             rotate_left
             ·intro w'
              go_simp
              with_reducible rfl
             rotate_left
             ·simp only [Act.put, List.setIfInBounds_toArray, List.set_cons_zero, List.set_cons_succ, i64_w, i32_w]
              rfl
             refine pure_ (i := 20) (N := some 50) (v := ?_) (a' := ?_) #[true, true, true, true, true, true, false, true, true, true, true, false, false, true, true, true, false, true, true, true, true, false, false, false, false] rfl rfl (any_of HT_.out (by kernel_rfl)) (fun _ _ _ h => h) (Or.inl ⟨by rfl, ?_⟩) ?_ ?_
             rotate_left
             ·intro w'
              go_simp
              with_reducible rfl
             rotate_left
             ·simp only [Act.put, List.setIfInBounds_toArray, List.set_cons_zero, List.set_cons_succ, i64_w, i32_w]
              rfl
             refine take_ (i := 6) (N := some 36) (v := ?_) (a' := ?_) #[true, true, true, true, true, true, true, true, true, true, true, false, false, true, true, true, false, true, true, true, true, false, false, false, false] rfl rfl (take_ofW HT_.out HW_.out (by kernel_rfl)) (fun _ _ _ h => h) (Or.inl ⟨by rfl, ?_⟩) hHeld ?_ ?_
             rotate_left
             ·rintro w' ⟨s0, s1, s2, s3, s4, s5, s6, s7, s8, s9, s10, s11, s12, s13, s14, s15, s16, s17, s18, s19, s20, s21, s22, s23, s24, s25, s26, s27⟩
              go_simp
              with_reducible rfl
             rotate_left
             ·simp only [Act.put, List.setIfInBounds_toArray, List.set_cons_zero, List.set_cons_succ, i64_w, i32_w]
              rfl
             refine take_ (i := 11) (N := some 41) (v := ?_) (a' := ?_) #[true, true, true, true, true, true, true, true, true, true, true, true, false, true, true, true, false, true, true, true, true, false, false, false, false] rfl rfl (take_ofW HT_.out HW_.out (by kernel_rfl)) (fun _ _ _ h => h) (Or.inl ⟨by rfl, ?_⟩) hHeld ?_ ?_
             rotate_left
             ·rintro w' ⟨s0, s1, s2, s3, s4, s5, s6, s7, s8, s9, s10, s11, s12, s13, s14, s15, s16, s17, s18, s19, s20, s21, s22, s23, s24, s25, s26, s27⟩
              go_simp
              with_reducible rfl
             rotate_left
             ·simp only [Act.put, List.setIfInBounds_toArray, List.set_cons_zero, List.set_cons_succ, i64_w, i32_w]
              rfl
             refine take_ (i := 16) (N := some 46) (v := ?_) (a' := ?_) #[true, true, true, true, true, true, true, true, true, true, true, true, false, true, true, true, true, true, true, true, true, false, false, false, false] rfl rfl (take_ofW HT_.out HW_.out (by kernel_rfl)) (fun _ _ _ h => h) (Or.inl ⟨by rfl, ?_⟩) hHeld ?_ ?_
             rotate_left
             ·rintro w' ⟨s0, s1, s2, s3, s4, s5, s6, s7, s8, s9, s10, s11, s12, s13, s14, s15, s16, s17, s18, s19, s20, s21, s22, s23, s24, s25, s26, s27⟩
              go_simp
              with_reducible rfl
             rotate_left
             ·simp only [Act.put, List.setIfInBounds_toArray, List.set_cons_zero, List.set_cons_succ, i64_w, i32_w]
              rfl
             refine take_ (i := 21) (N := some 51) (v := ?_) (a' := ?_) #[true, true, true, true, true, true, true, true, true, true, true, true, false, true, true, true, true, true, true, true, true, true, false, false, false] rfl rfl (take_ofW HT_.out HW_.out (by kernel_rfl)) (fun _ _ _ h => h) (Or.inl ⟨by rfl, ?_⟩) hHeld ?_ ?_
             rotate_left
             ·rintro w' ⟨s0, s1, s2, s3, s4, s5, s6, s7, s8, s9, s10, s11, s12, s13, s14, s15, s16, s17, s18, s19, s20, s21, s22, s23, s24, s25, s26, s27⟩
              go_simp
              with_reducible rfl
             rotate_left
             ·simp only [Act.put, List.setIfInBounds_toArray, List.set_cons_zero, List.set_cons_succ, i64_w, i32_w]
              rfl
             refine one_ (i := 12) (N := some 42) #[true, true, true, true, true, true, true, true, true, true, true, true, true, true, true, true, true, true, true, true, true, true, false, false, false] rfl rfl (one_of HT_.out (by kernel_rfl)) (by decide) (fun K hK => ?_)
             refine goes_ Tryz.func21 (by kernel_rfl) rfl #[.agg #[.string ((rd_T24 l0 x7_2).f0), .slice A290_1 ((rd_T24 l0 x7_2).f1).length c290_1, .slice A290_2 ((rd_T24 l0 x7_2).f2).length c290_2, .slice A290_3 ((rd_T24 l0 x7_2).f3).length c290_3, .slice A290_4 ((rd_T24 l0 x7_2).f4).length c290_4, .slice A290_5 ((rd_T24 l0 x7_2).f5).length c290_5, .int .i64 ((rd_T24 l0 x7_2).f6)], .agg #[.string ((rd_T24 l0 (ji14)).f0), .slice A291_1 ((rd_T24 l0 (ji14)).f1).length c291_1, .slice A291_2 ((rd_T24 l0 (ji14)).f2).length c291_2, .slice A291_3 ((rd_T24 l0 (ji14)).f3).length c291_3, .slice A291_4 ((rd_T24 l0 (ji14)).f4).length c291_4, .slice A291_5 ((rd_T24 l0 (ji14)).f5).length c291_5, .int .i64 ((rd_T24 l0 (ji14)).f6)]] (by rfl) rfl rfl (by (try simp only [List.map_toArray, List.map_cons, List.map_nil]); first | done | (simp only [hji14]; rfl) | rfl | (simp only [List.length_drop, List.length_take]; rfl)) ?_
             with_reducible refine (ISame.calls ((rd_T24 l0 x7_2).f0) _ _ ((rd_T24 l0 x7_2).f1) _ _ ((rd_T24 l0 x7_2).f2) _ _ ((rd_T24 l0 x7_2).f3) _ _ ((rd_T24 l0 x7_2).f4) _ _ ((rd_T24 l0 x7_2).f5) ((rd_T24 l0 x7_2).f6) ((rd_T24 l0 (ji14)).f0) _ _ ((rd_T24 l0 (ji14)).f1) _ _ ((rd_T24 l0 (ji14)).f2) _ _ ((rd_T24 l0 (ji14)).f3) _ _ ((rd_T24 l0 (ji14)).f4) _ _ ((rd_T24 l0 (ji14)).f5) ((rd_T24 l0 (ji14)).f6) t292 _ ?side1 ?side2 ?side3 ?side4 ?side5 ?side6 ?side7 ?side8 ?side9 ?side10 ?side11 ?side12 ?side13 ?side14 ?side15 ?side16 ?side17 ?side18 ?side19 ?side20 A17.out).mono ?_
             (case side1 => repeat (first | exact (Kd.C_below HR290_1.out HB.out) | (with_reducible refine Kd.C_alloc ?_ _) | (with_reducible refine Kd.C_drewN ?_ _) | (with_reducible refine Kd.C_drew ?_)))
             (case side2 => exact HC290_1.out)
             (case side3 => repeat (first | exact (Kd.C_below HR290_2.out HB.out) | (with_reducible refine Kd.C_alloc ?_ _) | (with_reducible refine Kd.C_drewN ?_ _) | (with_reducible refine Kd.C_drew ?_)))
             (case side4 => exact HC290_2.out)
             (case side5 => repeat (first | exact (Kd.C_below HR290_3.out HB.out) | (with_reducible refine Kd.C_alloc ?_ _) | (with_reducible refine Kd.C_drewN ?_ _) | (with_reducible refine Kd.C_drew ?_)))
             (case side6 => exact HC290_3.out)
             (case side7 => repeat (first | exact (Kd.C_below HR290_4.out HB.out) | (with_reducible refine Kd.C_alloc ?_ _) | (with_reducible refine Kd.C_drewN ?_ _) | (with_reducible refine Kd.C_drew ?_)))
             (case side8 => exact HC290_4.out)
             (case side9 => repeat (first | exact (Kd.C_below HR290_5.out HB.out) | (with_reducible refine Kd.C_alloc ?_ _) | (with_reducible refine Kd.C_drewN ?_ _) | (with_reducible refine Kd.C_drew ?_)))
             (case side10 => exact HC290_5.out)
             (case side11 => repeat (first | exact (Kd.C_below HR291_1.out HB.out) | (with_reducible refine Kd.C_alloc ?_ _) | (with_reducible refine Kd.C_drewN ?_ _) | (with_reducible refine Kd.C_drew ?_)))
             (case side12 => exact HC291_1.out)
             (case side13 => repeat (first | exact (Kd.C_below HR291_2.out HB.out) | (with_reducible refine Kd.C_alloc ?_ _) | (with_reducible refine Kd.C_drewN ?_ _) | (with_reducible refine Kd.C_drew ?_)))
             (case side14 => exact HC291_2.out)
             (case side15 => repeat (first | exact (Kd.C_below HR291_3.out HB.out) | (with_reducible refine Kd.C_alloc ?_ _) | (with_reducible refine Kd.C_drewN ?_ _) | (with_reducible refine Kd.C_drew ?_)))
             (case side16 => exact HC291_3.out)
             (case side17 => repeat (first | exact (Kd.C_below HR291_4.out HB.out) | (with_reducible refine Kd.C_alloc ?_ _) | (with_reducible refine Kd.C_drewN ?_ _) | (with_reducible refine Kd.C_drew ?_)))
             (case side18 => exact HC291_4.out)
             (case side19 => repeat (first | exact (Kd.C_below HR291_5.out HB.out) | (with_reducible refine Kd.C_alloc ?_ _) | (with_reducible refine Kd.C_drewN ?_ _) | (with_reducible refine Kd.C_drew ?_)))
             (case side20 => exact HC291_5.out)
             rintro e w26 ⟨rfl, hb⟩
             refine ⟨_, rfl, ?_⟩
             have n0_ := Aside0.mk (below_step (by repeat (first | (with_reducible first | exact HB.out | apply below_alloc | apply pw_below_drewN | apply below_drew1) | exact HB.out)) hb)
             clear HB
             have HB := n0_
             clear n0_
             (try clear hb)
             (try clear hb2)
             (try clear hk)
             (try clear hi)
             refine hK.out _ _ ⟨((HB.out.cell (World.block_lt_of_cell? w _ hw290_0)).trans hw290_0), ((HB.out.cell (World.block_lt_of_cell? w _ hw290_1)).trans hw290_1), ((HB.out.cell (World.block_lt_of_cell? w _ hw290_2)).trans hw290_2), ((HB.out.cell (World.block_lt_of_cell? w _ hw290_3)).trans hw290_3), ((HB.out.cell (World.block_lt_of_cell? w _ hw290_4)).trans hw290_4), ((HB.out.cell (World.block_lt_of_cell? w _ hw290_5)).trans hw290_5), ((HB.out.cell (World.block_lt_of_cell? w _ hw290_6)).trans hw290_6), ((HB.out.cell (World.block_lt_of_cell? w _ hw291_0)).trans hw291_0), ((HB.out.cell (World.block_lt_of_cell? w _ hw291_1)).trans hw291_1), ((HB.out.cell (World.block_lt_of_cell? w _ hw291_2)).trans hw291_2), ((HB.out.cell (World.block_lt_of_cell? w _ hw291_3)).trans hw291_3), ((HB.out.cell (World.block_lt_of_cell? w _ hw291_4)).trans hw291_4), ((HB.out.cell (World.block_lt_of_cell? w _ hw291_5)).trans hw291_5), ((HB.out.cell (World.block_lt_of_cell? w _ hw291_6)).trans hw291_6), ((HB.out.cell (World.block_lt_of_cell? w _ hw293_0)).trans hw293_0), ((HB.out.cell (World.block_lt_of_cell? w _ hw293_1)).trans hw293_1), ((HB.out.cell (World.block_lt_of_cell? w _ hw293_2)).trans hw293_2), ((HB.out.cell (World.block_lt_of_cell? w _ hw293_3)).trans hw293_3), ((HB.out.cell (World.block_lt_of_cell? w _ hw293_4)).trans hw293_4), ((HB.out.cell (World.block_lt_of_cell? w _ hw293_5)).trans hw293_5), ((HB.out.cell (World.block_lt_of_cell? w _ hw293_6)).trans hw293_6), ((HB.out.cell (World.block_lt_of_cell? w _ hw294_0)).trans hw294_0), ((HB.out.cell (World.block_lt_of_cell? w _ hw294_1)).trans hw294_1), ((HB.out.cell (World.block_lt_of_cell? w _ hw294_2)).trans hw294_2), ((HB.out.cell (World.block_lt_of_cell? w _ hw294_3)).trans hw294_3), ((HB.out.cell (World.block_lt_of_cell? w _ hw294_4)).trans hw294_4), ((HB.out.cell (World.block_lt_of_cell? w _ hw294_5)).trans hw294_5), ((HB.out.cell (World.block_lt_of_cell? w _ hw294_6)).trans hw294_6)⟩ (fun hHeld => ?_)
             clear hK K
             refine norm_ (a' := ?_) ?_ ?_
             rotate_left
             ·show Act.put _ (some 42) _ = _
              simp only [Act.put, List.setIfInBounds_toArray, List.set_cons_zero, List.set_cons_succ, i64_w, i32_w]
              rfl
             refine one_ (i := 22) (N := some 52) #[true, true, true, true, true, true, true, true, true, true, true, true, true, true, true, true, true, true, true, true, true, true, true, false, false] rfl rfl (one_of HT_.out (by kernel_rfl)) (by decide) (fun K hK => ?_)
             refine goes_ Tryz.func18 (by kernel_rfl) rfl #[.agg #[.string ((rd_T24 l0 x7_2).f0), .slice A290_1 ((rd_T24 l0 x7_2).f1).length c290_1, .slice A290_2 ((rd_T24 l0 x7_2).f2).length c290_2, .slice A290_3 ((rd_T24 l0 x7_2).f3).length c290_3, .slice A290_4 ((rd_T24 l0 x7_2).f4).length c290_4, .slice A290_5 ((rd_T24 l0 x7_2).f5).length c290_5, .int .i64 ((rd_T24 l0 x7_2).f6)], .agg #[.string ((rd_T24 l0 (ji14)).f0), .slice A291_1 ((rd_T24 l0 (ji14)).f1).length c291_1, .slice A291_2 ((rd_T24 l0 (ji14)).f2).length c291_2, .slice A291_3 ((rd_T24 l0 (ji14)).f3).length c291_3, .slice A291_4 ((rd_T24 l0 (ji14)).f4).length c291_4, .slice A291_5 ((rd_T24 l0 (ji14)).f5).length c291_5, .int .i64 ((rd_T24 l0 (ji14)).f6)]] (by rfl) rfl rfl (by (try simp only [List.map_toArray, List.map_cons, List.map_nil]); first | done | (simp only [hji14]; rfl) | rfl | (simp only [List.length_drop, List.length_take]; rfl)) ?_
             with_reducible refine (watchfireref26_Same.calls k2 ((rd_T24 l0 x7_2).f0) _ _ ((rd_T24 l0 x7_2).f1) _ _ ((rd_T24 l0 x7_2).f2) _ _ ((rd_T24 l0 x7_2).f3) _ _ ((rd_T24 l0 x7_2).f4) _ _ ((rd_T24 l0 x7_2).f5) ((rd_T24 l0 x7_2).f6) ((rd_T24 l0 (ji14)).f0) _ _ ((rd_T24 l0 (ji14)).f1) _ _ ((rd_T24 l0 (ji14)).f2) _ _ ((rd_T24 l0 (ji14)).f3) _ _ ((rd_T24 l0 (ji14)).f4) _ _ ((rd_T24 l0 (ji14)).f5) ((rd_T24 l0 (ji14)).f6) t295 _ ?side1 ?side2 ?side3 ?side4 ?side5 ?side6 ?side7 ?side8 ?side9 ?side10 ?side11 ?side12 ?side13 ?side14 ?side15 ?side16 ?side17 ?side18 ?side19 ?side20 A18.out).mono ?_
             (case side1 => repeat (first | exact (Kd.C_below HR293_1.out HB.out) | (with_reducible refine Kd.C_alloc ?_ _) | (with_reducible refine Kd.C_drewN ?_ _) | (with_reducible refine Kd.C_drew ?_)))
             (case side2 => exact HC293_1.out)
             (case side3 => repeat (first | exact (Kd.C_below HR293_2.out HB.out) | (with_reducible refine Kd.C_alloc ?_ _) | (with_reducible refine Kd.C_drewN ?_ _) | (with_reducible refine Kd.C_drew ?_)))
             (case side4 => exact HC293_2.out)
             (case side5 => repeat (first | exact (Kd.C_below HR293_3.out HB.out) | (with_reducible refine Kd.C_alloc ?_ _) | (with_reducible refine Kd.C_drewN ?_ _) | (with_reducible refine Kd.C_drew ?_)))
             (case side6 => exact HC293_3.out)
             (case side7 => repeat (first | exact (Kd.C_below HR293_4.out HB.out) | (with_reducible refine Kd.C_alloc ?_ _) | (with_reducible refine Kd.C_drewN ?_ _) | (with_reducible refine Kd.C_drew ?_)))
             (case side8 => exact HC293_4.out)
             (case side9 => repeat (first | exact (Kd.C_below HR293_5.out HB.out) | (with_reducible refine Kd.C_alloc ?_ _) | (with_reducible refine Kd.C_drewN ?_ _) | (with_reducible refine Kd.C_drew ?_)))
             (case side10 => exact HC293_5.out)
             (case side11 => repeat (first | exact (Kd.C_below HR294_1.out HB.out) | (with_reducible refine Kd.C_alloc ?_ _) | (with_reducible refine Kd.C_drewN ?_ _) | (with_reducible refine Kd.C_drew ?_)))
             (case side12 => exact HC294_1.out)
             (case side13 => repeat (first | exact (Kd.C_below HR294_2.out HB.out) | (with_reducible refine Kd.C_alloc ?_ _) | (with_reducible refine Kd.C_drewN ?_ _) | (with_reducible refine Kd.C_drew ?_)))
             (case side14 => exact HC294_2.out)
             (case side15 => repeat (first | exact (Kd.C_below HR294_3.out HB.out) | (with_reducible refine Kd.C_alloc ?_ _) | (with_reducible refine Kd.C_drewN ?_ _) | (with_reducible refine Kd.C_drew ?_)))
             (case side16 => exact HC294_3.out)
             (case side17 => repeat (first | exact (Kd.C_below HR294_4.out HB.out) | (with_reducible refine Kd.C_alloc ?_ _) | (with_reducible refine Kd.C_drewN ?_ _) | (with_reducible refine Kd.C_drew ?_)))
             (case side18 => exact HC294_4.out)
             (case side19 => repeat (first | exact (Kd.C_below HR294_5.out HB.out) | (with_reducible refine Kd.C_alloc ?_ _) | (with_reducible refine Kd.C_drewN ?_ _) | (with_reducible refine Kd.C_drew ?_)))
             (case side20 => exact HC294_5.out)
             rintro e w27 ⟨rfl, hb⟩
             refine ⟨_, rfl, ?_⟩
             have n0_ := Aside0.mk (below_step (by repeat (first | (with_reducible first | exact HB.out | apply below_alloc | apply pw_below_drewN | apply below_drew1) | exact HB.out)) hb)
             clear HB
             have HB := n0_
             clear n0_
             (try clear hb)
             (try clear hb2)
             (try clear hk)
             (try clear hi)
             refine hK.out _ _ ⟨((HB.out.cell (World.block_lt_of_cell? w _ hw290_0)).trans hw290_0), ((HB.out.cell (World.block_lt_of_cell? w _ hw290_1)).trans hw290_1), ((HB.out.cell (World.block_lt_of_cell? w _ hw290_2)).trans hw290_2), ((HB.out.cell (World.block_lt_of_cell? w _ hw290_3)).trans hw290_3), ((HB.out.cell (World.block_lt_of_cell? w _ hw290_4)).trans hw290_4), ((HB.out.cell (World.block_lt_of_cell? w _ hw290_5)).trans hw290_5), ((HB.out.cell (World.block_lt_of_cell? w _ hw290_6)).trans hw290_6), ((HB.out.cell (World.block_lt_of_cell? w _ hw291_0)).trans hw291_0), ((HB.out.cell (World.block_lt_of_cell? w _ hw291_1)).trans hw291_1), ((HB.out.cell (World.block_lt_of_cell? w _ hw291_2)).trans hw291_2), ((HB.out.cell (World.block_lt_of_cell? w _ hw291_3)).trans hw291_3), ((HB.out.cell (World.block_lt_of_cell? w _ hw291_4)).trans hw291_4), ((HB.out.cell (World.block_lt_of_cell? w _ hw291_5)).trans hw291_5), ((HB.out.cell (World.block_lt_of_cell? w _ hw291_6)).trans hw291_6), ((HB.out.cell (World.block_lt_of_cell? w _ hw293_0)).trans hw293_0), ((HB.out.cell (World.block_lt_of_cell? w _ hw293_1)).trans hw293_1), ((HB.out.cell (World.block_lt_of_cell? w _ hw293_2)).trans hw293_2), ((HB.out.cell (World.block_lt_of_cell? w _ hw293_3)).trans hw293_3), ((HB.out.cell (World.block_lt_of_cell? w _ hw293_4)).trans hw293_4), ((HB.out.cell (World.block_lt_of_cell? w _ hw293_5)).trans hw293_5), ((HB.out.cell (World.block_lt_of_cell? w _ hw293_6)).trans hw293_6), ((HB.out.cell (World.block_lt_of_cell? w _ hw294_0)).trans hw294_0), ((HB.out.cell (World.block_lt_of_cell? w _ hw294_1)).trans hw294_1), ((HB.out.cell (World.block_lt_of_cell? w _ hw294_2)).trans hw294_2), ((HB.out.cell (World.block_lt_of_cell? w _ hw294_3)).trans hw294_3), ((HB.out.cell (World.block_lt_of_cell? w _ hw294_4)).trans hw294_4), ((HB.out.cell (World.block_lt_of_cell? w _ hw294_5)).trans hw294_5), ((HB.out.cell (World.block_lt_of_cell? w _ hw294_6)).trans hw294_6)⟩ (fun hHeld => ?_)
             clear hK K
             refine norm_ (a' := ?_) ?_ ?_
             rotate_left
             ·show Act.put _ (some 52) _ = _
              simp only [Act.put, List.setIfInBounds_toArray, List.set_cons_zero, List.set_cons_succ, i64_w, i32_w]
              rfl
             refine pure_ (i := 23) (N := some 53) (v := ?_) (a' := ?_) #[true, true, true, true, true, true, true, true, true, true, true, true, true, true, true, true, true, true, true, true, true, true, true, true, false] rfl rfl (any_of HT_.out (by kernel_rfl)) (fun _ _ _ h => h) (Or.inl ⟨by rfl, ?_⟩) ?_ ?_
             rotate_left
             ·intro w'
              go_simp
              with_reducible rfl
             rotate_left
             ·simp only [Act.put, List.setIfInBounds_toArray, List.set_cons_zero, List.set_cons_succ, i64_w, i32_w]
              rfl
             refine pure_ (i := 24) (N := some 54) (v := ?_) (a' := ?_) #[true, true, true, true, true, true, true, true, true, true, true, true, true, true, true, true, true, true, true, true, true, true, true, true, true] rfl rfl (any_of HT_.out (by kernel_rfl)) (fun _ _ _ h => h) (Or.inl ⟨by rfl, ?_⟩) ?_ ?_
             rotate_left
             ·intro w'
              go_simp
              with_reducible rfl
             rotate_left
             ·simp only [Act.put, List.setIfInBounds_toArray, List.set_cons_zero, List.set_cons_succ, i64_w, i32_w]
              rfl
             refine done_ (done_of HT_.out (by kernel_rfl)) ?_
             try go_wp2
             go_roundg k2
             case measure => have := HJ3.out; have := HK2.out; omega
             case rel => exact ⟨(wrap64 (x7_2 + 1)), (by first | rfl | (simp; done) | (simp [*]; done)), H', ⟨by have := HJ3.out; have := HK2.out; omega⟩, ⟨by repeat (first | (with_reducible first | exact HB.out | apply below_alloc | apply pw_below_drewN | apply below_drew1) | exact HB.out)⟩⟩
           ·rw [if_neg c16] at H
            exact absurd H (by simp)
          ·rw [if_neg c15] at H
           exact absurd H (by simp)
         ·rw [if_neg c13] at H
          have c13b0 : decide (0 < x7_2) = false := decide_eq_false c13
          clear c13
          have H' := Aside0.mk H
          clear H
          have p287 : 0 ≤ (x7_2 : Int) := of_decide_eq_true (by first | (with_reducible assumption) | assumption)
          have q287 : x7_2 < (l0.length : Int) := of_decide_eq_true (by first | (with_reducible assumption) | assumption)
          obtain ⟨ad287, A287_1, c287_1, A287_2, c287_2, A287_3, c287_3, A287_4, c287_4, A287_5, c287_5, e287, hx287_0, hx287_1, hx287_2, hx287_3, hx287_4, hx287_5, hx287_6, hl287_1, hi287_1, hl287_2, hi287_2, hl287_3, hi287_3, hl287_4, hi287_4, hl287_5, hi287_5⟩ := at_T24 HR0.out x7_2 p287 q287
          cases e287
          replace hx287_0 := (HB.out.cell (World.block_lt_of_cell? w _ hx287_0)).trans hx287_0
          replace hx287_1 := (HB.out.cell (World.block_lt_of_cell? w _ hx287_1)).trans hx287_1
          replace hx287_2 := (HB.out.cell (World.block_lt_of_cell? w _ hx287_2)).trans hx287_2
          replace hx287_3 := (HB.out.cell (World.block_lt_of_cell? w _ hx287_3)).trans hx287_3
          replace hx287_4 := (HB.out.cell (World.block_lt_of_cell? w _ hx287_4)).trans hx287_4
          replace hx287_5 := (HB.out.cell (World.block_lt_of_cell? w _ hx287_5)).trans hx287_5
          replace hx287_6 := (HB.out.cell (World.block_lt_of_cell? w _ hx287_6)).trans hx287_6
          have HR287_1 := Aside0.mk hi287_1
          have HC287_1 := Aside0.mk hl287_1
          clear hi287_1 hl287_1
          have HR287_2 := Aside0.mk hi287_2
          have HC287_2 := Aside0.mk hl287_2
          clear hi287_2 hl287_2
          have HR287_3 := Aside0.mk hi287_3
          have HC287_3 := Aside0.mk hl287_3
          clear hi287_3 hl287_3
          have HR287_4 := Aside0.mk hi287_4
          have HC287_4 := Aside0.mk hl287_4
          clear hi287_4 hl287_4
          have HR287_5 := Aside0.mk hi287_5
          have HC287_5 := Aside0.mk hl287_5
          clear hi287_5 hl287_5
          replace p287 := eq_true p287
          replace q287 := eq_true q287
          try go_wp2_with (first | ((with_reducible refine gate_callee (f := 8) rfl ?_); refine goesL_ (some 27) rfl rfl Tryz.func8 (by kernel_rfl) rfl #[.agg #[.string ((rd_T24 l0 x7_2).f0), .slice A287_1 ((rd_T24 l0 x7_2).f1).length c287_1, .slice A287_2 ((rd_T24 l0 x7_2).f2).length c287_2, .slice A287_3 ((rd_T24 l0 x7_2).f3).length c287_3, .slice A287_4 ((rd_T24 l0 x7_2).f4).length c287_4, .slice A287_5 ((rd_T24 l0 x7_2).f5).length c287_5, .int .i64 ((rd_T24 l0 x7_2).f6)]] rfl (by (try simp only [List.map_toArray, List.map_cons, List.map_nil]); first | done | rfl | (simp only [List.length_drop, List.length_take]; rfl)) ?_; (with_reducible refine (watchfireref26_Light.calls k2 ((rd_T24 l0 x7_2).f0) _ _ ((rd_T24 l0 x7_2).f1) _ _ ((rd_T24 l0 x7_2).f2) _ _ ((rd_T24 l0 x7_2).f3) _ _ ((rd_T24 l0 x7_2).f4) _ _ ((rd_T24 l0 x7_2).f5) ((rd_T24 l0 x7_2).f6) true _ ?side1 ?side2 ?side3 ?side4 ?side5 ?side6 ?side7 ?side8 ?side9 ?side10 A11.out).mono ?_); (case side1 => repeat (first | exact (Kd.C_below HR287_1.out HB.out) | (with_reducible refine Kd.C_alloc ?_ _) | (with_reducible refine Kd.C_drewN ?_ _) | (with_reducible refine Kd.C_drew ?_))); (case side2 => exact HC287_1.out); (case side3 => repeat (first | exact (Kd.C_below HR287_2.out HB.out) | (with_reducible refine Kd.C_alloc ?_ _) | (with_reducible refine Kd.C_drewN ?_ _) | (with_reducible refine Kd.C_drew ?_))); (case side4 => exact HC287_2.out); (case side5 => repeat (first | exact (Kd.C_below HR287_3.out HB.out) | (with_reducible refine Kd.C_alloc ?_ _) | (with_reducible refine Kd.C_drewN ?_ _) | (with_reducible refine Kd.C_drew ?_))); (case side6 => exact HC287_3.out); (case side7 => repeat (first | exact (Kd.C_below HR287_4.out HB.out) | (with_reducible refine Kd.C_alloc ?_ _) | (with_reducible refine Kd.C_drewN ?_ _) | (with_reducible refine Kd.C_drew ?_))); (case side8 => exact HC287_4.out); (case side9 => repeat (first | exact (Kd.C_below HR287_5.out HB.out) | (with_reducible refine Kd.C_alloc ?_ _) | (with_reducible refine Kd.C_drewN ?_ _) | (with_reducible refine Kd.C_drew ?_))); (case side10 => exact HC287_5.out); rintro e w28 ⟨rfl, hb⟩; refine ⟨_, rfl, ?_⟩; have n0_ := Aside0.mk (below_step (by repeat (first | (with_reducible first | exact HB.out | apply below_alloc | apply pw_below_drewN | apply below_drew1) | exact HB.out)) hb); clear HB; have HB := n0_; clear n0_; (try clear hb); (try clear hb2); (try clear hk); (try clear hi)))
          have n0_ := Aside0.mk (below_drew1 HB.out)
          clear HB
          have HB := n0_
          clear n0_
          refine start_ (n := 25) (S := fun w' => True) (ds := []) #[false, false, false, false, false, false, false, false, false, false, false, false, false, false, false, false, false, false, false, false, false, false, false, false, false] (by kernel_rfl) rfl rfl trivial (fun hHeld => ?_); refine with_tabW watchfirelaw26_IntervalAny.tab8 watchfirelaw26_IntervalAny.bits8 (fun HT_ HW_ => ?_)
          generalize w28.drew = w29 at HB hHeld ⊢
          refine pure_ (i := 0) (N := some 30) (v := ?_) (a' := ?_) #[true, false, false, false, false, false, false, false, false, false, false, false, false, false, false, false, false, false, false, false, false, false, false, false, false] rfl rfl (any_of HT_.out (by kernel_rfl)) (fun _ _ _ h => h) (Or.inl ⟨by rfl, ?_⟩) ?_ ?_
          rotate_left
          ·intro w'
           go_simp
           with_reducible rfl
          rotate_left
          ·simp only [Act.put, List.setIfInBounds_toArray, List.set_cons_zero, List.set_cons_succ, i64_w, i32_w]
           rfl
          refine pure_ (i := 1) (N := some 31) (v := ?_) (a' := ?_) #[true, true, false, false, false, false, false, false, false, false, false, false, false, false, false, false, false, false, false, false, false, false, false, false, false] rfl rfl (any_of HT_.out (by kernel_rfl)) (fun _ _ _ h => h) (Or.inl ⟨by rfl, ?_⟩) ?_ ?_
          rotate_left
          ·intro w'
           go_simp
           with_reducible rfl
          rotate_left
          ·simp only [Act.put, List.setIfInBounds_toArray, List.set_cons_zero, List.set_cons_succ, i64_w, i32_w]
           rfl
          refine pure_ (i := 2) (N := some 32) (v := ?_) (a' := ?_) #[true, true, true, false, false, false, false, false, false, false, false, false, false, false, false, false, false, false, false, false, false, false, false, false, false] rfl rfl (any_of HT_.out (by kernel_rfl)) (fun _ _ _ h => h) (Or.inl ⟨by rfl, ?_⟩) ?_ ?_
          rotate_left
          ·intro w'
           go_simp
           with_reducible rfl
          rotate_left
          ·simp only [Act.put, List.setIfInBounds_toArray, List.set_cons_zero, List.set_cons_succ, i64_w, i32_w]
           rfl
          refine pure_ (i := 3) (N := some 33) (v := undef) (a' := ?_) #[true, true, true, true, false, false, false, false, false, false, false, false, false, false, false, false, false, false, false, false, false, false, false, false, false] rfl rfl (any_of HT_.out (by kernel_rfl)) (fun _ _ _ h => h) (Or.inr ⟨by rfl, rfl⟩) ?_ ?_
          rotate_left
          ·simp only [Act.put, List.setIfInBounds_toArray, List.set_cons_zero, List.set_cons_succ, i64_w, i32_w]
           rfl
          refine pure_ (i := 4) (N := some 34) (v := undef) (a' := ?_) #[true, true, true, true, true, false, false, false, false, false, false, false, false, false, false, false, false, false, false, false, false, false, false, false, false] rfl rfl (any_of HT_.out (by kernel_rfl)) (fun _ _ _ h => h) (Or.inr ⟨by rfl, rfl⟩) ?_ ?_
          rotate_left
          ·simp only [Act.put, List.setIfInBounds_toArray, List.set_cons_zero, List.set_cons_succ, i64_w, i32_w]
           rfl
          refine pure_ (i := 5) (N := some 35) (v := undef) (a' := ?_) #[true, true, true, true, true, true, false, false, false, false, false, false, false, false, false, false, false, false, false, false, false, false, false, false, false] rfl rfl (any_of HT_.out (by kernel_rfl)) (fun _ _ _ h => h) (Or.inr ⟨by rfl, rfl⟩) ?_ ?_
          rotate_left
          ·simp only [Act.put, List.setIfInBounds_toArray, List.set_cons_zero, List.set_cons_succ, i64_w, i32_w]
           rfl
          refine pure_ (i := 6) (N := some 36) (v := undef) (a' := ?_) #[true, true, true, true, true, true, true, false, false, false, false, false, false, false, false, false, false, false, false, false, false, false, false, false, false] rfl rfl (any_of HT_.out (by kernel_rfl)) (fun _ _ _ h => h) (Or.inr ⟨by rfl, rfl⟩) ?_ ?_
          rotate_left
          ·simp only [Act.put, List.setIfInBounds_toArray, List.set_cons_zero, List.set_cons_succ, i64_w, i32_w]
           rfl
          refine pure_ (i := 7) (N := some 37) (v := undef) (a' := ?_) #[true, true, true, true, true, true, true, true, false, false, false, false, false, false, false, false, false, false, false, false, false, false, false, false, false] rfl rfl (any_of HT_.out (by kernel_rfl)) (fun _ _ _ h => h) (Or.inr ⟨by rfl, rfl⟩) ?_ ?_
          rotate_left
          ·simp only [Act.put, List.setIfInBounds_toArray, List.set_cons_zero, List.set_cons_succ, i64_w, i32_w]
           rfl
          refine pure_ (i := 8) (N := some 38) (v := undef) (a' := ?_) #[true, true, true, true, true, true, true, true, true, false, false, false, false, false, false, false, false, false, false, false, false, false, false, false, false] rfl rfl (any_of HT_.out (by kernel_rfl)) (fun _ _ _ h => h) (Or.inr ⟨by rfl, rfl⟩) ?_ ?_
          rotate_left
          ·simp only [Act.put, List.setIfInBounds_toArray, List.set_cons_zero, List.set_cons_succ, i64_w, i32_w]
           rfl
          refine pure_ (i := 9) (N := some 39) (v := undef) (a' := ?_) #[true, true, true, true, true, true, true, true, true, true, false, false, false, false, false, false, false, false, false, false, false, false, false, false, false] rfl rfl (any_of HT_.out (by kernel_rfl)) (fun _ _ _ h => h) (Or.inr ⟨by rfl, rfl⟩) ?_ ?_
          rotate_left
          ·simp only [Act.put, List.setIfInBounds_toArray, List.set_cons_zero, List.set_cons_succ, i64_w, i32_w]
           rfl
          refine pure_ (i := 10) (N := some 40) (v := undef) (a' := ?_) #[true, true, true, true, true, true, true, true, true, true, true, false, false, false, false, false, false, false, false, false, false, false, false, false, false] rfl rfl (any_of HT_.out (by kernel_rfl)) (fun _ _ _ h => h) (Or.inr ⟨by rfl, rfl⟩) ?_ ?_
          rotate_left
          ·simp only [Act.put, List.setIfInBounds_toArray, List.set_cons_zero, List.set_cons_succ, i64_w, i32_w]
           rfl
          refine pure_ (i := 11) (N := some 41) (v := undef) (a' := ?_) #[true, true, true, true, true, true, true, true, true, true, true, true, false, false, false, false, false, false, false, false, false, false, false, false, false] rfl rfl (any_of HT_.out (by kernel_rfl)) (fun _ _ _ h => h) (Or.inr ⟨by rfl, rfl⟩) ?_ ?_
          rotate_left
          ·simp only [Act.put, List.setIfInBounds_toArray, List.set_cons_zero, List.set_cons_succ, i64_w, i32_w]
           rfl
          refine pure_ (i := 12) (N := some 42) (v := undef) (a' := ?_) #[true, true, true, true, true, true, true, true, true, true, true, true, true, false, false, false, false, false, false, false, false, false, false, false, false] rfl rfl (any_of HT_.out (by kernel_rfl)) (fun _ _ _ h => h) (Or.inr ⟨by rfl, rfl⟩) ?_ ?_
          rotate_left
          ·simp only [Act.put, List.setIfInBounds_toArray, List.set_cons_zero, List.set_cons_succ, i64_w, i32_w]
           rfl
          refine pure_ (i := 13) (N := some 43) (v := undef) (a' := ?_) #[true, true, true, true, true, true, true, true, true, true, true, true, true, true, false, false, false, false, false, false, false, false, false, false, false] rfl rfl (any_of HT_.out (by kernel_rfl)) (fun _ _ _ h => h) (Or.inr ⟨by rfl, rfl⟩) ?_ ?_
          rotate_left
          ·simp only [Act.put, List.setIfInBounds_toArray, List.set_cons_zero, List.set_cons_succ, i64_w, i32_w]
           rfl
          refine pure_ (i := 14) (N := some 44) (v := undef) (a' := ?_) #[true, true, true, true, true, true, true, true, true, true, true, true, true, true, true, false, false, false, false, false, false, false, false, false, false] rfl rfl (any_of HT_.out (by kernel_rfl)) (fun _ _ _ h => h) (Or.inr ⟨by rfl, rfl⟩) ?_ ?_
          rotate_left
          ·simp only [Act.put, List.setIfInBounds_toArray, List.set_cons_zero, List.set_cons_succ, i64_w, i32_w]
           rfl
          refine pure_ (i := 15) (N := some 45) (v := undef) (a' := ?_) #[true, true, true, true, true, true, true, true, true, true, true, true, true, true, true, true, false, false, false, false, false, false, false, false, false] rfl rfl (any_of HT_.out (by kernel_rfl)) (fun _ _ _ h => h) (Or.inr ⟨by rfl, rfl⟩) ?_ ?_
          rotate_left
          ·simp only [Act.put, List.setIfInBounds_toArray, List.set_cons_zero, List.set_cons_succ, i64_w, i32_w]
           rfl
          refine pure_ (i := 16) (N := some 46) (v := undef) (a' := ?_) #[true, true, true, true, true, true, true, true, true, true, true, true, true, true, true, true, true, false, false, false, false, false, false, false, false] rfl rfl (any_of HT_.out (by kernel_rfl)) (fun _ _ _ h => h) (Or.inr ⟨by rfl, rfl⟩) ?_ ?_
          rotate_left
          ·simp only [Act.put, List.setIfInBounds_toArray, List.set_cons_zero, List.set_cons_succ, i64_w, i32_w]
           rfl
          refine pure_ (i := 17) (N := some 47) (v := undef) (a' := ?_) #[true, true, true, true, true, true, true, true, true, true, true, true, true, true, true, true, true, true, false, false, false, false, false, false, false] rfl rfl (any_of HT_.out (by kernel_rfl)) (fun _ _ _ h => h) (Or.inr ⟨by rfl, rfl⟩) ?_ ?_
          rotate_left
          ·simp only [Act.put, List.setIfInBounds_toArray, List.set_cons_zero, List.set_cons_succ, i64_w, i32_w]
           rfl
          refine pure_ (i := 18) (N := some 48) (v := undef) (a' := ?_) #[true, true, true, true, true, true, true, true, true, true, true, true, true, true, true, true, true, true, true, false, false, false, false, false, false] rfl rfl (any_of HT_.out (by kernel_rfl)) (fun _ _ _ h => h) (Or.inr ⟨by rfl, rfl⟩) ?_ ?_
          rotate_left
          ·simp only [Act.put, List.setIfInBounds_toArray, List.set_cons_zero, List.set_cons_succ, i64_w, i32_w]
           rfl
          refine pure_ (i := 19) (N := some 49) (v := undef) (a' := ?_) #[true, true, true, true, true, true, true, true, true, true, true, true, true, true, true, true, true, true, true, true, false, false, false, false, false] rfl rfl (any_of HT_.out (by kernel_rfl)) (fun _ _ _ h => h) (Or.inr ⟨by rfl, rfl⟩) ?_ ?_
          rotate_left
          ·simp only [Act.put, List.setIfInBounds_toArray, List.set_cons_zero, List.set_cons_succ, i64_w, i32_w]
           rfl
          refine pure_ (i := 20) (N := some 50) (v := undef) (a' := ?_) #[true, true, true, true, true, true, true, true, true, true, true, true, true, true, true, true, true, true, true, true, true, false, false, false, false] rfl rfl (any_of HT_.out (by kernel_rfl)) (fun _ _ _ h => h) (Or.inr ⟨by rfl, rfl⟩) ?_ ?_
          rotate_left
          ·simp only [Act.put, List.setIfInBounds_toArray, List.set_cons_zero, List.set_cons_succ, i64_w, i32_w]
           rfl
          refine pure_ (i := 21) (N := some 51) (v := undef) (a' := ?_) #[true, true, true, true, true, true, true, true, true, true, true, true, true, true, true, true, true, true, true, true, true, true, false, false, false] rfl rfl (any_of HT_.out (by kernel_rfl)) (fun _ _ _ h => h) (Or.inr ⟨by rfl, rfl⟩) ?_ ?_
          rotate_left
          ·simp only [Act.put, List.setIfInBounds_toArray, List.set_cons_zero, List.set_cons_succ, i64_w, i32_w]
           rfl
          refine pure_ (i := 22) (N := some 52) (v := undef) (a' := ?_) #[true, true, true, true, true, true, true, true, true, true, true, true, true, true, true, true, true, true, true, true, true, true, true, false, false] rfl rfl (any_of HT_.out (by kernel_rfl)) (fun _ _ _ h => h) (Or.inr ⟨by rfl, rfl⟩) ?_ ?_
          rotate_left
          ·simp only [Act.put, List.setIfInBounds_toArray, List.set_cons_zero, List.set_cons_succ, i64_w, i32_w]
           rfl
          refine pure_ (i := 23) (N := some 53) (v := undef) (a' := ?_) #[true, true, true, true, true, true, true, true, true, true, true, true, true, true, true, true, true, true, true, true, true, true, true, true, false] rfl rfl (any_of HT_.out (by kernel_rfl)) (fun _ _ _ h => h) (Or.inr ⟨by rfl, rfl⟩) ?_ ?_
          rotate_left
          ·simp only [Act.put, List.setIfInBounds_toArray, List.set_cons_zero, List.set_cons_succ, i64_w, i32_w]
           rfl
          refine pure_ (i := 24) (N := some 54) (v := ?_) (a' := ?_) #[true, true, true, true, true, true, true, true, true, true, true, true, true, true, true, true, true, true, true, true, true, true, true, true, true] rfl rfl (any_of HT_.out (by kernel_rfl)) (fun _ _ _ h => h) (Or.inl ⟨by rfl, ?_⟩) ?_ ?_
          rotate_left
          ·intro w'
           go_simp
           with_reducible rfl
          rotate_left
          ·simp only [Act.put, List.setIfInBounds_toArray, List.set_cons_zero, List.set_cons_succ, i64_w, i32_w]
           rfl
          refine done_ (done_of HT_.out (by kernel_rfl)) ?_
          try go_wp2
          go_roundg k2
          case measure => have := HJ3.out; have := HK2.out; omega
          case rel => exact ⟨(wrap64 (x7_2 + 1)), (by first | rfl | (simp; done) | (simp [*]; done)), H', ⟨by have := HJ3.out; have := HK2.out; omega⟩, ⟨by repeat (first | (with_reducible first | exact HB.out | apply below_alloc | apply pw_below_drewN | apply below_drew1) | exact HB.out)⟩⟩
        ·replace c12 := Bool.eq_false_iff.mpr c12
         subst c12
         have H1 : ((IAwake.f).bind fun t289 => (some t289)) = some r := by rw [if_neg (show ¬ (false = true) by decide)] at H; exact H
         clear H
         have H := H1
         clear H1
         replace H := Option.bind_eq_some_iff.mp H
         obtain ⟨t289, A300, H⟩ := H
         replace H : (some t289) = some r := H
         have A30 := Aside0.mk A300
         clear A300
         obtain rfl := Option.some.inj H
         have p287 : 0 ≤ (x7_2 : Int) := of_decide_eq_true (by first | (with_reducible assumption) | assumption)
         have q287 : x7_2 < (l0.length : Int) := of_decide_eq_true (by first | (with_reducible assumption) | assumption)
         obtain ⟨ad287, A287_1, c287_1, A287_2, c287_2, A287_3, c287_3, A287_4, c287_4, A287_5, c287_5, e287, hx287_0, hx287_1, hx287_2, hx287_3, hx287_4, hx287_5, hx287_6, hl287_1, hi287_1, hl287_2, hi287_2, hl287_3, hi287_3, hl287_4, hi287_4, hl287_5, hi287_5⟩ := at_T24 HR0.out x7_2 p287 q287
         cases e287
         replace hx287_0 := (HB.out.cell (World.block_lt_of_cell? w _ hx287_0)).trans hx287_0
         replace hx287_1 := (HB.out.cell (World.block_lt_of_cell? w _ hx287_1)).trans hx287_1
         replace hx287_2 := (HB.out.cell (World.block_lt_of_cell? w _ hx287_2)).trans hx287_2
         replace hx287_3 := (HB.out.cell (World.block_lt_of_cell? w _ hx287_3)).trans hx287_3
         replace hx287_4 := (HB.out.cell (World.block_lt_of_cell? w _ hx287_4)).trans hx287_4
         replace hx287_5 := (HB.out.cell (World.block_lt_of_cell? w _ hx287_5)).trans hx287_5
         replace hx287_6 := (HB.out.cell (World.block_lt_of_cell? w _ hx287_6)).trans hx287_6
         have HR287_1 := Aside0.mk hi287_1
         have HC287_1 := Aside0.mk hl287_1
         clear hi287_1 hl287_1
         have HR287_2 := Aside0.mk hi287_2
         have HC287_2 := Aside0.mk hl287_2
         clear hi287_2 hl287_2
         have HR287_3 := Aside0.mk hi287_3
         have HC287_3 := Aside0.mk hl287_3
         clear hi287_3 hl287_3
         have HR287_4 := Aside0.mk hi287_4
         have HC287_4 := Aside0.mk hl287_4
         clear hi287_4 hl287_4
         have HR287_5 := Aside0.mk hi287_5
         have HC287_5 := Aside0.mk hl287_5
         clear hi287_5 hl287_5
         replace p287 := eq_true p287
         replace q287 := eq_true q287
         go_wp2_with (first | ((with_reducible refine gate_callee (f := 8) rfl ?_); refine goesL_ (some 27) rfl rfl Tryz.func8 (by kernel_rfl) rfl #[.agg #[.string ((rd_T24 l0 x7_2).f0), .slice A287_1 ((rd_T24 l0 x7_2).f1).length c287_1, .slice A287_2 ((rd_T24 l0 x7_2).f2).length c287_2, .slice A287_3 ((rd_T24 l0 x7_2).f3).length c287_3, .slice A287_4 ((rd_T24 l0 x7_2).f4).length c287_4, .slice A287_5 ((rd_T24 l0 x7_2).f5).length c287_5, .int .i64 ((rd_T24 l0 x7_2).f6)]] rfl (by (try simp only [List.map_toArray, List.map_cons, List.map_nil]); first | done | rfl | (simp only [List.length_drop, List.length_take]; rfl)) ?_; (with_reducible refine (watchfireref26_Light.calls k2 ((rd_T24 l0 x7_2).f0) _ _ ((rd_T24 l0 x7_2).f1) _ _ ((rd_T24 l0 x7_2).f2) _ _ ((rd_T24 l0 x7_2).f3) _ _ ((rd_T24 l0 x7_2).f4) _ _ ((rd_T24 l0 x7_2).f5) ((rd_T24 l0 x7_2).f6) false _ ?side1 ?side2 ?side3 ?side4 ?side5 ?side6 ?side7 ?side8 ?side9 ?side10 A11.out).mono ?_); (case side1 => repeat (first | exact (Kd.C_below HR287_1.out HB.out) | (with_reducible refine Kd.C_alloc ?_ _) | (with_reducible refine Kd.C_drewN ?_ _) | (with_reducible refine Kd.C_drew ?_))); (case side2 => exact HC287_1.out); (case side3 => repeat (first | exact (Kd.C_below HR287_2.out HB.out) | (with_reducible refine Kd.C_alloc ?_ _) | (with_reducible refine Kd.C_drewN ?_ _) | (with_reducible refine Kd.C_drew ?_))); (case side4 => exact HC287_2.out); (case side5 => repeat (first | exact (Kd.C_below HR287_3.out HB.out) | (with_reducible refine Kd.C_alloc ?_ _) | (with_reducible refine Kd.C_drewN ?_ _) | (with_reducible refine Kd.C_drew ?_))); (case side6 => exact HC287_3.out); (case side7 => repeat (first | exact (Kd.C_below HR287_4.out HB.out) | (with_reducible refine Kd.C_alloc ?_ _) | (with_reducible refine Kd.C_drewN ?_ _) | (with_reducible refine Kd.C_drew ?_))); (case side8 => exact HC287_4.out); (case side9 => repeat (first | exact (Kd.C_below HR287_5.out HB.out) | (with_reducible refine Kd.C_alloc ?_ _) | (with_reducible refine Kd.C_drewN ?_ _) | (with_reducible refine Kd.C_drew ?_))); (case side10 => exact HC287_5.out); rintro e w31 ⟨rfl, hb⟩; refine ⟨_, rfl, ?_⟩; have n0_ := Aside0.mk (below_step (by repeat (first | (with_reducible first | exact HB.out | apply below_alloc | apply pw_below_drewN | apply below_drew1) | exact HB.out)) hb); clear HB; have HB := n0_; clear n0_; (try clear hb); (try clear hb2); (try clear hk); (try clear hi)) | ((with_reducible refine gate_callee (f := 9) rfl ?_); refine goesL_ (some 29) rfl rfl Tryz.func9 (by kernel_rfl) rfl #[] rfl (by (try simp only [List.map_toArray, List.map_cons, List.map_nil]); first | done | rfl | (simp only [List.length_drop, List.length_take]; rfl)) ?_; (with_reducible refine (IAwake.calls  t289 _ ?side1 A30.out).mono ?_); (case side1 => exact (TabS.below HT.out (by repeat (first | (with_reducible first | exact HB.out | apply below_alloc | apply pw_below_drewN | apply below_drew1) | exact HB.out)))); rintro e w32 ⟨rfl, hb⟩; refine ⟨_, rfl, ?_⟩; have n0_ := Aside0.mk (below_step (by repeat (first | (with_reducible first | exact HB.out | apply below_alloc | apply pw_below_drewN | apply below_drew1) | exact HB.out)) hb); clear HB; have HB := n0_; clear n0_; (try clear hb); (try clear hb2); (try clear hk); (try clear hi)))
         go_ret
         exact ⟨by first | rfl | (simp [errW_none, errW_some] <;> rfl) | (simp [*, errW_none, errW_some] <;> rfl), by repeat (first | (with_reducible first | exact HB.out | apply below_alloc | apply pw_below_drewN | apply below_drew1) | exact HB.out)⟩
       ·rw [if_neg c10] at H
        exact absurd H (by simp)
      ·rw [if_neg c9] at H
       have c9b0 : decide (x7_2 < (l0.length : Int)) = false := decide_eq_false c9
       clear c9
       replace H := Option.bind_eq_some_iff.mp H
       obtain ⟨t284, A330, H⟩ := H
       replace H : ((watchfireref26_Any.f k2 l0 l1 a2).bind fun t285 => (if (t284 == t285) = true then ((IAwake.f).bind fun t286 => (some t286)) else (some false))) = some r := H
       have A33 := Aside0.mk A330
       clear A330
       replace H := Option.bind_eq_some_iff.mp H
       obtain ⟨t285, A340, H⟩ := H
       replace H : (if (t284 == t285) = true then ((IAwake.f).bind fun t286 => (some t286)) else (some false)) = some r := H
       have A34 := Aside0.mk A340
       clear A340
       by_cases c35 : (t284 == t285) = true
       ·rw [if_pos c35] at H
        have c35b0 : (t284 == t285) = true := c35
        (try (have c35b1 : decide (t284 = t285) = true := by simpa using c35))
        (try (have c35b2 : (t284 == t285) = true := by simpa using c35))
        clear c35
        replace H := Option.bind_eq_some_iff.mp H
        obtain ⟨t286, A360, H⟩ := H
        replace H : (some t286) = some r := H
        have A36 := Aside0.mk A360
        clear A360
        obtain rfl := Option.some.inj H
        go_wp2_with (first | ((with_reducible refine gate_callee (f := 22) rfl ?_); refine goesL_ (some 58) rfl rfl Tryz.func22 (by kernel_rfl) rfl #[.slice A0 l0.length c0, .slice A1 l1.length c1, .int .i64 a2] rfl (by (try simp only [List.map_toArray, List.map_cons, List.map_nil]); first | done | rfl | (simp only [List.length_drop, List.length_take]; rfl)) ?_; (with_reducible refine (IAny.calls _ _ l0 _ _ l1 a2 t284 _ ?side1 ?side2 ?side3 ?side4 ?side5 A33.out).mono ?_); (case side1 => repeat (first | exact (Kd.C_below HR0.out HB.out) | (with_reducible refine Kd.C_alloc ?_ _) | (with_reducible refine Kd.C_drewN ?_ _) | (with_reducible refine Kd.C_drew ?_))); (case side2 => exact HC0.out); (case side3 => repeat (first | exact (Kd.C_below HR1.out HB.out) | (with_reducible refine Kd.C_alloc ?_ _) | (with_reducible refine Kd.C_drewN ?_ _) | (with_reducible refine Kd.C_drew ?_))); (case side4 => exact HC1.out); (case side5 => exact (TabS.below HT.out (by repeat (first | (with_reducible first | exact HB.out | apply below_alloc | apply pw_below_drewN | apply below_drew1) | exact HB.out)))); rintro e w37 ⟨rfl, hb⟩; refine ⟨_, rfl, ?_⟩; have n0_ := Aside0.mk (below_step (by repeat (first | (with_reducible first | exact HB.out | apply below_alloc | apply pw_below_drewN | apply below_drew1) | exact HB.out)) hb); clear HB; have HB := n0_; clear n0_; (try clear hb); (try clear hb2); (try clear hk); (try clear hi)) | ((with_reducible refine gate_callee (f := 23) rfl ?_); refine goesL_ (some 62) rfl rfl Tryz.func23 (by kernel_rfl) rfl #[.slice A0 l0.length c0, .slice A1 l1.length c1, .int .i64 a2] rfl (by (try simp only [List.map_toArray, List.map_cons, List.map_nil]); first | done | rfl | (simp only [List.length_drop, List.length_take]; rfl)) ?_; (with_reducible refine (watchfireref26_Any.calls k2 _ _ l0 _ _ l1 a2 t285 _ ?side1 ?side2 ?side3 ?side4 A34.out).mono ?_); (case side1 => repeat (first | exact (Kd.C_below HR0.out HB.out) | (with_reducible refine Kd.C_alloc ?_ _) | (with_reducible refine Kd.C_drewN ?_ _) | (with_reducible refine Kd.C_drew ?_))); (case side2 => exact HC0.out); (case side3 => repeat (first | exact (Kd.C_below HR1.out HB.out) | (with_reducible refine Kd.C_alloc ?_ _) | (with_reducible refine Kd.C_drewN ?_ _) | (with_reducible refine Kd.C_drew ?_))); (case side4 => exact HC1.out); rintro e w38 ⟨rfl, hb⟩; refine ⟨_, rfl, ?_⟩; have n0_ := Aside0.mk (below_step (by repeat (first | (with_reducible first | exact HB.out | apply below_alloc | apply pw_below_drewN | apply below_drew1) | exact HB.out)) hb); clear HB; have HB := n0_; clear n0_; (try clear hb); (try clear hb2); (try clear hk); (try clear hi)) | (go_at_call 9; (with_reducible refine (IAwake.calls  t286 _ ?side1 A36.out).mono ?_); (case side1 => exact (TabS.below HT.out (by repeat (first | (with_reducible first | exact HB.out | apply below_alloc | apply pw_below_drewN | apply below_drew1) | exact HB.out)))); rintro e w39 ⟨rfl, hb⟩; have n0_ := Aside0.mk (below_step (by repeat (first | (with_reducible first | exact HB.out | apply below_alloc | apply pw_below_drewN | apply below_drew1) | exact HB.out)) hb); clear HB; have HB := n0_; clear n0_; (try clear hb); (try clear hb2); (try clear hk); (try clear hi)))
        go_ret
        exact ⟨by first | rfl | (simp [errW_none, errW_some] <;> rfl) | (simp [*, errW_none, errW_some] <;> rfl), by repeat (first | (with_reducible first | exact HB.out | apply below_alloc | apply pw_below_drewN | apply below_drew1) | exact HB.out)⟩
       ·rw [if_neg c35] at H
        have c35b0 : (t284 == t285) = false := by simpa using c35
        (try (have c35b1 : decide (t284 = t285) = false := by simpa using c35))
        (try (have c35b2 : (t284 == t285) = false := by simpa using c35))
        (try (have c35b3 : ¬ (t284 = t285) := by simpa using c35))
        clear c35
        obtain rfl := Option.some.inj H
        go_wp2_with (first | ((with_reducible refine gate_callee (f := 22) rfl ?_); refine goesL_ (some 58) rfl rfl Tryz.func22 (by kernel_rfl) rfl #[.slice A0 l0.length c0, .slice A1 l1.length c1, .int .i64 a2] rfl (by (try simp only [List.map_toArray, List.map_cons, List.map_nil]); first | done | rfl | (simp only [List.length_drop, List.length_take]; rfl)) ?_; (with_reducible refine (IAny.calls _ _ l0 _ _ l1 a2 t284 _ ?side1 ?side2 ?side3 ?side4 ?side5 A33.out).mono ?_); (case side1 => repeat (first | exact (Kd.C_below HR0.out HB.out) | (with_reducible refine Kd.C_alloc ?_ _) | (with_reducible refine Kd.C_drewN ?_ _) | (with_reducible refine Kd.C_drew ?_))); (case side2 => exact HC0.out); (case side3 => repeat (first | exact (Kd.C_below HR1.out HB.out) | (with_reducible refine Kd.C_alloc ?_ _) | (with_reducible refine Kd.C_drewN ?_ _) | (with_reducible refine Kd.C_drew ?_))); (case side4 => exact HC1.out); (case side5 => exact (TabS.below HT.out (by repeat (first | (with_reducible first | exact HB.out | apply below_alloc | apply pw_below_drewN | apply below_drew1) | exact HB.out)))); rintro e w40 ⟨rfl, hb⟩; refine ⟨_, rfl, ?_⟩; have n0_ := Aside0.mk (below_step (by repeat (first | (with_reducible first | exact HB.out | apply below_alloc | apply pw_below_drewN | apply below_drew1) | exact HB.out)) hb); clear HB; have HB := n0_; clear n0_; (try clear hb); (try clear hb2); (try clear hk); (try clear hi)) | ((with_reducible refine gate_callee (f := 23) rfl ?_); refine goesL_ (some 62) rfl rfl Tryz.func23 (by kernel_rfl) rfl #[.slice A0 l0.length c0, .slice A1 l1.length c1, .int .i64 a2] rfl (by (try simp only [List.map_toArray, List.map_cons, List.map_nil]); first | done | rfl | (simp only [List.length_drop, List.length_take]; rfl)) ?_; (with_reducible refine (watchfireref26_Any.calls k2 _ _ l0 _ _ l1 a2 t285 _ ?side1 ?side2 ?side3 ?side4 A34.out).mono ?_); (case side1 => repeat (first | exact (Kd.C_below HR0.out HB.out) | (with_reducible refine Kd.C_alloc ?_ _) | (with_reducible refine Kd.C_drewN ?_ _) | (with_reducible refine Kd.C_drew ?_))); (case side2 => exact HC0.out); (case side3 => repeat (first | exact (Kd.C_below HR1.out HB.out) | (with_reducible refine Kd.C_alloc ?_ _) | (with_reducible refine Kd.C_drewN ?_ _) | (with_reducible refine Kd.C_drew ?_))); (case side4 => exact HC1.out); rintro e w41 ⟨rfl, hb⟩; refine ⟨_, rfl, ?_⟩; have n0_ := Aside0.mk (below_step (by repeat (first | (with_reducible first | exact HB.out | apply below_alloc | apply pw_below_drewN | apply below_drew1) | exact HB.out)) hb); clear HB; have HB := n0_; clear n0_; (try clear hb); (try clear hb2); (try clear hk); (try clear hi)))
        go_ret
        exact ⟨by first | rfl | (simp [errW_none, errW_some] <;> rfl) | (simp [*, errW_none, errW_some] <;> rfl), by repeat (first | (with_reducible first | exact HB.out | apply below_alloc | apply pw_below_drewN | apply below_drew1) | exact HB.out)⟩

end Go.Proofs.YtgipdacenppmdaaGreatDoor.P
