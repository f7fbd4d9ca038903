-- Told by a program of this session out of the seat's translation.
import Derived.Test.YtgipdacenppmdaaGreatDoorP0
import Derived.Test.YtgipdacenppmdaaGreatDoorP4
import Derived.Test.YtgipdacenppmdaaGreatDoorP5
namespace Go.Proofs.YtgipdacenppmdaaGreatDoor.P
open Go.RowKit Go.Proofs.YtgipdacenppmdaaGreatDoorW.PrintWords Go.Proofs.YtgipdacenppmdaaGreatDoorW.PrintLast Go.Proofs.YtgipdacenppmdaaGreatDoorW.PrintMore
attribute [local go_sem] max2_int min2_int max_two min_two max_three min_three max_four min_four   -- for this text's walks alone
set_option linter.unusedVariables false
set_option linter.unusedSimpArgs false

mutual
def watchfireref26_has.j0 : Nat → Int → Int → Int → Bool → Int → Int → Option (Bool)
 | 0, _, _, _, _, _, _ => none
 | k + 1, x0, x7, x8, x23, x137000, x137001 => if x23 = true then (watchfireref26_has.j1 k x0 x7 x8 (wrap64 (x137000 + (wrap64 (x8 + 1)))) x137001) else (watchfireref26_has.j1 k x0 x7 x8 x137000 x137001)
def watchfireref26_has.j1 : Nat → Int → Int → Int → Int → Int → Option (Bool)
 | 0, _, _, _, _, _ => none
 | k + 1, x0, x7, x8, x137000, x137001 => if x0 = 2 then (watchfireref26_has.j2 k x0 x7 x8 (decide (x137001 < 0)) x137000 x137001) else (watchfireref26_has.j2 k x0 x7 x8 false x137000 x137001)
def watchfireref26_has.j2 : Nat → Int → Int → Int → Bool → Int → Int → Option (Bool)
 | 0, _, _, _, _, _, _ => none
 | k + 1, x0, x7, x8, x36, x137000, x137001 => if x36 = true then (if x0 = 4 then (if x137000 ≤ x7 then (some (decide (x7 < (wrap64 (x137001 + (wrap64 (x8 + 1))))))) else (some false)) else (if x137000 ≤ x7 then (some (decide (x7 ≤ (wrap64 (x137001 + (wrap64 (x8 + 1))))))) else (some false))) else (if x0 = 4 then (if x137000 ≤ x7 then (some (decide (x7 < x137001))) else (some false)) else (if x137000 ≤ x7 then (some (decide (x7 ≤ x137001))) else (some false)))
end
def watchfireref26_has.f (k : Nat) (a0 : Int) (a1_0 : Int) (a1_1 : Int) (a2_0 : Int) (a2_1 : Int) (a2_2 : Int) (a2_3 : Int) (a2_4 : Int) (a2_5 : Int) : Option (Bool) := (watchfireref26_number.f a0 a2_0 a2_1 a2_2 a2_3 a2_4 a2_5).bind fun t138 => ((watchfireref25_Long.f k a2_0 a2_1).bind fun t139 => (if a0 = 2 then (watchfireref26_has.j0 k a0 t138 t139 (decide (a1_0 < 0)) a1_0 a1_1) else (watchfireref26_has.j0 k a0 t138 t139 false a1_0 a1_1)))
theorem watchfireref26_has.mono_l : ∀ k, (∀ y0 y1 y2 y3 y4 y5, LeO (watchfireref26_has.j0 k y0 y1 y2 y3 y4 y5) (watchfireref26_has.j0 (k + 1) y0 y1 y2 y3 y4 y5)) ∧ (∀ y0 y1 y2 y3 y4, LeO (watchfireref26_has.j1 k y0 y1 y2 y3 y4) (watchfireref26_has.j1 (k + 1) y0 y1 y2 y3 y4)) ∧ (∀ y0 y1 y2 y3 y4 y5, LeO (watchfireref26_has.j2 k y0 y1 y2 y3 y4 y5) (watchfireref26_has.j2 (k + 1) y0 y1 y2 y3 y4 y5))
 | 0 => ⟨fun _ _ _ _ _ _ r h => by simp [watchfireref26_has.j0] at h, fun _ _ _ _ _ r h => by simp [watchfireref26_has.j1] at h, fun _ _ _ _ _ _ r h => by simp [watchfireref26_has.j2] at h⟩
 | k + 1 => by
  obtain ⟨ih0, ih1, ih2⟩ := watchfireref26_has.mono_l k
  refine ⟨?_, ?_, ?_⟩
  ·intro y0 y1 y2 y3 y4 y5
   unfold watchfireref26_has.j0
   repeat' first
   | (with_reducible exact ih0 _ _ _ _ _ _)
   | (with_reducible exact ih1 _ _ _ _ _)
   | (with_reducible exact ih2 _ _ _ _ _ _)
   | (with_reducible exact watchfireref25_Long.mono _ _ _)
   | (with_reducible exact LeO.refl _)
   | (with_reducible exact LeO.none _)
   | (with_reducible refine LeO.ite ?_ ?_)
   | (with_reducible refine LeO.bind ?_ (fun _ => ?_))
   | exact ih0 _ _ _ _ _ _
   | exact ih1 _ _ _ _ _
   | exact ih2 _ _ _ _ _ _
   | exact watchfireref25_Long.mono _ _ _
   | exact LeO.none _
   | refine LeO.ite ?_ ?_
   | refine LeO.bind ?_ (fun _ => ?_)
  ·intro y0 y1 y2 y3 y4
   unfold watchfireref26_has.j1
   repeat' first
   | (with_reducible exact ih0 _ _ _ _ _ _)
   | (with_reducible exact ih1 _ _ _ _ _)
   | (with_reducible exact ih2 _ _ _ _ _ _)
   | (with_reducible exact watchfireref25_Long.mono _ _ _)
   | (with_reducible exact LeO.refl _)
   | (with_reducible exact LeO.none _)
   | (with_reducible refine LeO.ite ?_ ?_)
   | (with_reducible refine LeO.bind ?_ (fun _ => ?_))
   | exact ih0 _ _ _ _ _ _
   | exact ih1 _ _ _ _ _
   | exact ih2 _ _ _ _ _ _
   | exact watchfireref25_Long.mono _ _ _
   | exact LeO.none _
   | refine LeO.ite ?_ ?_
   | refine LeO.bind ?_ (fun _ => ?_)
  ·intro y0 y1 y2 y3 y4 y5
   unfold watchfireref26_has.j2
   repeat' first
   | (with_reducible exact ih0 _ _ _ _ _ _)
   | (with_reducible exact ih1 _ _ _ _ _)
   | (with_reducible exact ih2 _ _ _ _ _ _)
   | (with_reducible exact watchfireref25_Long.mono _ _ _)
   | (with_reducible exact LeO.refl _)
   | (with_reducible exact LeO.none _)
   | (with_reducible refine LeO.ite ?_ ?_)
   | (with_reducible refine LeO.bind ?_ (fun _ => ?_))
   | exact ih0 _ _ _ _ _ _
   | exact ih1 _ _ _ _ _
   | exact ih2 _ _ _ _ _ _
   | exact watchfireref25_Long.mono _ _ _
   | exact LeO.none _
   | refine LeO.ite ?_ ?_
   | refine LeO.bind ?_ (fun _ => ?_)
theorem watchfireref26_has.mono : ∀ a0 a1 a2 a3 a4 a5 a6 a7 a8 k, LeO (watchfireref26_has.f k a0 a1 a2 a3 a4 a5 a6 a7 a8) (watchfireref26_has.f (k + 1) a0 a1 a2 a3 a4 a5 a6 a7 a8) := by
 intro a0 a1 a2 a3 a4 a5 a6 a7 a8 k
 obtain ⟨ih0, ih1, ih2⟩ := watchfireref26_has.mono_l k
 unfold watchfireref26_has.f
 repeat' first
   | (with_reducible exact ih0 _ _ _ _ _ _)
   | (with_reducible exact ih1 _ _ _ _ _)
   | (with_reducible exact ih2 _ _ _ _ _ _)
   | (with_reducible exact watchfireref25_Long.mono _ _ _)
   | (with_reducible exact LeO.refl _)
   | (with_reducible exact LeO.none _)
   | (with_reducible refine LeO.ite ?_ ?_)
   | (with_reducible refine LeO.bind ?_ (fun _ => ?_))
   | exact ih0 _ _ _ _ _ _
   | exact ih1 _ _ _ _ _
   | exact ih2 _ _ _ _ _ _
   | exact watchfireref25_Long.mono _ _ _
   | exact LeO.none _
   | refine LeO.ite ?_ ?_
   | refine LeO.bind ?_ (fun _ => ?_)
set_option maxHeartbeats 8000000 in
set_option maxRecDepth 100000 in
theorem watchfireref26_has.calls (k : Nat) (a0 : Int) (a1_0 : Int) (a1_1 : Int) (a2_0 : Int) (a2_1 : Int) (a2_2 : Int) (a2_3 : Int) (a2_4 : Int) (a2_5 : Int) (r : Bool) (w : World) (h : watchfireref26_has.f k a0 a1_0 a1_1 a2_0 a2_1 a2_2 a2_3 a2_4 a2_5 = some r) :
  Calls Tryz.prog 33 #[.int .i64 a0, .agg #[.int .i64 a1_0, .int .i64 a1_1], .agg #[.int .i64 a2_0, .int .i64 a2_1, .int .i64 a2_2, .int .i64 a2_3, .int .i64 a2_4, .int .i64 a2_5]] w fun e w' => e = .returned (.bool r) ∧ Below w.heap.size w w' := by
 have hu55 := Tryz.underlying55
 have hu61 := Tryz.underlying61
 have HB := Aside0.mk (Below.refl w.heap.size w)
 have H : ((watchfireref26_number.f a0 a2_0 a2_1 a2_2 a2_3 a2_4 a2_5).bind fun t138 => ((watchfireref25_Long.f k a2_0 a2_1).bind fun t139 => (if a0 = 2 then (watchfireref26_has.j0 k a0 t138 t139 (decide (a1_0 < 0)) a1_0 a1_1) else (watchfireref26_has.j0 k a0 t138 t139 false a1_0 a1_1)))) = some r := h
 clear h
 replace H := Option.bind_eq_some_iff.mp H
 obtain ⟨t138, A40, H⟩ := H
 replace H : ((watchfireref25_Long.f k a2_0 a2_1).bind fun t139 => (if a0 = 2 then (watchfireref26_has.j0 k a0 t138 t139 (decide (a1_0 < 0)) a1_0 a1_1) else (watchfireref26_has.j0 k a0 t138 t139 false a1_0 a1_1))) = some r := H
 have A4 := Aside0.mk A40
 clear A40
 replace H := Option.bind_eq_some_iff.mp H
 obtain ⟨t139, A50, H⟩ := H
 replace H : (if a0 = 2 then (watchfireref26_has.j0 k a0 t138 t139 (decide (a1_0 < 0)) a1_0 a1_1) else (watchfireref26_has.j0 k a0 t138 t139 false a1_0 a1_1)) = some r := H
 have A5 := Aside0.mk A50
 clear A50
 have HC6 := Aside0.mk H
 clear H
 go_enter Tryz.func33, Tryz.ntmps33
 go_upto_region 3 with (first | ((with_reducible refine gate_dst (N := 4) rfl ?_); refine box_event ?hg (N := 4) ?hd (cs := #[.int .i64 a1_0, .int .i64 a1_1]) (t := 55) ?hr ?_; (case hd => rfl); (case hg => rfl); (case hr => first | (go_simp; done) | (go_simp; rfl)); intro gb136 hg w7 hbox hb; have n0_ := Aside0.mk (below_step (by repeat (first | (with_reducible first | exact HB.out | apply below_alloc | apply pw_below_drewN | apply below_drew1) | exact HB.out)) hb); have n1_ := Aside0.mk (hbox); have n2_ := Aside0.mk ((by rw [hg]; exact (below_size (by repeat (first | (with_reducible first | exact HB.out | apply below_alloc | apply pw_below_drewN | apply below_drew1) | exact HB.out))) : w.heap.size ≤ gb136)); have n3_ := Aside0.mk ((by rw [hg]; exact (below_size (by repeat (first | (with_reducible first | exact HB.out | apply below_alloc | apply pw_below_drewN | apply below_drew1) | exact HB.out))) : w.heap.size ≤ gb136)); clear HB; have HB := n0_; have BK136 := n1_; have GW136 := n2_; have GE136 := n3_; clear n0_ n1_ n2_ n3_; clear hb hbox hg) | ((with_reducible refine gate_dst (N := 5) rfl ?_); refine box_event ?hg (N := 5) ?hd (cs := #[.int .i64 a2_0, .int .i64 a2_1, .int .i64 a2_2, .int .i64 a2_3, .int .i64 a2_4, .int .i64 a2_5]) (t := 61) ?hr ?_; (case hd => rfl); (case hg => rfl); (case hr => first | (go_simp; done) | (go_simp; rfl)); intro gb137 hg w8 hbox hb; have n0_ := Aside0.mk (blk_below (g := gb136) (o := .cells #[.int .i64 a1_0, .int .i64 a1_1] 55 (0, 0)) (by (with_reducible repeat (first | refine blk_drewN ?_ _ | refine blk_drew ?_ | refine blk_alloc ?_ _)); exact BK136.out) hb); have n1_ := Aside0.mk (below_step (by repeat (first | (with_reducible first | exact HB.out | apply below_alloc | apply pw_below_drewN | apply below_drew1 | refine below_set ?_ GE136.out) | exact HB.out)) hb); have n2_ := Aside0.mk (hbox); have n3_ := Aside0.mk ((by rw [hg]; exact (below_size (by repeat (first | (with_reducible first | exact HB.out | apply below_alloc | apply pw_below_drewN | apply below_drew1 | refine below_set ?_ GE136.out) | exact HB.out))) : w.heap.size ≤ gb137)); have n4_ := Aside0.mk ((by rw [hg]; exact (below_size (by repeat (first | (with_reducible first | exact HB.out | apply below_alloc | apply pw_below_drewN | apply below_drew1 | refine below_set ?_ GE136.out) | exact HB.out))) : w.heap.size ≤ gb137)); have n5_ := Aside0.mk ((by rw [hg]; exact Nat.ne_of_lt (blk_lt (g := gb136) (o := .cells #[.int .i64 a1_0, .int .i64 a1_1] 55 (0, 0)) (by (with_reducible repeat (first | refine blk_drewN ?_ _ | refine blk_drew ?_ | refine blk_alloc ?_ _)); exact BK136.out)) : gb136 ≠ gb137)); have n6_ := Aside0.mk ((by rw [hg]; exact Nat.ne_of_gt (blk_lt (g := gb136) (o := .cells #[.int .i64 a1_0, .int .i64 a1_1] 55 (0, 0)) (by (with_reducible repeat (first | refine blk_drewN ?_ _ | refine blk_drew ?_ | refine blk_alloc ?_ _)); exact BK136.out)) : gb137 ≠ gb136)); clear BK136; clear HB; have BK136 := n0_; have HB := n1_; have BK137 := n2_; have GW137 := n3_; have GE137 := n4_; have NB136_137 := n5_; have NB137_136 := n6_; clear n0_ n1_ n2_ n3_ n4_ n5_ n6_; clear hb hbox hg; have hnb9 := NB137_136.out; have hnc9 := NB136_137.out; have hcz10_0 : w8.cell? ⟨gb137, 0, none⟩ = some (.int .i64 a2_0) := (blk_cell BK137.out 0).trans rfl; have hcz10_1 : w8.cell? ⟨gb137, 1, none⟩ = some (.int .i64 a2_1) := (blk_cell BK137.out 1).trans rfl; have hcz10_2 : w8.cell? ⟨gb137, 2, none⟩ = some (.int .i64 a2_2) := (blk_cell BK137.out 2).trans rfl; have hcz10_3 : w8.cell? ⟨gb137, 3, none⟩ = some (.int .i64 a2_3) := (blk_cell BK137.out 3).trans rfl; have hcz10_4 : w8.cell? ⟨gb137, 4, none⟩ = some (.int .i64 a2_4) := (blk_cell BK137.out 4).trans rfl; have hcz10_5 : w8.cell? ⟨gb137, 5, none⟩ = some (.int .i64 a2_5) := (blk_cell BK137.out 5).trans rfl; have hfz10_0 := blk_frozen BK137.out 0; have hfz10_1 := blk_frozen BK137.out 1; have hfz10_2 := blk_frozen BK137.out 2; have hfz10_3 := blk_frozen BK137.out 3; have hfz10_4 := blk_frozen BK137.out 4; have hfz10_5 := blk_frozen BK137.out 5) | ((with_reducible refine gate_callee (f := 64) rfl ?_); refine goesL_ (some 11) rfl rfl Tryz.func64 (by kernel_rfl) rfl #[.int .i64 a0, .agg #[.int .i64 a2_0, .int .i64 a2_1, .int .i64 a2_2, .int .i64 a2_3, .int .i64 a2_4, .int .i64 a2_5]] rfl (by (try simp only [List.map_toArray, List.map_cons, List.map_nil]); first | done | rfl | (simp only [List.length_drop, List.length_take]; rfl)) ?_; (with_reducible refine (watchfireref26_number.calls a0 a2_0 a2_1 a2_2 a2_3 a2_4 a2_5 t138 _ A4.out).mono ?_); rintro e w11 ⟨rfl, hb⟩; refine ⟨_, rfl, ?_⟩; have n0_ := Aside0.mk (blk_below (g := gb136) (o := .cells #[.int .i64 a1_0, .int .i64 a1_1] 55 (0, 0)) (by (with_reducible repeat (first | refine blk_drewN ?_ _ | refine blk_drew ?_ | refine blk_alloc ?_ _)); exact BK136.out) hb); have n1_ := Aside0.mk (blk_below (g := gb137) (o := .cells #[.int .i64 a2_0, .int .i64 a2_1, .int .i64 a2_2, .int .i64 a2_3, .int .i64 a2_4, .int .i64 a2_5] 61 (0, 0)) (by (with_reducible repeat (first | refine blk_drewN ?_ _ | refine blk_drew ?_ | refine blk_alloc ?_ _)); exact BK137.out) hb); have n2_ := Aside0.mk (below_step (by repeat (first | (with_reducible first | exact HB.out | apply below_alloc | apply pw_below_drewN | apply below_drew1 | refine below_set ?_ GE136.out | refine below_set ?_ GE137.out) | exact HB.out)) hb); clear BK136; clear BK137; clear HB; have BK136 := n0_; have BK137 := n1_; have HB := n2_; clear n0_ n1_ n2_; (try clear hb); (try clear hb2); (try clear hk); (try clear hi); have hcz12_0 : w11.cell? ⟨gb137, 0, none⟩ = some (.int .i64 a2_0) := (blk_cell BK137.out 0).trans rfl; have hcz12_1 : w11.cell? ⟨gb137, 1, none⟩ = some (.int .i64 a2_1) := (blk_cell BK137.out 1).trans rfl; have hcz12_2 : w11.cell? ⟨gb137, 2, none⟩ = some (.int .i64 a2_2) := (blk_cell BK137.out 2).trans rfl; have hcz12_3 : w11.cell? ⟨gb137, 3, none⟩ = some (.int .i64 a2_3) := (blk_cell BK137.out 3).trans rfl; have hcz12_4 : w11.cell? ⟨gb137, 4, none⟩ = some (.int .i64 a2_4) := (blk_cell BK137.out 4).trans rfl; have hcz12_5 : w11.cell? ⟨gb137, 5, none⟩ = some (.int .i64 a2_5) := (blk_cell BK137.out 5).trans rfl; have hfz12_0 := blk_frozen BK137.out 0; have hfz12_1 := blk_frozen BK137.out 1; have hfz12_2 := blk_frozen BK137.out 2; have hfz12_3 := blk_frozen BK137.out 3; have hfz12_4 := blk_frozen BK137.out 4; have hfz12_5 := blk_frozen BK137.out 5) | ((with_reducible refine gate_callee (f := 65) rfl ?_); refine goesL_ (some 16) rfl rfl Tryz.func65 (by kernel_rfl) rfl #[.int .i64 a2_0, .int .i64 a2_1] rfl (by (try simp only [List.map_toArray, List.map_cons, List.map_nil]); first | done | rfl | (simp only [List.length_drop, List.length_take]; rfl)) ?_; (with_reducible refine (watchfireref25_Long.calls k a2_0 a2_1 t139 _ A5.out).mono ?_); rintro e w' ⟨rfl, ⟨nd, rfl⟩⟩; refine ⟨_, rfl, ?_⟩))
 (try simp only [Act.put, List.setIfInBounds_toArray, List.set_cons_zero, List.set_cons_succ])
 go_cut [23] (fun v23 wc => ∃ (kq : Nat) (x23_5 : Bool), v23 = .bool x23_5 ∧ Aside0 (watchfireref26_has.j0 kq a0 t138 t139 x23_5 a1_0 a1_1 = some r) ∧ Aside0 (kq ≤ k) ∧ Aside0 (wc.heap[gb136]? = some (.cells #[.int .i64 a1_0, .int .i64 a1_1] 55 (0, 0))) ∧ Aside0 (wc.heap[gb137]? = some (.cells #[.int .i64 a2_0, .int .i64 a2_1, .int .i64 a2_2, .int .i64 a2_3, .int .i64 a2_4, .int .i64 a2_5] 61 (0, 0))) ∧ Aside0 (Below w.heap.size w wc))
 case first =>
  have H := HC6.out
  clear HC6
  by_cases c13 : a0 = 2
  ·rw [if_pos c13] at H
   have c13b0 : (a0 == 2) = true := beq_iff_eq.mpr c13
   have c13b1 : (a0 != 2) = false := bne_eq_false_iff_eq.mpr c13
   clear c13
   (first | rw [c13b0] | (simp only [i64_w, i32_w]; rw [c13b0]) | skip)
   have H' := Aside0.mk H
   clear H
   have hnb14 := NB136_137.out
   have hnc14 := NB137_136.out
   have hcz15_0 : w11.cell? ⟨gb136, 0, none⟩ = some (.int .i64 a1_0) := (blk_cell BK136.out 0).trans rfl
   have hcz15_1 : w11.cell? ⟨gb136, 1, none⟩ = some (.int .i64 a1_1) := (blk_cell BK136.out 1).trans rfl
   have hfz15_0 := blk_frozen BK136.out 0
   have hfz15_1 := blk_frozen BK136.out 1
   go_wp2
   go_meet
   case rel => exact ⟨_, (decide (a1_0 < 0)), (by first | rfl | (simp; done) | (simp [*]; done)), H', ⟨by first | omega | exact Nat.le_refl _⟩, ⟨by (with_reducible repeat (first | refine blk_drewN ?_ _ | refine blk_drew ?_ | refine blk_alloc ?_ _)); exact BK136.out⟩, ⟨by (with_reducible repeat (first | refine blk_drewN ?_ _ | refine blk_drew ?_ | refine blk_alloc ?_ _)); exact BK137.out⟩, ⟨by repeat (first | (with_reducible first | exact HB.out | apply below_alloc | apply pw_below_drewN | apply below_drew1 | refine below_set ?_ GE136.out | refine below_set ?_ GE137.out) | exact HB.out)⟩⟩
  ·rw [if_neg c13] at H
   have c13b0 : (a0 == 2) = false := beq_eq_false_iff_ne.mpr c13
   have c13b1 : (a0 != 2) = true := bne_iff_ne.mpr c13
   (first | rw [c13b0] | (simp only [i64_w, i32_w]; rw [c13b0]) | skip)
   have H' := Aside0.mk H
   clear H
   go_wp2
   go_meet
   case rel => exact ⟨_, (false), (by first | rfl | (simp; done) | (simp [*]; done)), H', ⟨by first | omega | exact Nat.le_refl _⟩, ⟨by (with_reducible repeat (first | refine blk_drewN ?_ _ | refine blk_drew ?_ | refine blk_alloc ?_ _)); exact BK136.out⟩, ⟨by (with_reducible repeat (first | refine blk_drewN ?_ _ | refine blk_drew ?_ | refine blk_alloc ?_ _)); exact BK137.out⟩, ⟨by repeat (first | (with_reducible first | exact HB.out | apply below_alloc | apply pw_below_drewN | apply below_drew1 | refine below_set ?_ GE136.out | refine below_set ?_ GE137.out) | exact HB.out)⟩⟩
 case rest =>
  clear HC6
  try clear c1
  try clear p2
  try clear c3
  try clear c6
  try clear c9
  try clear c13
  try clear c13b0
  try clear c13b1
  try clear c14
  try clear hcz10_0
  try clear hcz10_1
  try clear hcz10_2
  try clear hcz10_3
  try clear hcz10_4
  try clear hcz10_5
  try clear hcz12_0
  try clear hcz12_1
  try clear hcz12_2
  try clear hcz12_3
  try clear hcz12_4
  try clear hcz12_5
  try clear hcz15_0
  try clear hcz15_1
  try clear hfz10_0
  try clear hfz10_1
  try clear hfz10_2
  try clear hfz10_3
  try clear hfz10_4
  try clear hfz10_5
  try clear hfz12_0
  try clear hfz12_1
  try clear hfz12_2
  try clear hfz12_3
  try clear hfz12_4
  try clear hfz12_5
  try clear hfz15_0
  try clear hfz15_1
  obtain ⟨kq, x23_5, rfl, HA, HJ5, BK136, BK137, HB⟩ := hcut
  cases kq with
  | zero => exact absurd HA.out (by simp [watchfireref26_has.j0])
  | succ kj5 =>
   have H := HA.out
   clear HA
   simp only [watchfireref26_has.j0] at H
   have HC16 := Aside0.mk H
   clear H
   go_upto_if 23 with (fail)
   go_cut [] (fun wc => ∃ (kq : Nat) (x137000_15 : Int), Aside0 (watchfireref26_has.j1 kq a0 t138 t139 x137000_15 a1_1 = some r) ∧ Aside0 (kq ≤ kj5) ∧ Aside0 (wc.heap[gb136]? = some (.cells #[.int .i64 x137000_15, .int .i64 a1_1] 55 (0, 0))) ∧ Aside0 (wc.heap[gb137]? = some (.cells #[.int .i64 a2_0, .int .i64 a2_1, .int .i64 a2_2, .int .i64 a2_3, .int .i64 a2_4, .int .i64 a2_5] 61 (0, 0))) ∧ Aside0 (Below w.heap.size w wc))
   case first =>
    have H := HC16.out
    clear HC16
    by_cases c17 : x23_5 = true
    ·subst c17
     have H1 : (watchfireref26_has.j1 kj5 a0 t138 t139 (wrap64 (a1_0 + (wrap64 (t139 + 1)))) a1_1) = some r := by rw [if_pos rfl] at H; exact H
     clear H
     have H := H1
     clear H1
     have H' := Aside0.mk H
     clear H
     have hnb18 := NB136_137.out
     have hnc18 := NB137_136.out
     have hcz19_0 : wc.cell? ⟨gb136, 0, none⟩ = some (.int .i64 a1_0) := (blk_cell BK136.out 0).trans rfl
     have hcz19_1 : wc.cell? ⟨gb136, 1, none⟩ = some (.int .i64 a1_1) := (blk_cell BK136.out 1).trans rfl
     have hfz19_0 := blk_frozen BK136.out 0
     have hfz19_1 := blk_frozen BK136.out 1
     go_wp2
     go_meet
     case rel => exact ⟨_, (wrap64 (a1_0 + (wrap64 (t139 + 1)))), H', ⟨by have := HJ5.out; first | omega | exact Nat.le_refl _⟩, ⟨by (with_reducible repeat (first | refine blk_drewN ?_ _ | refine blk_drew ?_ | refine blk_alloc ?_ _)); refine blk_put (cs := #[.int .i64 a1_0, .int .i64 a1_1]) ?_ 0 _ rfl; (with_reducible repeat (first | refine blk_drewN ?_ _ | refine blk_drew ?_ | refine blk_alloc ?_ _)); exact BK136.out⟩, ⟨by (with_reducible repeat (first | refine blk_drewN ?_ _ | refine blk_drew ?_ | refine blk_alloc ?_ _)); refine blk_far ?_ NB137_136.out _; (with_reducible repeat (first | refine blk_drewN ?_ _ | refine blk_drew ?_ | refine blk_alloc ?_ _)); exact BK137.out⟩, ⟨by repeat (first | (with_reducible first | exact HB.out | apply below_alloc | apply pw_below_drewN | apply below_drew1 | refine below_set ?_ GE136.out | refine below_set ?_ GE137.out) | exact HB.out)⟩⟩
    ·replace c17 := Bool.eq_false_iff.mpr c17
     subst c17
     have H1 : (watchfireref26_has.j1 kj5 a0 t138 t139 a1_0 a1_1) = some r := by rw [if_neg (show ¬ (false = true) by decide)] at H; exact H
     clear H
     have H := H1
     clear H1
     have H' := Aside0.mk H
     clear H
     go_wp2
     go_meet
     case rel => exact ⟨_, (a1_0), H', ⟨by have := HJ5.out; first | omega | exact Nat.le_refl _⟩, ⟨by (with_reducible repeat (first | refine blk_drewN ?_ _ | refine blk_drew ?_ | refine blk_alloc ?_ _)); exact BK136.out⟩, ⟨by (with_reducible repeat (first | refine blk_drewN ?_ _ | refine blk_drew ?_ | refine blk_alloc ?_ _)); exact BK137.out⟩, ⟨by repeat (first | (with_reducible first | exact HB.out | apply below_alloc | apply pw_below_drewN | apply below_drew1 | refine below_set ?_ GE136.out | refine below_set ?_ GE137.out) | exact HB.out)⟩⟩
   case rest =>
    clear HC16
    try clear c1
    try clear p2
    try clear c3
    try clear c6
    try clear p6
    try clear c9
    try clear c13
    try clear c13b0
    try clear c13b1
    try clear c14
    try clear c17
    try clear c18
    try clear hcz10_0
    try clear hcz10_1
    try clear hcz10_2
    try clear hcz10_3
    try clear hcz10_4
    try clear hcz10_5
    try clear hcz12_0
    try clear hcz12_1
    try clear hcz12_2
    try clear hcz12_3
    try clear hcz12_4
    try clear hcz12_5
    try clear hcz15_0
    try clear hcz15_1
    try clear hcz19_0
    try clear hcz19_1
    try clear hfz10_0
    try clear hfz10_1
    try clear hfz10_2
    try clear hfz10_3
    try clear hfz10_4
    try clear hfz10_5
    try clear hfz12_0
    try clear hfz12_1
    try clear hfz12_2
    try clear hfz12_3
    try clear hfz12_4
    try clear hfz12_5
    try clear hfz15_0
    try clear hfz15_1
    try clear hfz19_0
    try clear hfz19_1
    try clear p2
    obtain ⟨kq, x137000_15, HA, HJ15, BK136, BK137, HB⟩ := hcut
    cases kq with
    | zero => exact absurd HA.out (by simp [watchfireref26_has.j1])
    | succ kj15 =>
     have H := HA.out
     clear HA
     simp only [watchfireref26_has.j1] at H
     have HC20 := Aside0.mk H
     clear H
     go_upto_region 5 with (fail)
     go_cut [36] (fun v36 wc => ∃ (kq : Nat) (x36_19 : Bool), v36 = .bool x36_19 ∧ Aside0 (watchfireref26_has.j2 kq a0 t138 t139 x36_19 x137000_15 a1_1 = some r) ∧ Aside0 (kq ≤ kj15) ∧ Aside0 (wc.heap[gb136]? = some (.cells #[.int .i64 x137000_15, .int .i64 a1_1] 55 (0, 0))) ∧ Aside0 (wc.heap[gb137]? = some (.cells #[.int .i64 a2_0, .int .i64 a2_1, .int .i64 a2_2, .int .i64 a2_3, .int .i64 a2_4, .int .i64 a2_5] 61 (0, 0))) ∧ Aside0 (Below w.heap.size w wc))
     case first =>
      have H := HC20.out
      clear HC20
      by_cases c21 : a0 = 2
      ·rw [if_pos c21] at H
       have c21b0 : (a0 == 2) = true := beq_iff_eq.mpr c21
       have c21b1 : (a0 != 2) = false := bne_eq_false_iff_eq.mpr c21
       clear c21
       (first | rw [c21b0] | (simp only [i64_w, i32_w]; rw [c21b0]) | skip)
       have H' := Aside0.mk H
       clear H
       have hnb22 := NB136_137.out
       have hnc22 := NB137_136.out
       have hcz23_0 : wc.cell? ⟨gb136, 0, none⟩ = some (.int .i64 x137000_15) := (blk_cell BK136.out 0).trans rfl
       have hcz23_1 : wc.cell? ⟨gb136, 1, none⟩ = some (.int .i64 a1_1) := (blk_cell BK136.out 1).trans rfl
       have hfz23_0 := blk_frozen BK136.out 0
       have hfz23_1 := blk_frozen BK136.out 1
       go_wp2
       go_meet
       case rel => exact ⟨_, (decide (a1_1 < 0)), (by first | rfl | (simp; done) | (simp [*]; done)), H', ⟨by have := HJ5.out; have := HJ15.out; first | omega | exact Nat.le_refl _⟩, ⟨by (with_reducible repeat (first | refine blk_drewN ?_ _ | refine blk_drew ?_ | refine blk_alloc ?_ _)); exact BK136.out⟩, ⟨by (with_reducible repeat (first | refine blk_drewN ?_ _ | refine blk_drew ?_ | refine blk_alloc ?_ _)); exact BK137.out⟩, ⟨by repeat (first | (with_reducible first | exact HB.out | apply below_alloc | apply pw_below_drewN | apply below_drew1 | refine below_set ?_ GE136.out | refine below_set ?_ GE137.out) | exact HB.out)⟩⟩
      ·rw [if_neg c21] at H
       have c21b0 : (a0 == 2) = false := beq_eq_false_iff_ne.mpr c21
       have c21b1 : (a0 != 2) = true := bne_iff_ne.mpr c21
       (first | rw [c21b0] | (simp only [i64_w, i32_w]; rw [c21b0]) | skip)
       have H' := Aside0.mk H
       clear H
       go_wp2
       go_meet
       case rel => exact ⟨_, (false), (by first | rfl | (simp; done) | (simp [*]; done)), H', ⟨by have := HJ5.out; have := HJ15.out; first | omega | exact Nat.le_refl _⟩, ⟨by (with_reducible repeat (first | refine blk_drewN ?_ _ | refine blk_drew ?_ | refine blk_alloc ?_ _)); exact BK136.out⟩, ⟨by (with_reducible repeat (first | refine blk_drewN ?_ _ | refine blk_drew ?_ | refine blk_alloc ?_ _)); exact BK137.out⟩, ⟨by repeat (first | (with_reducible first | exact HB.out | apply below_alloc | apply pw_below_drewN | apply below_drew1 | refine below_set ?_ GE136.out | refine below_set ?_ GE137.out) | exact HB.out)⟩⟩
     case rest =>
      clear HC20
      try clear c1
      try clear c2
      try clear p2
      try clear c3
      try clear c6
      try clear p6
      try clear c9
      try clear c13
      try clear c13b0
      try clear c13b1
      try clear c14
      try clear c17
      try clear c18
      try clear c21
      try clear c21b0
      try clear c21b1
      try clear c22
      try clear hcz10_0
      try clear hcz10_1
      try clear hcz10_2
      try clear hcz10_3
      try clear hcz10_4
      try clear hcz10_5
      try clear hcz12_0
      try clear hcz12_1
      try clear hcz12_2
      try clear hcz12_3
      try clear hcz12_4
      try clear hcz12_5
      try clear hcz15_0
      try clear hcz15_1
      try clear hcz19_0
      try clear hcz19_1
      try clear hcz23_0
      try clear hcz23_1
      try clear hfz10_0
      try clear hfz10_1
      try clear hfz10_2
      try clear hfz10_3
      try clear hfz10_4
      try clear hfz10_5
      try clear hfz12_0
      try clear hfz12_1
      try clear hfz12_2
      try clear hfz12_3
      try clear hfz12_4
      try clear hfz12_5
      try clear hfz15_0
      try clear hfz15_1
      try clear hfz19_0
      try clear hfz19_1
      try clear hfz23_0
      try clear hfz23_1
      try clear p2
      try clear p6
      obtain ⟨kq, x36_19, rfl, HA, HJ19, BK136, BK137, HB⟩ := hcut
      cases kq with
      | zero => exact absurd HA.out (by simp [watchfireref26_has.j2])
      | succ kj19 =>
       have H := HA.out
       clear HA
       simp only [watchfireref26_has.j2] at H
       by_cases c24 : x36_19 = true
       ·subst c24
        have H1 : (if a0 = 4 then (if x137000_15 ≤ t138 then (some (decide (t138 < (wrap64 (a1_1 + (wrap64 (t139 + 1))))))) else (some false)) else (if x137000_15 ≤ t138 then (some (decide (t138 ≤ (wrap64 (a1_1 + (wrap64 (t139 + 1))))))) else (some false))) = some r := by rw [if_pos rfl] at H; exact H
        clear H
        have H := H1
        clear H1
        by_cases c25 : a0 = 4
        ·rw [if_pos c25] at H
         have c25b0 : (a0 == 4) = true := beq_iff_eq.mpr c25
         have c25b1 : (a0 != 4) = false := bne_eq_false_iff_eq.mpr c25
         clear c25
         by_cases c26 : x137000_15 ≤ t138
         ·rw [if_pos c26] at H
          have c26b0 : decide (x137000_15 ≤ t138) = true := decide_eq_true c26
          clear c26
          obtain rfl := Option.some.inj H
          have hnb27 := NB136_137.out
          have hnc27 := NB137_136.out
          have hcz28_0 : wc.cell? ⟨gb136, 0, none⟩ = some (.int .i64 x137000_15) := (blk_cell BK136.out 0).trans rfl
          have hcz28_1 : wc.cell? ⟨gb136, 1, none⟩ = some (.int .i64 a1_1) := (blk_cell BK136.out 1).trans rfl
          have hfz28_0 := blk_frozen BK136.out 0
          have hfz28_1 := blk_frozen BK136.out 1
          go_wp2
          go_ret
          exact ⟨by first | rfl | (simp [errW_none, errW_some] <;> rfl) | (simp [*, errW_none, errW_some] <;> rfl), by repeat (first | (with_reducible first | exact HB.out | apply below_alloc | apply pw_below_drewN | apply below_drew1 | refine below_set ?_ GE136.out | refine below_set ?_ GE137.out) | exact HB.out)⟩
         ·rw [if_neg c26] at H
          have c26b0 : decide (x137000_15 ≤ t138) = false := decide_eq_false c26
          clear c26
          obtain rfl := Option.some.inj H
          have hnb29 := NB136_137.out
          have hnc29 := NB137_136.out
          have hcz30_0 : wc.cell? ⟨gb136, 0, none⟩ = some (.int .i64 x137000_15) := (blk_cell BK136.out 0).trans rfl
          have hcz30_1 : wc.cell? ⟨gb136, 1, none⟩ = some (.int .i64 a1_1) := (blk_cell BK136.out 1).trans rfl
          have hfz30_0 := blk_frozen BK136.out 0
          have hfz30_1 := blk_frozen BK136.out 1
          go_wp2
          go_ret
          exact ⟨by first | rfl | (simp [errW_none, errW_some] <;> rfl) | (simp [*, errW_none, errW_some] <;> rfl), by repeat (first | (with_reducible first | exact HB.out | apply below_alloc | apply pw_below_drewN | apply below_drew1 | refine below_set ?_ GE136.out | refine below_set ?_ GE137.out) | exact HB.out)⟩
        ·rw [if_neg c25] at H
         have c25b0 : (a0 == 4) = false := beq_eq_false_iff_ne.mpr c25
         have c25b1 : (a0 != 4) = true := bne_iff_ne.mpr c25
         by_cases c31 : x137000_15 ≤ t138
         ·rw [if_pos c31] at H
          have c31b0 : decide (x137000_15 ≤ t138) = true := decide_eq_true c31
          clear c31
          obtain rfl := Option.some.inj H
          have hnb32 := NB136_137.out
          have hnc32 := NB137_136.out
          have hcz33_0 : wc.cell? ⟨gb136, 0, none⟩ = some (.int .i64 x137000_15) := (blk_cell BK136.out 0).trans rfl
          have hcz33_1 : wc.cell? ⟨gb136, 1, none⟩ = some (.int .i64 a1_1) := (blk_cell BK136.out 1).trans rfl
          have hfz33_0 := blk_frozen BK136.out 0
          have hfz33_1 := blk_frozen BK136.out 1
          go_wp2
          go_ret
          exact ⟨by first | rfl | (simp [errW_none, errW_some] <;> rfl) | (simp [*, errW_none, errW_some] <;> rfl), by repeat (first | (with_reducible first | exact HB.out | apply below_alloc | apply pw_below_drewN | apply below_drew1 | refine below_set ?_ GE136.out | refine below_set ?_ GE137.out) | exact HB.out)⟩
         ·rw [if_neg c31] at H
          have c31b0 : decide (x137000_15 ≤ t138) = false := decide_eq_false c31
          clear c31
          obtain rfl := Option.some.inj H
          have hnb34 := NB136_137.out
          have hnc34 := NB137_136.out
          have hcz35_0 : wc.cell? ⟨gb136, 0, none⟩ = some (.int .i64 x137000_15) := (blk_cell BK136.out 0).trans rfl
          have hcz35_1 : wc.cell? ⟨gb136, 1, none⟩ = some (.int .i64 a1_1) := (blk_cell BK136.out 1).trans rfl
          have hfz35_0 := blk_frozen BK136.out 0
          have hfz35_1 := blk_frozen BK136.out 1
          go_wp2
          go_ret
          exact ⟨by first | rfl | (simp [errW_none, errW_some] <;> rfl) | (simp [*, errW_none, errW_some] <;> rfl), by repeat (first | (with_reducible first | exact HB.out | apply below_alloc | apply pw_below_drewN | apply below_drew1 | refine below_set ?_ GE136.out | refine below_set ?_ GE137.out) | exact HB.out)⟩
       ·replace c24 := Bool.eq_false_iff.mpr c24
        subst c24
        have H1 : (if a0 = 4 then (if x137000_15 ≤ t138 then (some (decide (t138 < a1_1))) else (some false)) else (if x137000_15 ≤ t138 then (some (decide (t138 ≤ a1_1))) else (some false))) = some r := by rw [if_neg (show ¬ (false = true) by decide)] at H; exact H
        clear H
        have H := H1
        clear H1
        by_cases c36 : a0 = 4
        ·rw [if_pos c36] at H
         have c36b0 : (a0 == 4) = true := beq_iff_eq.mpr c36
         have c36b1 : (a0 != 4) = false := bne_eq_false_iff_eq.mpr c36
         clear c36
         by_cases c37 : x137000_15 ≤ t138
         ·rw [if_pos c37] at H
          have c37b0 : decide (x137000_15 ≤ t138) = true := decide_eq_true c37
          clear c37
          obtain rfl := Option.some.inj H
          have hnb38 := NB136_137.out
          have hnc38 := NB137_136.out
          have hcz39_0 : wc.cell? ⟨gb136, 0, none⟩ = some (.int .i64 x137000_15) := (blk_cell BK136.out 0).trans rfl
          have hcz39_1 : wc.cell? ⟨gb136, 1, none⟩ = some (.int .i64 a1_1) := (blk_cell BK136.out 1).trans rfl
          have hfz39_0 := blk_frozen BK136.out 0
          have hfz39_1 := blk_frozen BK136.out 1
          go_wp2
          go_ret
          exact ⟨by first | rfl | (simp [errW_none, errW_some] <;> rfl) | (simp [*, errW_none, errW_some] <;> rfl), by repeat (first | (with_reducible first | exact HB.out | apply below_alloc | apply pw_below_drewN | apply below_drew1 | refine below_set ?_ GE136.out | refine below_set ?_ GE137.out) | exact HB.out)⟩
         ·rw [if_neg c37] at H
          have c37b0 : decide (x137000_15 ≤ t138) = false := decide_eq_false c37
          clear c37
          obtain rfl := Option.some.inj H
          have hnb40 := NB136_137.out
          have hnc40 := NB137_136.out
          have hcz41_0 : wc.cell? ⟨gb136, 0, none⟩ = some (.int .i64 x137000_15) := (blk_cell BK136.out 0).trans rfl
          have hcz41_1 : wc.cell? ⟨gb136, 1, none⟩ = some (.int .i64 a1_1) := (blk_cell BK136.out 1).trans rfl
          have hfz41_0 := blk_frozen BK136.out 0
          have hfz41_1 := blk_frozen BK136.out 1
          go_wp2
          go_ret
          exact ⟨by first | rfl | (simp [errW_none, errW_some] <;> rfl) | (simp [*, errW_none, errW_some] <;> rfl), by repeat (first | (with_reducible first | exact HB.out | apply below_alloc | apply pw_below_drewN | apply below_drew1 | refine below_set ?_ GE136.out | refine below_set ?_ GE137.out) | exact HB.out)⟩
        ·rw [if_neg c36] at H
         have c36b0 : (a0 == 4) = false := beq_eq_false_iff_ne.mpr c36
         have c36b1 : (a0 != 4) = true := bne_iff_ne.mpr c36
         by_cases c42 : x137000_15 ≤ t138
         ·rw [if_pos c42] at H
          have c42b0 : decide (x137000_15 ≤ t138) = true := decide_eq_true c42
          clear c42
          obtain rfl := Option.some.inj H
          have hnb43 := NB136_137.out
          have hnc43 := NB137_136.out
          have hcz44_0 : wc.cell? ⟨gb136, 0, none⟩ = some (.int .i64 x137000_15) := (blk_cell BK136.out 0).trans rfl
          have hcz44_1 : wc.cell? ⟨gb136, 1, none⟩ = some (.int .i64 a1_1) := (blk_cell BK136.out 1).trans rfl
          have hfz44_0 := blk_frozen BK136.out 0
          have hfz44_1 := blk_frozen BK136.out 1
          go_wp2
          go_ret
          exact ⟨by first | rfl | (simp [errW_none, errW_some] <;> rfl) | (simp [*, errW_none, errW_some] <;> rfl), by repeat (first | (with_reducible first | exact HB.out | apply below_alloc | apply pw_below_drewN | apply below_drew1 | refine below_set ?_ GE136.out | refine below_set ?_ GE137.out) | exact HB.out)⟩
         ·rw [if_neg c42] at H
          have c42b0 : decide (x137000_15 ≤ t138) = false := decide_eq_false c42
          clear c42
          obtain rfl := Option.some.inj H
          have hnb45 := NB136_137.out
          have hnc45 := NB137_136.out
          have hcz46_0 : wc.cell? ⟨gb136, 0, none⟩ = some (.int .i64 x137000_15) := (blk_cell BK136.out 0).trans rfl
          have hcz46_1 : wc.cell? ⟨gb136, 1, none⟩ = some (.int .i64 a1_1) := (blk_cell BK136.out 1).trans rfl
          have hfz46_0 := blk_frozen BK136.out 0
          have hfz46_1 := blk_frozen BK136.out 1
          go_wp2
          go_ret
          exact ⟨by first | rfl | (simp [errW_none, errW_some] <;> rfl) | (simp [*, errW_none, errW_some] <;> rfl), by repeat (first | (with_reducible first | exact HB.out | apply below_alloc | apply pw_below_drewN | apply below_drew1 | refine below_set ?_ GE136.out | refine below_set ?_ GE137.out) | exact HB.out)⟩

end Go.Proofs.YtgipdacenppmdaaGreatDoor.P
