/- IntervalNarrow: the walk. -/
import Derived.Test.YtgipdacenppmdaaDoorReg
import Derived.Test.YtgipdacenppmdaaDoorP0
set_option linter.unusedVariables false
set_option linter.unusedSimpArgs false
namespace Go.Proofs.YtgipdacenppmdaaDoor.G
open Go.RowKit Go.Lib Go.Proofs.YtgipdacenppmdaaDoorW.PrintWords Go.Proofs.YtgipdacenppmdaaDoor.P
theorem cells7 {W : World} {p : Nat} {v0 v1 v2 v3 v4 v5 v6 : Value} {t : TypeId} (h : W.heap[p]? = some (.cells #[v0, v1, v2, v3, v4, v5, v6] t (0, 0))) :
  W.cell? ⟨p, 0, none⟩ = some v0 ∧ W.cell? ⟨p, 1, none⟩ = some v1 ∧ W.cell? ⟨p, 2, none⟩ = some v2 ∧ W.cell? ⟨p, 3, none⟩ = some v3 ∧ W.cell? ⟨p, 4, none⟩ = some v4 ∧ W.cell? ⟨p, 5, none⟩ = some v5 ∧ W.cell? ⟨p, 6, none⟩ = some v6 :=
 ⟨(blk_cell h 0).trans rfl, (blk_cell h 1).trans rfl, (blk_cell h 2).trans rfl, (blk_cell h 3).trans rfl, (blk_cell h 4).trans rfl, (blk_cell h 5).trans rfl, (blk_cell h 6).trans rfl⟩
set_option maxHeartbeats 16000000 in
set_option maxRecDepth 100000 in
theorem narrow_any (nm : ByteArray) (A1 : Option Addr) (n1 c1 : Nat) (A2 : Option Addr) (n2 c2 : Nat) (A3 : Option Addr) (n3 c3 : Nat) (A4 : Option Addr) (n4 c4 : Nat) (A5 : Option Addr) (n5 c5 : Nat) (ah s h : Int) (w : World) (bl : Bool) (ec oy om od owd omi ose oe : Int) (bv : Bool) (hh0 : 0 ≤ h) (hh : h ≤ 255)
  (HLi0 : ∀ W, Below w.heap.size w W → Calls Tryd.prog 6 #[.agg #[.string nm, .slice A1 n1 c1, .slice A2 n2 c2, .slice A3 n3 c3, .slice A4 n4 c4, .slice A5 n5 c5, .int .i64 ah]] W fun e w' => e = .returned (.bool bl) ∧ Below W.heap.size W w')
  (HCk0 : ∀ W, Below w.heap.size w W → Calls Tryd.prog 7 #[.agg #[.string nm, .slice A1 n1 c1, .slice A2 n2 c2, .slice A3 n3 c3, .slice A4 n4 c4, .slice A5 n5 c5, .int .i64 ah]] W fun e w' => e = .returned (.int .i64 ec) ∧ Below W.heap.size W w')
  (HOf0 : ∀ W, Below w.heap.size w W → Calls Tryd.prog 9 #[.int .i64 s, .int .i64 ah] W fun e w' => e = .returned (.tuple #[.agg #[.int .i64 oy, .int .i64 om, .int .i64 od, .int .i64 owd, .int .i64 omi, .int .i64 ose], .int .i64 oe]) ∧ Below W.heap.size W w')
  (HHv0 : bl = true → ec = 0 → ∀ W, Below w.heap.size w W → Calls Tryd.prog 10 #[.agg #[.string nm, .slice A1 n1 c1, .slice A2 n2 c2, .slice A3 n3 c3, .slice A4 n4 c4, .slice A5 n5 c5, .int .i64 ah], .int .i64 s] W fun e w' => e = .returned (.bool bv) ∧ Below W.heap.size W w')
  (HHa0 : bl = true → ec = 0 → ∀ W, Below w.heap.size w W → Calls Tryd.prog 10 #[.agg #[.string nm, .slice none 0 0, .slice none 0 0, .slice none 0 0, .slice none 0 0, .slice none 0 0, .int .i64 ah], .int .i64 s] W fun e w' => e = .returned (.bool (decide (oe = 0))) ∧ Below W.heap.size W w')
  (HL00 : bl = true → ec = 0 → bv = true → ∀ W, Below w.heap.size w W → Calls Tryd.prog 10 #[.agg #[.string nm, .slice none 0 0, .slice A2 n2 c2, .slice A3 n3 c3, .slice A4 n4 c4, .slice A5 n5 c5, .int .i64 ah], .int .i64 s] W fun e w' => e = .returned (.bool true) ∧ Below W.heap.size W w')
  (HL10 : bl = true → ec = 0 → bv = true → ∀ W, Below w.heap.size w W → Calls Tryd.prog 10 #[.agg #[.string nm, .slice A1 n1 c1, .slice none 0 0, .slice A3 n3 c3, .slice A4 n4 c4, .slice A5 n5 c5, .int .i64 ah], .int .i64 s] W fun e w' => e = .returned (.bool true) ∧ Below W.heap.size W w')
  (HL20 : bl = true → ec = 0 → bv = true → ∀ W, Below w.heap.size w W → Calls Tryd.prog 10 #[.agg #[.string nm, .slice A1 n1 c1, .slice A2 n2 c2, .slice none 0 0, .slice A4 n4 c4, .slice A5 n5 c5, .int .i64 ah], .int .i64 s] W fun e w' => e = .returned (.bool true) ∧ Below W.heap.size W w')
  (HL30 : bl = true → ec = 0 → bv = true → ∀ W, Below w.heap.size w W → Calls Tryd.prog 10 #[.agg #[.string nm, .slice A1 n1 c1, .slice A2 n2 c2, .slice A3 n3 c3, .slice none 0 0, .slice A5 n5 c5, .int .i64 ah], .int .i64 s] W fun e w' => e = .returned (.bool true) ∧ Below W.heap.size W w')
  (HL40 : bl = true → ec = 0 → bv = true → ∀ W, Below w.heap.size w W → Calls Tryd.prog 10 #[.agg #[.string nm, .slice A1 n1 c1, .slice A2 n2 c2, .slice A3 n3 c3, .slice A4 n4 c4, .slice none 0 0, .int .i64 ah], .int .i64 s] W fun e w' => e = .returned (.bool true) ∧ Below W.heap.size W w')
  (HAw0 : ∀ W, Below w.heap.size w W → Calls Tryd.prog 8 #[] W fun e w' => e = .returned (.bool true) ∧ Below W.heap.size W w') :
  Calls Tryd.prog 3 #[.agg #[.string nm, .slice A1 n1 c1, .slice A2 n2 c2, .slice A3 n3 c3, .slice A4 n4 c4, .slice A5 n5 c5, .int .i64 ah], .int .i64 s, .int .u8 h] w fun e w' => e = .returned (.bool true) ∧ Below w.heap.size w w' := by
 have HLi := Aside0.mk HLi0
 have HCk := Aside0.mk HCk0
 have HOf := Aside0.mk HOf0
 have HHv := Aside0.mk HHv0
 have HHa := Aside0.mk HHa0
 have HL0 := Aside0.mk HL00
 have HL1 := Aside0.mk HL10
 have HL2 := Aside0.mk HL20
 have HL3 := Aside0.mk HL30
 have HL4 := Aside0.mk HL40
 have HAw := Aside0.mk HAw0
 clear HLi0 HCk0 HOf0 HHv0 HHa0 HL00 HL10 HL20 HL30 HL40 HAw0
 go_enter Tryd.func3, Tryd.ntmps3
 go_wp2_with (fail)
 obtain ⟨p3, hp3⟩ : ∃ p, p = w.heap.size := ⟨_, rfl⟩
 obtain ⟨w1, hw1⟩ : ∃ w1, w1 = w.alloc (.cells #[.string nm, .slice A1 n1 c1, .slice A2 n2 c2, .slice A3 n3 c3, .slice A4 n4 c4, .slice A5 n5 c5, .int .i64 ah] 24) := ⟨_, rfl⟩
 have HP := Aside0.mk (show w1.heap[p3]? = some (.cells #[.string nm, .slice A1 n1 c1, .slice A2 n2 c2, .slice A3 n3 c3, .slice A4 n4 c4, .slice A5 n5 c5, .int .i64 ah] 24 (0, 0)) by rw [hw1, hp3]; exact heap_alloc_new w _)
 have HB1 := Aside0.mk (show Below w.heap.size w w1 by rw [hw1]; exact below_alloc (Below.refl _ _) _)
 have HPS := Aside0.mk (show w.heap.size ≤ p3 by omega)
 rw [← hw1, ← hp3]
 clear hw1 hp3
 refine (HLi.out w1 HB1.out).mono ?_
 rintro e w2 ⟨rfl, hb⟩
 have HB2 := Aside0.mk (below_then HB1.out HB1.out.size hb)
 have HP2 := Aside0.mk ((hb.block _ (blk_lt HP.out)).trans HP.out)
 clear hb HLi HP HB1
 by_cases hbl : bl = false
 ·subst hbl
  go_wp2_with (fail)
  refine (HAw.out w2 HB2.out).mono ?_
  rintro e w3 ⟨rfl, hb⟩
  have HB3 := Aside0.mk (below_then HB2.out HB2.out.size hb)
  clear hb
  go_wp2_with (fail)
  go_ret
  exact ⟨rfl, HB3.out⟩
 have hbt : bl = true := by simpa using hbl
 subst hbt
 clear hbl
 obtain ⟨k0, k1, k2, k3, k4, k5, k6⟩ := cells7 HP2.out
 go_wp2_with (fail)
 clear k0 k1 k2 k3 k4 k5 k6
 refine (HCk.out w2 HB2.out).mono ?_
 rintro e w3 ⟨rfl, hb⟩
 have HB3 := Aside0.mk (below_then HB2.out HB2.out.size hb)
 have HP3 := Aside0.mk ((hb.block _ (blk_lt HP2.out)).trans HP2.out)
 clear hb HCk HP2 HB2
 by_cases hec : ec = 0
 case neg =>
  have d1 : (ec == 0) = false := beq_eq_false_iff_ne.2 hec
  have d2 : decide (ec = 0) = false := decide_eq_false hec
  have d3 : (ec != 0) = true := by simp [bne, d1]
  clear hec
  go_wp2_with (fail)
  refine (HAw.out w3 HB3.out).mono ?_
  rintro e w4 ⟨rfl, hb⟩
  have HB4 := Aside0.mk (below_then HB3.out HB3.out.size hb)
  clear hb
  go_wp2_with (fail)
  go_ret
  exact ⟨rfl, HB4.out⟩
 subst hec
 have HHv2 := Aside0.mk (HHv.out (by simp) (by simp))
 have HHa2 := Aside0.mk (HHa.out (by simp) (by simp))
 clear HHv HHa
 obtain ⟨k0, k1, k2, k3, k4, k5, k6⟩ := cells7 HP3.out
 have hlt3 : p3 < w3.heap.size := blk_lt HP3.out
 have hne3 : p3 ≠ w3.heap.size := by omega

 have hmod : Int.tmod h 5 = h % 5 := Int.tmod_eq_emod_of_nonneg hh0
 obtain ⟨m, hm⟩ : ∃ m, m = h % 5 := ⟨_, rfl⟩
 have hmr : 0 ≤ m ∧ m ≤ 4 := by omega
 have h5 : m = 0 ∨ m = 1 ∨ m = 2 ∨ m = 3 ∨ m = 4 := by omega
 rw [← hm] at hmod
 clear hm hmr
 rcases h5 with rfl | rfl | rfl | rfl | rfl
 ·have HLe := Aside0.mk (HL0.out (by simp) (by simp))
  clear HL0 HL1 HL2 HL3 HL4
  go_wp2_with (fail)
  obtain ⟨p8, hp8⟩ : ∃ p, p = w3.heap.size + 1 := ⟨_, rfl⟩
  obtain ⟨p7, hp7⟩ : ∃ p, p = w3.heap.size := ⟨_, rfl⟩
  obtain ⟨w4, hw4⟩ : ∃ w4, w4 = (w3.alloc (.cells #[.string nm, .slice none 0 0, .slice none 0 0, .slice none 0 0, .slice none 0 0, .slice none 0 0, .int .i64 ah] 24)).alloc (.cells #[.string nm, .slice none 0 0, .slice A2 n2 c2, .slice A3 n3 c3, .slice A4 n4 c4, .slice A5 n5 c5, .int .i64 ah] 24) := ⟨_, rfl⟩
  have HB34 := Aside0.mk (show Below w3.heap.size w3 w4 by rw [hw4]; exact below_alloc (below_alloc (Below.refl _ _) _) _)
  have H7 := Aside0.mk (show w4.heap[p7]? = some (.cells #[.string nm, .slice none 0 0, .slice none 0 0, .slice none 0 0, .slice none 0 0, .slice none 0 0, .int .i64 ah] 24 (0, 0)) by
   rw [hw4, hp7]
   exact (heap_alloc_old _ _ (by simp)).trans (heap_alloc_new w3 _))
  have H8 := Aside0.mk (show w4.heap[p8]? = some (.cells #[.string nm, .slice none 0 0, .slice A2 n2 c2, .slice A3 n3 c3, .slice A4 n4 c4, .slice A5 n5 c5, .int .i64 ah] 24 (0, 0)) by
   rw [hw4, hp8]
   have := heap_alloc_new (w3.alloc (.cells #[.string nm, .slice none 0 0, .slice none 0 0, .slice none 0 0, .slice none 0 0, .slice none 0 0, .int .i64 ah] 24)) (.cells #[.string nm, .slice none 0 0, .slice A2 n2 c2, .slice A3 n3 c3, .slice A4 n4 c4, .slice A5 n5 c5, .int .i64 ah] 24)
   simpa using this)
  rw [← hw4]
  try rw [← hp8]
  try rw [← hp7]
  have HB4 := Aside0.mk (below_then HB3.out HB3.out.size HB34.out)
  have HP4 := Aside0.mk ((HB34.out.block _ (blk_lt HP3.out)).trans HP3.out)
  clear hp8 hp7 hw4 HB34 k0 k1 k2 k3 k4 k5 k6 hlt3 hne3 HP3 HB3
  refine (HOf.out w4 HB4.out).mono ?_
  rintro e w5 ⟨rfl, hb⟩
  have HB5 := Aside0.mk (below_then HB4.out HB4.out.size hb)
  have HP5 := Aside0.mk ((hb.block _ (blk_lt HP4.out)).trans HP4.out)
  have H75 := Aside0.mk ((hb.block _ (blk_lt H7.out)).trans H7.out)
  have H85 := Aside0.mk ((hb.block _ (blk_lt H8.out)).trans H8.out)
  clear hb HP4 H7 H8 HB4
  obtain ⟨k0, k1, k2, k3, k4, k5, k6⟩ := cells7 HP5.out
  have hlt5 : p3 < w5.heap.size := blk_lt HP5.out
  go_wp2_with (fail)
  obtain ⟨w6, hw6⟩ : ∃ w6, w6 = w5.alloc (.cells #[.int .i64 oy, .int .i64 om, .int .i64 od, .int .i64 owd, .int .i64 omi, .int .i64 ose] 30) := ⟨_, rfl⟩
  have HB56 := Aside0.mk (show Below w5.heap.size w5 w6 by rw [hw6]; exact below_alloc (Below.refl _ _) _)
  rw [← hw6]
  have HB6 := Aside0.mk (below_then HB5.out HB5.out.size HB56.out)
  have H76 := Aside0.mk ((HB56.out.block _ (blk_lt H75.out)).trans H75.out)
  have H86 := Aside0.mk ((HB56.out.block _ (blk_lt H85.out)).trans H85.out)
  clear hw6 HB56 HB5 H75 H85 HP5 k0 k1 k2 k3 k4 k5 k6 hlt5
  refine (HHv2.out w6 HB6.out).mono ?_
  rintro e w7 ⟨rfl, hb⟩
  have HB7 := Aside0.mk (below_then HB6.out HB6.out.size hb)
  have H77 := Aside0.mk ((hb.block _ (blk_lt H76.out)).trans H76.out)
  have H87 := Aside0.mk ((hb.block _ (blk_lt H86.out)).trans H86.out)
  clear hb HB6 H76 H86
  obtain ⟨k0, k1, k2, k3, k4, k5, k6⟩ := cells7 H77.out
  go_wp2_with (fail)
  clear k0 k1 k2 k3 k4 k5 k6
  refine (HHa2.out w7 HB7.out).mono ?_
  rintro e w8 ⟨rfl, hb⟩
  have HB8 := Aside0.mk (below_then HB7.out HB7.out.size hb)
  have H88 := Aside0.mk ((hb.block _ (blk_lt H87.out)).trans H87.out)
  clear hb HB7 H77 H87
  obtain ⟨k0, k1, k2, k3, k4, k5, k6⟩ := cells7 H88.out
  by_cases hoe : oe = 0
  ·subst hoe
   rw [decide_eq_true rfl]
   cases bv with
   | true =>
    go_wp2_with (fail)
    clear k0 k1 k2 k3 k4 k5 k6
    refine (HLe.out (by simp) w8 HB8.out).mono ?_
    rintro e w9 ⟨rfl, hb⟩
    have HB9 := Aside0.mk (below_then HB8.out HB8.out.size hb)
    clear hb
    go_wp2_with (fail)
    refine (HAw.out w9 HB9.out).mono ?_
    rintro e w10 ⟨rfl, hb⟩
    have HB10 := Aside0.mk (below_then HB9.out HB9.out.size hb)
    clear hb
    go_wp2_with (fail)
    go_ret
    exact ⟨rfl, HB10.out⟩
   | false =>
    go_wp2_with (fail)
    refine (HAw.out w8 HB8.out).mono ?_
    rintro e w10 ⟨rfl, hb⟩
    have HB10 := Aside0.mk (below_then HB8.out HB8.out.size hb)
    clear hb
    go_wp2_with (fail)
    go_ret
    exact ⟨rfl, HB10.out⟩
  ·have d1 : (oe == 0) = false := beq_eq_false_iff_ne.2 hoe
   have d2 : decide (oe = 0) = false := decide_eq_false hoe
   rw [d2]
   clear hoe
   cases bv with
   | true =>
    go_wp2_with (fail)
    clear k0 k1 k2 k3 k4 k5 k6
    refine (HLe.out (by simp) w8 HB8.out).mono ?_
    rintro e w9 ⟨rfl, hb⟩
    have HB9 := Aside0.mk (below_then HB8.out HB8.out.size hb)
    clear hb
    go_wp2_with (fail)
    refine (HAw.out w9 HB9.out).mono ?_
    rintro e w10 ⟨rfl, hb⟩
    have HB10 := Aside0.mk (below_then HB9.out HB9.out.size hb)
    clear hb
    go_wp2_with (fail)
    go_ret
    exact ⟨rfl, HB10.out⟩
   | false =>
    go_wp2_with (fail)
    refine (HAw.out w8 HB8.out).mono ?_
    rintro e w10 ⟨rfl, hb⟩
    have HB10 := Aside0.mk (below_then HB8.out HB8.out.size hb)
    clear hb
    go_wp2_with (fail)
    go_ret
    exact ⟨rfl, HB10.out⟩
 ·have HLe := Aside0.mk (HL1.out (by simp) (by simp))
  clear HL0 HL1 HL2 HL3 HL4
  go_wp2_with (fail)
  obtain ⟨p8, hp8⟩ : ∃ p, p = w3.heap.size + 1 := ⟨_, rfl⟩
  obtain ⟨p7, hp7⟩ : ∃ p, p = w3.heap.size := ⟨_, rfl⟩
  obtain ⟨w4, hw4⟩ : ∃ w4, w4 = (w3.alloc (.cells #[.string nm, .slice none 0 0, .slice none 0 0, .slice none 0 0, .slice none 0 0, .slice none 0 0, .int .i64 ah] 24)).alloc (.cells #[.string nm, .slice A1 n1 c1, .slice none 0 0, .slice A3 n3 c3, .slice A4 n4 c4, .slice A5 n5 c5, .int .i64 ah] 24) := ⟨_, rfl⟩
  have HB34 := Aside0.mk (show Below w3.heap.size w3 w4 by rw [hw4]; exact below_alloc (below_alloc (Below.refl _ _) _) _)
  have H7 := Aside0.mk (show w4.heap[p7]? = some (.cells #[.string nm, .slice none 0 0, .slice none 0 0, .slice none 0 0, .slice none 0 0, .slice none 0 0, .int .i64 ah] 24 (0, 0)) by
   rw [hw4, hp7]
   exact (heap_alloc_old _ _ (by simp)).trans (heap_alloc_new w3 _))
  have H8 := Aside0.mk (show w4.heap[p8]? = some (.cells #[.string nm, .slice A1 n1 c1, .slice none 0 0, .slice A3 n3 c3, .slice A4 n4 c4, .slice A5 n5 c5, .int .i64 ah] 24 (0, 0)) by
   rw [hw4, hp8]
   have := heap_alloc_new (w3.alloc (.cells #[.string nm, .slice none 0 0, .slice none 0 0, .slice none 0 0, .slice none 0 0, .slice none 0 0, .int .i64 ah] 24)) (.cells #[.string nm, .slice A1 n1 c1, .slice none 0 0, .slice A3 n3 c3, .slice A4 n4 c4, .slice A5 n5 c5, .int .i64 ah] 24)
   simpa using this)
  rw [← hw4]
  try rw [← hp8]
  try rw [← hp7]
  have HB4 := Aside0.mk (below_then HB3.out HB3.out.size HB34.out)
  have HP4 := Aside0.mk ((HB34.out.block _ (blk_lt HP3.out)).trans HP3.out)
  clear hp8 hp7 hw4 HB34 k0 k1 k2 k3 k4 k5 k6 hlt3 hne3 HP3 HB3
  refine (HOf.out w4 HB4.out).mono ?_
  rintro e w5 ⟨rfl, hb⟩
  have HB5 := Aside0.mk (below_then HB4.out HB4.out.size hb)
  have HP5 := Aside0.mk ((hb.block _ (blk_lt HP4.out)).trans HP4.out)
  have H75 := Aside0.mk ((hb.block _ (blk_lt H7.out)).trans H7.out)
  have H85 := Aside0.mk ((hb.block _ (blk_lt H8.out)).trans H8.out)
  clear hb HP4 H7 H8 HB4
  obtain ⟨k0, k1, k2, k3, k4, k5, k6⟩ := cells7 HP5.out
  have hlt5 : p3 < w5.heap.size := blk_lt HP5.out
  go_wp2_with (fail)
  obtain ⟨w6, hw6⟩ : ∃ w6, w6 = w5.alloc (.cells #[.int .i64 oy, .int .i64 om, .int .i64 od, .int .i64 owd, .int .i64 omi, .int .i64 ose] 30) := ⟨_, rfl⟩
  have HB56 := Aside0.mk (show Below w5.heap.size w5 w6 by rw [hw6]; exact below_alloc (Below.refl _ _) _)
  rw [← hw6]
  have HB6 := Aside0.mk (below_then HB5.out HB5.out.size HB56.out)
  have H76 := Aside0.mk ((HB56.out.block _ (blk_lt H75.out)).trans H75.out)
  have H86 := Aside0.mk ((HB56.out.block _ (blk_lt H85.out)).trans H85.out)
  clear hw6 HB56 HB5 H75 H85 HP5 k0 k1 k2 k3 k4 k5 k6 hlt5
  refine (HHv2.out w6 HB6.out).mono ?_
  rintro e w7 ⟨rfl, hb⟩
  have HB7 := Aside0.mk (below_then HB6.out HB6.out.size hb)
  have H77 := Aside0.mk ((hb.block _ (blk_lt H76.out)).trans H76.out)
  have H87 := Aside0.mk ((hb.block _ (blk_lt H86.out)).trans H86.out)
  clear hb HB6 H76 H86
  obtain ⟨k0, k1, k2, k3, k4, k5, k6⟩ := cells7 H77.out
  go_wp2_with (fail)
  clear k0 k1 k2 k3 k4 k5 k6
  refine (HHa2.out w7 HB7.out).mono ?_
  rintro e w8 ⟨rfl, hb⟩
  have HB8 := Aside0.mk (below_then HB7.out HB7.out.size hb)
  have H88 := Aside0.mk ((hb.block _ (blk_lt H87.out)).trans H87.out)
  clear hb HB7 H77 H87
  obtain ⟨k0, k1, k2, k3, k4, k5, k6⟩ := cells7 H88.out
  by_cases hoe : oe = 0
  ·subst hoe
   rw [decide_eq_true rfl]
   cases bv with
   | true =>
    go_wp2_with (fail)
    clear k0 k1 k2 k3 k4 k5 k6
    refine (HLe.out (by simp) w8 HB8.out).mono ?_
    rintro e w9 ⟨rfl, hb⟩
    have HB9 := Aside0.mk (below_then HB8.out HB8.out.size hb)
    clear hb
    go_wp2_with (fail)
    refine (HAw.out w9 HB9.out).mono ?_
    rintro e w10 ⟨rfl, hb⟩
    have HB10 := Aside0.mk (below_then HB9.out HB9.out.size hb)
    clear hb
    go_wp2_with (fail)
    go_ret
    exact ⟨rfl, HB10.out⟩
   | false =>
    go_wp2_with (fail)
    refine (HAw.out w8 HB8.out).mono ?_
    rintro e w10 ⟨rfl, hb⟩
    have HB10 := Aside0.mk (below_then HB8.out HB8.out.size hb)
    clear hb
    go_wp2_with (fail)
    go_ret
    exact ⟨rfl, HB10.out⟩
  ·have d1 : (oe == 0) = false := beq_eq_false_iff_ne.2 hoe
   have d2 : decide (oe = 0) = false := decide_eq_false hoe
   rw [d2]
   clear hoe
   cases bv with
   | true =>
    go_wp2_with (fail)
    clear k0 k1 k2 k3 k4 k5 k6
    refine (HLe.out (by simp) w8 HB8.out).mono ?_
    rintro e w9 ⟨rfl, hb⟩
    have HB9 := Aside0.mk (below_then HB8.out HB8.out.size hb)
    clear hb
    go_wp2_with (fail)
    refine (HAw.out w9 HB9.out).mono ?_
    rintro e w10 ⟨rfl, hb⟩
    have HB10 := Aside0.mk (below_then HB9.out HB9.out.size hb)
    clear hb
    go_wp2_with (fail)
    go_ret
    exact ⟨rfl, HB10.out⟩
   | false =>
    go_wp2_with (fail)
    refine (HAw.out w8 HB8.out).mono ?_
    rintro e w10 ⟨rfl, hb⟩
    have HB10 := Aside0.mk (below_then HB8.out HB8.out.size hb)
    clear hb
    go_wp2_with (fail)
    go_ret
    exact ⟨rfl, HB10.out⟩
 ·have HLe := Aside0.mk (HL2.out (by simp) (by simp))
  clear HL0 HL1 HL2 HL3 HL4
  go_wp2_with (fail)
  obtain ⟨p8, hp8⟩ : ∃ p, p = w3.heap.size + 1 := ⟨_, rfl⟩
  obtain ⟨p7, hp7⟩ : ∃ p, p = w3.heap.size := ⟨_, rfl⟩
  obtain ⟨w4, hw4⟩ : ∃ w4, w4 = (w3.alloc (.cells #[.string nm, .slice none 0 0, .slice none 0 0, .slice none 0 0, .slice none 0 0, .slice none 0 0, .int .i64 ah] 24)).alloc (.cells #[.string nm, .slice A1 n1 c1, .slice A2 n2 c2, .slice none 0 0, .slice A4 n4 c4, .slice A5 n5 c5, .int .i64 ah] 24) := ⟨_, rfl⟩
  have HB34 := Aside0.mk (show Below w3.heap.size w3 w4 by rw [hw4]; exact below_alloc (below_alloc (Below.refl _ _) _) _)
  have H7 := Aside0.mk (show w4.heap[p7]? = some (.cells #[.string nm, .slice none 0 0, .slice none 0 0, .slice none 0 0, .slice none 0 0, .slice none 0 0, .int .i64 ah] 24 (0, 0)) by
   rw [hw4, hp7]
   exact (heap_alloc_old _ _ (by simp)).trans (heap_alloc_new w3 _))
  have H8 := Aside0.mk (show w4.heap[p8]? = some (.cells #[.string nm, .slice A1 n1 c1, .slice A2 n2 c2, .slice none 0 0, .slice A4 n4 c4, .slice A5 n5 c5, .int .i64 ah] 24 (0, 0)) by
   rw [hw4, hp8]
   have := heap_alloc_new (w3.alloc (.cells #[.string nm, .slice none 0 0, .slice none 0 0, .slice none 0 0, .slice none 0 0, .slice none 0 0, .int .i64 ah] 24)) (.cells #[.string nm, .slice A1 n1 c1, .slice A2 n2 c2, .slice none 0 0, .slice A4 n4 c4, .slice A5 n5 c5, .int .i64 ah] 24)
   simpa using this)
  rw [← hw4]
  try rw [← hp8]
  try rw [← hp7]
  have HB4 := Aside0.mk (below_then HB3.out HB3.out.size HB34.out)
  have HP4 := Aside0.mk ((HB34.out.block _ (blk_lt HP3.out)).trans HP3.out)
  clear hp8 hp7 hw4 HB34 k0 k1 k2 k3 k4 k5 k6 hlt3 hne3 HP3 HB3
  refine (HOf.out w4 HB4.out).mono ?_
  rintro e w5 ⟨rfl, hb⟩
  have HB5 := Aside0.mk (below_then HB4.out HB4.out.size hb)
  have HP5 := Aside0.mk ((hb.block _ (blk_lt HP4.out)).trans HP4.out)
  have H75 := Aside0.mk ((hb.block _ (blk_lt H7.out)).trans H7.out)
  have H85 := Aside0.mk ((hb.block _ (blk_lt H8.out)).trans H8.out)
  clear hb HP4 H7 H8 HB4
  obtain ⟨k0, k1, k2, k3, k4, k5, k6⟩ := cells7 HP5.out
  have hlt5 : p3 < w5.heap.size := blk_lt HP5.out
  go_wp2_with (fail)
  obtain ⟨w6, hw6⟩ : ∃ w6, w6 = w5.alloc (.cells #[.int .i64 oy, .int .i64 om, .int .i64 od, .int .i64 owd, .int .i64 omi, .int .i64 ose] 30) := ⟨_, rfl⟩
  have HB56 := Aside0.mk (show Below w5.heap.size w5 w6 by rw [hw6]; exact below_alloc (Below.refl _ _) _)
  rw [← hw6]
  have HB6 := Aside0.mk (below_then HB5.out HB5.out.size HB56.out)
  have H76 := Aside0.mk ((HB56.out.block _ (blk_lt H75.out)).trans H75.out)
  have H86 := Aside0.mk ((HB56.out.block _ (blk_lt H85.out)).trans H85.out)
  clear hw6 HB56 HB5 H75 H85 HP5 k0 k1 k2 k3 k4 k5 k6 hlt5
  refine (HHv2.out w6 HB6.out).mono ?_
  rintro e w7 ⟨rfl, hb⟩
  have HB7 := Aside0.mk (below_then HB6.out HB6.out.size hb)
  have H77 := Aside0.mk ((hb.block _ (blk_lt H76.out)).trans H76.out)
  have H87 := Aside0.mk ((hb.block _ (blk_lt H86.out)).trans H86.out)
  clear hb HB6 H76 H86
  obtain ⟨k0, k1, k2, k3, k4, k5, k6⟩ := cells7 H77.out
  go_wp2_with (fail)
  clear k0 k1 k2 k3 k4 k5 k6
  refine (HHa2.out w7 HB7.out).mono ?_
  rintro e w8 ⟨rfl, hb⟩
  have HB8 := Aside0.mk (below_then HB7.out HB7.out.size hb)
  have H88 := Aside0.mk ((hb.block _ (blk_lt H87.out)).trans H87.out)
  clear hb HB7 H77 H87
  obtain ⟨k0, k1, k2, k3, k4, k5, k6⟩ := cells7 H88.out
  by_cases hoe : oe = 0
  ·subst hoe
   rw [decide_eq_true rfl]
   cases bv with
   | true =>
    go_wp2_with (fail)
    clear k0 k1 k2 k3 k4 k5 k6
    refine (HLe.out (by simp) w8 HB8.out).mono ?_
    rintro e w9 ⟨rfl, hb⟩
    have HB9 := Aside0.mk (below_then HB8.out HB8.out.size hb)
    clear hb
    go_wp2_with (fail)
    refine (HAw.out w9 HB9.out).mono ?_
    rintro e w10 ⟨rfl, hb⟩
    have HB10 := Aside0.mk (below_then HB9.out HB9.out.size hb)
    clear hb
    go_wp2_with (fail)
    go_ret
    exact ⟨rfl, HB10.out⟩
   | false =>
    go_wp2_with (fail)
    refine (HAw.out w8 HB8.out).mono ?_
    rintro e w10 ⟨rfl, hb⟩
    have HB10 := Aside0.mk (below_then HB8.out HB8.out.size hb)
    clear hb
    go_wp2_with (fail)
    go_ret
    exact ⟨rfl, HB10.out⟩
  ·have d1 : (oe == 0) = false := beq_eq_false_iff_ne.2 hoe
   have d2 : decide (oe = 0) = false := decide_eq_false hoe
   rw [d2]
   clear hoe
   cases bv with
   | true =>
    go_wp2_with (fail)
    clear k0 k1 k2 k3 k4 k5 k6
    refine (HLe.out (by simp) w8 HB8.out).mono ?_
    rintro e w9 ⟨rfl, hb⟩
    have HB9 := Aside0.mk (below_then HB8.out HB8.out.size hb)
    clear hb
    go_wp2_with (fail)
    refine (HAw.out w9 HB9.out).mono ?_
    rintro e w10 ⟨rfl, hb⟩
    have HB10 := Aside0.mk (below_then HB9.out HB9.out.size hb)
    clear hb
    go_wp2_with (fail)
    go_ret
    exact ⟨rfl, HB10.out⟩
   | false =>
    go_wp2_with (fail)
    refine (HAw.out w8 HB8.out).mono ?_
    rintro e w10 ⟨rfl, hb⟩
    have HB10 := Aside0.mk (below_then HB8.out HB8.out.size hb)
    clear hb
    go_wp2_with (fail)
    go_ret
    exact ⟨rfl, HB10.out⟩
 ·have HLe := Aside0.mk (HL3.out (by simp) (by simp))
  clear HL0 HL1 HL2 HL3 HL4
  go_wp2_with (fail)
  obtain ⟨p8, hp8⟩ : ∃ p, p = w3.heap.size + 1 := ⟨_, rfl⟩
  obtain ⟨p7, hp7⟩ : ∃ p, p = w3.heap.size := ⟨_, rfl⟩
  obtain ⟨w4, hw4⟩ : ∃ w4, w4 = (w3.alloc (.cells #[.string nm, .slice none 0 0, .slice none 0 0, .slice none 0 0, .slice none 0 0, .slice none 0 0, .int .i64 ah] 24)).alloc (.cells #[.string nm, .slice A1 n1 c1, .slice A2 n2 c2, .slice A3 n3 c3, .slice none 0 0, .slice A5 n5 c5, .int .i64 ah] 24) := ⟨_, rfl⟩
  have HB34 := Aside0.mk (show Below w3.heap.size w3 w4 by rw [hw4]; exact below_alloc (below_alloc (Below.refl _ _) _) _)
  have H7 := Aside0.mk (show w4.heap[p7]? = some (.cells #[.string nm, .slice none 0 0, .slice none 0 0, .slice none 0 0, .slice none 0 0, .slice none 0 0, .int .i64 ah] 24 (0, 0)) by
   rw [hw4, hp7]
   exact (heap_alloc_old _ _ (by simp)).trans (heap_alloc_new w3 _))
  have H8 := Aside0.mk (show w4.heap[p8]? = some (.cells #[.string nm, .slice A1 n1 c1, .slice A2 n2 c2, .slice A3 n3 c3, .slice none 0 0, .slice A5 n5 c5, .int .i64 ah] 24 (0, 0)) by
   rw [hw4, hp8]
   have := heap_alloc_new (w3.alloc (.cells #[.string nm, .slice none 0 0, .slice none 0 0, .slice none 0 0, .slice none 0 0, .slice none 0 0, .int .i64 ah] 24)) (.cells #[.string nm, .slice A1 n1 c1, .slice A2 n2 c2, .slice A3 n3 c3, .slice none 0 0, .slice A5 n5 c5, .int .i64 ah] 24)
   simpa using this)
  rw [← hw4]
  try rw [← hp8]
  try rw [← hp7]
  have HB4 := Aside0.mk (below_then HB3.out HB3.out.size HB34.out)
  have HP4 := Aside0.mk ((HB34.out.block _ (blk_lt HP3.out)).trans HP3.out)
  clear hp8 hp7 hw4 HB34 k0 k1 k2 k3 k4 k5 k6 hlt3 hne3 HP3 HB3
  refine (HOf.out w4 HB4.out).mono ?_
  rintro e w5 ⟨rfl, hb⟩
  have HB5 := Aside0.mk (below_then HB4.out HB4.out.size hb)
  have HP5 := Aside0.mk ((hb.block _ (blk_lt HP4.out)).trans HP4.out)
  have H75 := Aside0.mk ((hb.block _ (blk_lt H7.out)).trans H7.out)
  have H85 := Aside0.mk ((hb.block _ (blk_lt H8.out)).trans H8.out)
  clear hb HP4 H7 H8 HB4
  obtain ⟨k0, k1, k2, k3, k4, k5, k6⟩ := cells7 HP5.out
  have hlt5 : p3 < w5.heap.size := blk_lt HP5.out
  go_wp2_with (fail)
  obtain ⟨w6, hw6⟩ : ∃ w6, w6 = w5.alloc (.cells #[.int .i64 oy, .int .i64 om, .int .i64 od, .int .i64 owd, .int .i64 omi, .int .i64 ose] 30) := ⟨_, rfl⟩
  have HB56 := Aside0.mk (show Below w5.heap.size w5 w6 by rw [hw6]; exact below_alloc (Below.refl _ _) _)
  rw [← hw6]
  have HB6 := Aside0.mk (below_then HB5.out HB5.out.size HB56.out)
  have H76 := Aside0.mk ((HB56.out.block _ (blk_lt H75.out)).trans H75.out)
  have H86 := Aside0.mk ((HB56.out.block _ (blk_lt H85.out)).trans H85.out)
  clear hw6 HB56 HB5 H75 H85 HP5 k0 k1 k2 k3 k4 k5 k6 hlt5
  refine (HHv2.out w6 HB6.out).mono ?_
  rintro e w7 ⟨rfl, hb⟩
  have HB7 := Aside0.mk (below_then HB6.out HB6.out.size hb)
  have H77 := Aside0.mk ((hb.block _ (blk_lt H76.out)).trans H76.out)
  have H87 := Aside0.mk ((hb.block _ (blk_lt H86.out)).trans H86.out)
  clear hb HB6 H76 H86
  obtain ⟨k0, k1, k2, k3, k4, k5, k6⟩ := cells7 H77.out
  go_wp2_with (fail)
  clear k0 k1 k2 k3 k4 k5 k6
  refine (HHa2.out w7 HB7.out).mono ?_
  rintro e w8 ⟨rfl, hb⟩
  have HB8 := Aside0.mk (below_then HB7.out HB7.out.size hb)
  have H88 := Aside0.mk ((hb.block _ (blk_lt H87.out)).trans H87.out)
  clear hb HB7 H77 H87
  obtain ⟨k0, k1, k2, k3, k4, k5, k6⟩ := cells7 H88.out
  by_cases hoe : oe = 0
  ·subst hoe
   rw [decide_eq_true rfl]
   cases bv with
   | true =>
    go_wp2_with (fail)
    clear k0 k1 k2 k3 k4 k5 k6
    refine (HLe.out (by simp) w8 HB8.out).mono ?_
    rintro e w9 ⟨rfl, hb⟩
    have HB9 := Aside0.mk (below_then HB8.out HB8.out.size hb)
    clear hb
    go_wp2_with (fail)
    refine (HAw.out w9 HB9.out).mono ?_
    rintro e w10 ⟨rfl, hb⟩
    have HB10 := Aside0.mk (below_then HB9.out HB9.out.size hb)
    clear hb
    go_wp2_with (fail)
    go_ret
    exact ⟨rfl, HB10.out⟩
   | false =>
    go_wp2_with (fail)
    refine (HAw.out w8 HB8.out).mono ?_
    rintro e w10 ⟨rfl, hb⟩
    have HB10 := Aside0.mk (below_then HB8.out HB8.out.size hb)
    clear hb
    go_wp2_with (fail)
    go_ret
    exact ⟨rfl, HB10.out⟩
  ·have d1 : (oe == 0) = false := beq_eq_false_iff_ne.2 hoe
   have d2 : decide (oe = 0) = false := decide_eq_false hoe
   rw [d2]
   clear hoe
   cases bv with
   | true =>
    go_wp2_with (fail)
    clear k0 k1 k2 k3 k4 k5 k6
    refine (HLe.out (by simp) w8 HB8.out).mono ?_
    rintro e w9 ⟨rfl, hb⟩
    have HB9 := Aside0.mk (below_then HB8.out HB8.out.size hb)
    clear hb
    go_wp2_with (fail)
    refine (HAw.out w9 HB9.out).mono ?_
    rintro e w10 ⟨rfl, hb⟩
    have HB10 := Aside0.mk (below_then HB9.out HB9.out.size hb)
    clear hb
    go_wp2_with (fail)
    go_ret
    exact ⟨rfl, HB10.out⟩
   | false =>
    go_wp2_with (fail)
    refine (HAw.out w8 HB8.out).mono ?_
    rintro e w10 ⟨rfl, hb⟩
    have HB10 := Aside0.mk (below_then HB8.out HB8.out.size hb)
    clear hb
    go_wp2_with (fail)
    go_ret
    exact ⟨rfl, HB10.out⟩
 ·have HLe := Aside0.mk (HL4.out (by simp) (by simp))
  clear HL0 HL1 HL2 HL3 HL4
  go_wp2_with (fail)
  obtain ⟨p8, hp8⟩ : ∃ p, p = w3.heap.size + 1 := ⟨_, rfl⟩
  obtain ⟨p7, hp7⟩ : ∃ p, p = w3.heap.size := ⟨_, rfl⟩
  obtain ⟨w4, hw4⟩ : ∃ w4, w4 = (w3.alloc (.cells #[.string nm, .slice none 0 0, .slice none 0 0, .slice none 0 0, .slice none 0 0, .slice none 0 0, .int .i64 ah] 24)).alloc (.cells #[.string nm, .slice A1 n1 c1, .slice A2 n2 c2, .slice A3 n3 c3, .slice A4 n4 c4, .slice none 0 0, .int .i64 ah] 24) := ⟨_, rfl⟩
  have HB34 := Aside0.mk (show Below w3.heap.size w3 w4 by rw [hw4]; exact below_alloc (below_alloc (Below.refl _ _) _) _)
  have H7 := Aside0.mk (show w4.heap[p7]? = some (.cells #[.string nm, .slice none 0 0, .slice none 0 0, .slice none 0 0, .slice none 0 0, .slice none 0 0, .int .i64 ah] 24 (0, 0)) by
   rw [hw4, hp7]
   exact (heap_alloc_old _ _ (by simp)).trans (heap_alloc_new w3 _))
  have H8 := Aside0.mk (show w4.heap[p8]? = some (.cells #[.string nm, .slice A1 n1 c1, .slice A2 n2 c2, .slice A3 n3 c3, .slice A4 n4 c4, .slice none 0 0, .int .i64 ah] 24 (0, 0)) by
   rw [hw4, hp8]
   have := heap_alloc_new (w3.alloc (.cells #[.string nm, .slice none 0 0, .slice none 0 0, .slice none 0 0, .slice none 0 0, .slice none 0 0, .int .i64 ah] 24)) (.cells #[.string nm, .slice A1 n1 c1, .slice A2 n2 c2, .slice A3 n3 c3, .slice A4 n4 c4, .slice none 0 0, .int .i64 ah] 24)
   simpa using this)
  rw [← hw4]
  try rw [← hp8]
  try rw [← hp7]
  have HB4 := Aside0.mk (below_then HB3.out HB3.out.size HB34.out)
  have HP4 := Aside0.mk ((HB34.out.block _ (blk_lt HP3.out)).trans HP3.out)
  clear hp8 hp7 hw4 HB34 k0 k1 k2 k3 k4 k5 k6 hlt3 hne3 HP3 HB3
  refine (HOf.out w4 HB4.out).mono ?_
  rintro e w5 ⟨rfl, hb⟩
  have HB5 := Aside0.mk (below_then HB4.out HB4.out.size hb)
  have HP5 := Aside0.mk ((hb.block _ (blk_lt HP4.out)).trans HP4.out)
  have H75 := Aside0.mk ((hb.block _ (blk_lt H7.out)).trans H7.out)
  have H85 := Aside0.mk ((hb.block _ (blk_lt H8.out)).trans H8.out)
  clear hb HP4 H7 H8 HB4
  obtain ⟨k0, k1, k2, k3, k4, k5, k6⟩ := cells7 HP5.out
  have hlt5 : p3 < w5.heap.size := blk_lt HP5.out
  go_wp2_with (fail)
  obtain ⟨w6, hw6⟩ : ∃ w6, w6 = w5.alloc (.cells #[.int .i64 oy, .int .i64 om, .int .i64 od, .int .i64 owd, .int .i64 omi, .int .i64 ose] 30) := ⟨_, rfl⟩
  have HB56 := Aside0.mk (show Below w5.heap.size w5 w6 by rw [hw6]; exact below_alloc (Below.refl _ _) _)
  rw [← hw6]
  have HB6 := Aside0.mk (below_then HB5.out HB5.out.size HB56.out)
  have H76 := Aside0.mk ((HB56.out.block _ (blk_lt H75.out)).trans H75.out)
  have H86 := Aside0.mk ((HB56.out.block _ (blk_lt H85.out)).trans H85.out)
  clear hw6 HB56 HB5 H75 H85 HP5 k0 k1 k2 k3 k4 k5 k6 hlt5
  refine (HHv2.out w6 HB6.out).mono ?_
  rintro e w7 ⟨rfl, hb⟩
  have HB7 := Aside0.mk (below_then HB6.out HB6.out.size hb)
  have H77 := Aside0.mk ((hb.block _ (blk_lt H76.out)).trans H76.out)
  have H87 := Aside0.mk ((hb.block _ (blk_lt H86.out)).trans H86.out)
  clear hb HB6 H76 H86
  obtain ⟨k0, k1, k2, k3, k4, k5, k6⟩ := cells7 H77.out
  go_wp2_with (fail)
  clear k0 k1 k2 k3 k4 k5 k6
  refine (HHa2.out w7 HB7.out).mono ?_
  rintro e w8 ⟨rfl, hb⟩
  have HB8 := Aside0.mk (below_then HB7.out HB7.out.size hb)
  have H88 := Aside0.mk ((hb.block _ (blk_lt H87.out)).trans H87.out)
  clear hb HB7 H77 H87
  obtain ⟨k0, k1, k2, k3, k4, k5, k6⟩ := cells7 H88.out
  by_cases hoe : oe = 0
  ·subst hoe
   rw [decide_eq_true rfl]
   cases bv with
   | true =>
    go_wp2_with (fail)
    clear k0 k1 k2 k3 k4 k5 k6
    refine (HLe.out (by simp) w8 HB8.out).mono ?_
    rintro e w9 ⟨rfl, hb⟩
    have HB9 := Aside0.mk (below_then HB8.out HB8.out.size hb)
    clear hb
    go_wp2_with (fail)
    refine (HAw.out w9 HB9.out).mono ?_
    rintro e w10 ⟨rfl, hb⟩
    have HB10 := Aside0.mk (below_then HB9.out HB9.out.size hb)
    clear hb
    go_wp2_with (fail)
    go_ret
    exact ⟨rfl, HB10.out⟩
   | false =>
    go_wp2_with (fail)
    refine (HAw.out w8 HB8.out).mono ?_
    rintro e w10 ⟨rfl, hb⟩
    have HB10 := Aside0.mk (below_then HB8.out HB8.out.size hb)
    clear hb
    go_wp2_with (fail)
    go_ret
    exact ⟨rfl, HB10.out⟩
  ·have d1 : (oe == 0) = false := beq_eq_false_iff_ne.2 hoe
   have d2 : decide (oe = 0) = false := decide_eq_false hoe
   rw [d2]
   clear hoe
   cases bv with
   | true =>
    go_wp2_with (fail)
    clear k0 k1 k2 k3 k4 k5 k6
    refine (HLe.out (by simp) w8 HB8.out).mono ?_
    rintro e w9 ⟨rfl, hb⟩
    have HB9 := Aside0.mk (below_then HB8.out HB8.out.size hb)
    clear hb
    go_wp2_with (fail)
    refine (HAw.out w9 HB9.out).mono ?_
    rintro e w10 ⟨rfl, hb⟩
    have HB10 := Aside0.mk (below_then HB9.out HB9.out.size hb)
    clear hb
    go_wp2_with (fail)
    go_ret
    exact ⟨rfl, HB10.out⟩
   | false =>
    go_wp2_with (fail)
    refine (HAw.out w8 HB8.out).mono ?_
    rintro e w10 ⟨rfl, hb⟩
    have HB10 := Aside0.mk (below_then HB8.out HB8.out.size hb)
    clear hb
    go_wp2_with (fail)
    go_ret
    exact ⟨rfl, HB10.out⟩
end Go.Proofs.YtgipdacenppmdaaDoor.G
