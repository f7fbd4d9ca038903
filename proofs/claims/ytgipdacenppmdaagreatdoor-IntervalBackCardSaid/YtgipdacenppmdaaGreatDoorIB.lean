/- Has and Next. -/
import Derived.Test.YtgipdacenppmdaaGreatDoorIH
set_option linter.unusedVariables false
set_option linter.unusedSimpArgs false
namespace Go.Proofs.YtgipdacenppmdaaGreatDoor.G
open Go.RowKit Go.Shelf Go.Lib Go.Sort Go.Proofs.YtgipdacenppmdaaGreatDoorW.PrintWords Go.Proofs.YtgipdacenppmdaaGreatDoor.P
def IHas.f (a0_0 : ByteArray) (l0_1 : List (S55)) (l0_2 : List (S55)) (l0_3 : List (S55)) (l0_4 : List (S55)) (l0_5 : List (S55)) (a0_6 : Int) (a1 : Int) : Option (Bool) := (ICheck.f a0_0 l0_1 l0_2 l0_3 l0_4 l0_5 a0_6).bind fun e => some (decide (e = 0) && atB l0_1 l0_2 l0_3 l0_4 l0_5 a0_6 a1)
set_option maxHeartbeats 8000000 in
set_option maxRecDepth 100000 in
theorem IHas.calls (a0_0 : ByteArray) (A0_1 : Option Addr) (c0_1 : Nat) (l0_1 : List (S55)) (A0_2 : Option Addr) (c0_2 : Nat) (l0_2 : List (S55)) (A0_3 : Option Addr) (c0_3 : Nat) (l0_3 : List (S55)) (A0_4 : Option Addr) (c0_4 : Nat) (l0_4 : List (S55)) (A0_5 : Option Addr) (c0_5 : Nat) (l0_5 : List (S55)) (a0_6 : Int) (a1 : Int) (r : Bool) (w : World) (hr0_1 : Kd.C k55 w A0_1 l0_1.length l0_1) (hc0_1 : l0_1.length ≤ c0_1) (hr0_2 : Kd.C k55 w A0_2 l0_2.length l0_2) (hc0_2 : l0_2.length ≤ c0_2) (hr0_3 : Kd.C k55 w A0_3 l0_3.length l0_3) (hc0_3 : l0_3.length ≤ c0_3) (hr0_4 : Kd.C k55 w A0_4 l0_4.length l0_4) (hc0_4 : l0_4.length ≤ c0_4) (hr0_5 : Kd.C k55 w A0_5 l0_5.length l0_5) (hc0_5 : l0_5.length ≤ c0_5) (hT : TabS w) (h : IHas.f a0_0 l0_1 l0_2 l0_3 l0_4 l0_5 a0_6 a1 = some r) :
  Calls Tryz.prog 12 #[.agg #[.string a0_0, .slice A0_1 l0_1.length c0_1, .slice A0_2 l0_2.length c0_2, .slice A0_3 l0_3.length c0_3, .slice A0_4 l0_4.length c0_4, .slice A0_5 l0_5.length c0_5, .int .i64 a0_6], .int .i64 a1] w fun e w' => e = .returned (.bool r) ∧ Below w.heap.size w w' := by
 unfold IHas.f at h
 obtain ⟨ec, hec, h'⟩ := Option.bind_eq_some_iff.1 h
 have HEC := Aside0.mk hec
 have HT := Aside0.mk hT
 have HR := Aside0.mk (Option.some.inj h')
 clear h h' hec hT
 have HC1 := Aside0.mk hr0_1
 have HC2 := Aside0.mk hr0_2
 have HC3 := Aside0.mk hr0_3
 have HC4 := Aside0.mk hr0_4
 have HC5 := Aside0.mk hr0_5
 clear hr0_1 hr0_2 hr0_3 hr0_4 hr0_5
 have HCK := Aside0.mk (show ∀ W, Below w.heap.size w W → Calls Tryz.prog 10 #[.agg #[.string a0_0, .slice A0_1 l0_1.length c0_1, .slice A0_2 l0_2.length c0_2, .slice A0_3 l0_3.length c0_3, .slice A0_4 l0_4.length c0_4, .slice A0_5 l0_5.length c0_5, .int .i64 a0_6]] W _ from fun W hW => ICheck.calls a0_0 A0_1 c0_1 l0_1 A0_2 c0_2 l0_2 A0_3 c0_3 l0_3 A0_4 c0_4 l0_4 A0_5 c0_5 l0_5 a0_6 _ W (Kd.C_below HC1.out hW) hc0_1 (Kd.C_below HC2.out hW) hc0_2 (Kd.C_below HC3.out hW) hc0_3 (Kd.C_below HC4.out hW) hc0_4 (Kd.C_below HC5.out hW) hc0_5 HEC.out)
 have HAT := Aside0.mk (show ∀ (bx : Nat) W, Below w.heap.size w W → W.heap[bx]? = some (.cells #[.string a0_0, .slice A0_1 l0_1.length c0_1, .slice A0_2 l0_2.length c0_2, .slice A0_3 l0_3.length c0_3, .slice A0_4 l0_4.length c0_4, .slice A0_5 l0_5.length c0_5, .int .i64 a0_6] 24 (0, 0)) → Calls Tryz.prog 31 #[.pointer (some ⟨bx, 0, none⟩), .int .i64 a1] W _ from fun bx W hW hbk => at_any bx a0_0 A0_1 _ c0_1 l0_1 A0_2 _ c0_2 l0_2 A0_3 _ c0_3 l0_3 A0_4 _ c0_4 l0_4 A0_5 _ c0_5 l0_5 a0_6 a1 W (HT.out.below hW) hbk ⟨rfl, Kd.C_below HC1.out hW⟩ ⟨rfl, Kd.C_below HC2.out hW⟩ ⟨rfl, Kd.C_below HC3.out hW⟩ ⟨rfl, Kd.C_below HC4.out hW⟩ ⟨rfl, Kd.C_below HC5.out hW⟩)
 clear HC1 HC2 HC3 HC4 HC5 hc0_1 hc0_2 hc0_3 hc0_4 hc0_5
 obtain ⟨n1, hn1⟩ : ∃ n, n = l0_1.length := ⟨_, rfl⟩
 obtain ⟨n2, hn2⟩ : ∃ n, n = l0_2.length := ⟨_, rfl⟩
 obtain ⟨n3, hn3⟩ : ∃ n, n = l0_3.length := ⟨_, rfl⟩
 obtain ⟨n4, hn4⟩ : ∃ n, n = l0_4.length := ⟨_, rfl⟩
 obtain ⟨n5, hn5⟩ : ∃ n, n = l0_5.length := ⟨_, rfl⟩
 rw [← hn1, ← hn2, ← hn3, ← hn4, ← hn5] at HCK HAT ⊢
 obtain ⟨ab, hab⟩ : ∃ ab, ab = atB l0_1 l0_2 l0_3 l0_4 l0_5 a0_6 a1 := ⟨_, rfl⟩
 rw [← hab] at HAT HR
 clear hn1 hn2 hn3 hn4 hn5 hab HEC HT
 go_enter Tryz.func12, Tryz.ntmps12
 go_wp2_with (fail)
 obtain ⟨bx, hbx⟩ : ∃ bx, bx = w.heap.size := ⟨_, rfl⟩
 obtain ⟨w1, hw1⟩ : ∃ w1, w1 = w.alloc (.cells #[.string a0_0, .slice A0_1 n1 c0_1, .slice A0_2 n2 c0_2, .slice A0_3 n3 c0_3, .slice A0_4 n4 c0_4, .slice A0_5 n5 c0_5, .int .i64 a0_6] 24) := ⟨_, rfl⟩
 have HBK := Aside0.mk (show w1.heap[bx]? = some (.cells #[.string a0_0, .slice A0_1 n1 c0_1, .slice A0_2 n2 c0_2, .slice A0_3 n3 c0_3, .slice A0_4 n4 c0_4, .slice A0_5 n5 c0_5, .int .i64 a0_6] 24 (0, 0)) by rw [hw1, hbx]; exact heap_alloc_new w _)
 have HB1 := Aside0.mk (show Below w.heap.size w w1 by rw [hw1]; exact below_alloc (Below.refl _ _) _)
 rw [← hw1, ← hbx]
 clear hw1 hbx
 refine (HCK.out w1 HB1.out).mono ?_
 rintro e w2 ⟨rfl, hb⟩
 have HB2 := Aside0.mk (below_then HB1.out HB1.out.size hb)
 have HBK2 := Aside0.mk ((hb.block _ (blk_lt HBK.out)).trans HBK.out)
 have hr := HR.out
 clear hb HCK HR
 by_cases he : ec = 0
 ·subst he
  rw [decide_eq_true rfl, Bool.true_and] at hr
  subst hr
  go_wp2_with (fail)
  refine (HAT.out bx w2 HB2.out HBK2.out).mono ?_
  rintro e w3 ⟨rfl, hb⟩
  have HB3 := Aside0.mk (below_then HB2.out HB2.out.size hb)
  clear hb
  go_wp2_with (fail)
  go_ret
  exact ⟨rfl, HB3.out⟩
 ·rw [decide_eq_false he, Bool.false_and] at hr
  subst hr
  have d1 : decide (ec = 0) = false := decide_eq_false he
  have d2 : (ec == 0) = false := beq_eq_false_iff_ne.2 he
  go_wp2_with (fail)
  go_ret
  exact ⟨rfl, HB2.out⟩
def nextC (p : Int → Bool) : Nat → Nat → Int × Bool
 | 0, _ => (0, false)
 | d + 1, m => if p (m : Int) = true then ((m : Int), true) else nextC p d (m + 1)
def nextBad (s most : Int) : Bool := decide (most < 0 ∨ 100000 < most ∨ s < -1125899906842624 ∨ 1125899906842624 < s)
def INext.f (a0_0 : ByteArray) (l0_1 : List (S55)) (l0_2 : List (S55)) (l0_3 : List (S55)) (l0_4 : List (S55)) (l0_5 : List (S55)) (a0_6 : Int) (a1 : Int) (a2 : Int) : Option (Int × Bool) := if nextBad a1 a2 = true then some (0, false) else (ICheck.f a0_0 l0_1 l0_2 l0_3 l0_4 l0_5 a0_6).bind fun e => some (if e = 0 then nextC (fun m => atB l0_1 l0_2 l0_3 l0_4 l0_5 a0_6 (a1 + 60 * m)) (a2 + 1).toNat 0 else (0, false))
set_option maxHeartbeats 8000000 in
set_option maxRecDepth 100000 in
theorem INext.calls (a0_0 : ByteArray) (A0_1 : Option Addr) (c0_1 : Nat) (l0_1 : List (S55)) (A0_2 : Option Addr) (c0_2 : Nat) (l0_2 : List (S55)) (A0_3 : Option Addr) (c0_3 : Nat) (l0_3 : List (S55)) (A0_4 : Option Addr) (c0_4 : Nat) (l0_4 : List (S55)) (A0_5 : Option Addr) (c0_5 : Nat) (l0_5 : List (S55)) (a0_6 : Int) (a1 : Int) (a2 : Int) (r1 : Int) (r2 : Bool) (w : World) (hr0_1 : Kd.C k55 w A0_1 l0_1.length l0_1) (hc0_1 : l0_1.length ≤ c0_1) (hr0_2 : Kd.C k55 w A0_2 l0_2.length l0_2) (hc0_2 : l0_2.length ≤ c0_2) (hr0_3 : Kd.C k55 w A0_3 l0_3.length l0_3) (hc0_3 : l0_3.length ≤ c0_3) (hr0_4 : Kd.C k55 w A0_4 l0_4.length l0_4) (hc0_4 : l0_4.length ≤ c0_4) (hr0_5 : Kd.C k55 w A0_5 l0_5.length l0_5) (hc0_5 : l0_5.length ≤ c0_5) (hT : TabS w) (h : INext.f a0_0 l0_1 l0_2 l0_3 l0_4 l0_5 a0_6 a1 a2 = some (r1, r2)) :
  Calls Tryz.prog 19 #[.agg #[.string a0_0, .slice A0_1 l0_1.length c0_1, .slice A0_2 l0_2.length c0_2, .slice A0_3 l0_3.length c0_3, .slice A0_4 l0_4.length c0_4, .slice A0_5 l0_5.length c0_5, .int .i64 a0_6], .int .i64 a1, .int .i64 a2] w fun e w' => e = .returned (.tuple #[.int .i64 r1, .bool r2]) ∧ Below w.heap.size w w' := by
 unfold INext.f at h
 by_cases c0 : a2 < 0
 ·rw [if_pos (show nextBad a1 a2 = true by unfold nextBad; exact decide_eq_true (by omega))] at h
  have h' := Option.some.inj h
  simp only [Prod.mk.injEq] at h'
  obtain ⟨rfl, rfl⟩ := h'
  have d0a : decide (a2 < 0) = true := decide_eq_true c0
  clear h hr0_1 hr0_2 hr0_3 hr0_4 hr0_5 hc0_1 hc0_2 hc0_3 hc0_4 hc0_5 hT
  go_enter Tryz.func19, Tryz.ntmps19
  go_wp2_with (fail)
  go_ret2
  exact ⟨rfl, below_alloc (Below.refl _ _) _⟩
 ·have d0a : decide (a2 < 0) = false := decide_eq_false c0
  by_cases c1 : 100000 < a2
  ·rw [if_pos (show nextBad a1 a2 = true by unfold nextBad; exact decide_eq_true (by omega))] at h
   have h' := Option.some.inj h
   simp only [Prod.mk.injEq] at h'
   obtain ⟨rfl, rfl⟩ := h'
   have d1a : decide (a2 > 100000) = true := decide_eq_true c1
   have d1b : decide (100000 < a2) = true := decide_eq_true c1
   clear h hr0_1 hr0_2 hr0_3 hr0_4 hr0_5 hc0_1 hc0_2 hc0_3 hc0_4 hc0_5 hT
   go_enter Tryz.func19, Tryz.ntmps19
   go_wp2_with (fail)
   go_ret2
   exact ⟨rfl, below_alloc (Below.refl _ _) _⟩
  ·have d1a : decide (a2 > 100000) = false := decide_eq_false c1
   have d1b : decide (100000 < a2) = false := decide_eq_false c1
   by_cases c2 : a1 < -1125899906842624
   ·rw [if_pos (show nextBad a1 a2 = true by unfold nextBad; exact decide_eq_true (by omega))] at h
    have h' := Option.some.inj h
    simp only [Prod.mk.injEq] at h'
    obtain ⟨rfl, rfl⟩ := h'
    have d2a : decide (a1 < -1125899906842624) = true := decide_eq_true c2
    clear h hr0_1 hr0_2 hr0_3 hr0_4 hr0_5 hc0_1 hc0_2 hc0_3 hc0_4 hc0_5 hT
    go_enter Tryz.func19, Tryz.ntmps19
    go_wp2_with (fail)
    go_ret2
    exact ⟨rfl, below_alloc (Below.refl _ _) _⟩
   ·have d2a : decide (a1 < -1125899906842624) = false := decide_eq_false c2
    by_cases c3 : 1125899906842624 < a1
    ·rw [if_pos (show nextBad a1 a2 = true by unfold nextBad; exact decide_eq_true (by omega))] at h
     have h' := Option.some.inj h
     simp only [Prod.mk.injEq] at h'
     obtain ⟨rfl, rfl⟩ := h'
     have d3a : decide (a1 > 1125899906842624) = true := decide_eq_true c3
     have d3b : decide (1125899906842624 < a1) = true := decide_eq_true c3
     clear h hr0_1 hr0_2 hr0_3 hr0_4 hr0_5 hc0_1 hc0_2 hc0_3 hc0_4 hc0_5 hT
     go_enter Tryz.func19, Tryz.ntmps19
     go_wp2_with (fail)
     go_ret2
     exact ⟨rfl, below_alloc (Below.refl _ _) _⟩
    ·have d3a : decide (a1 > 1125899906842624) = false := decide_eq_false c3
     have d3b : decide (1125899906842624 < a1) = false := decide_eq_false c3
     rw [if_neg (show ¬ nextBad a1 a2 = true by unfold nextBad; exact fun hh => absurd (of_decide_eq_true hh) (by omega))] at h
     obtain ⟨ec, hec, h'⟩ := Option.bind_eq_some_iff.1 h
     have HEC := Aside0.mk hec
     have HT := Aside0.mk hT
     have HR := Aside0.mk (Option.some.inj h')
     clear h h' hec hT
     have HC1 := Aside0.mk hr0_1
     have HC2 := Aside0.mk hr0_2
     have HC3 := Aside0.mk hr0_3
     have HC4 := Aside0.mk hr0_4
     have HC5 := Aside0.mk hr0_5
     clear hr0_1 hr0_2 hr0_3 hr0_4 hr0_5
     have HCK := Aside0.mk (show ∀ W, Below w.heap.size w W → Calls Tryz.prog 10 #[.agg #[.string a0_0, .slice A0_1 l0_1.length c0_1, .slice A0_2 l0_2.length c0_2, .slice A0_3 l0_3.length c0_3, .slice A0_4 l0_4.length c0_4, .slice A0_5 l0_5.length c0_5, .int .i64 a0_6]] W _ from fun W hW => ICheck.calls a0_0 A0_1 c0_1 l0_1 A0_2 c0_2 l0_2 A0_3 c0_3 l0_3 A0_4 c0_4 l0_4 A0_5 c0_5 l0_5 a0_6 _ W (Kd.C_below HC1.out hW) hc0_1 (Kd.C_below HC2.out hW) hc0_2 (Kd.C_below HC3.out hW) hc0_3 (Kd.C_below HC4.out hW) hc0_4 (Kd.C_below HC5.out hW) hc0_5 HEC.out)
     have HAT := Aside0.mk (show ∀ (bx : Nat) (s : Int) W, Below w.heap.size w W → W.heap[bx]? = some (.cells #[.string a0_0, .slice A0_1 l0_1.length c0_1, .slice A0_2 l0_2.length c0_2, .slice A0_3 l0_3.length c0_3, .slice A0_4 l0_4.length c0_4, .slice A0_5 l0_5.length c0_5, .int .i64 a0_6] 24 (0, 0)) → Calls Tryz.prog 31 #[.pointer (some ⟨bx, 0, none⟩), .int .i64 s] W _ from fun bx s W hW hbk => at_any bx a0_0 A0_1 _ c0_1 l0_1 A0_2 _ c0_2 l0_2 A0_3 _ c0_3 l0_3 A0_4 _ c0_4 l0_4 A0_5 _ c0_5 l0_5 a0_6 s W (HT.out.below hW) hbk ⟨rfl, Kd.C_below HC1.out hW⟩ ⟨rfl, Kd.C_below HC2.out hW⟩ ⟨rfl, Kd.C_below HC3.out hW⟩ ⟨rfl, Kd.C_below HC4.out hW⟩ ⟨rfl, Kd.C_below HC5.out hW⟩)
     clear HC1 HC2 HC3 HC4 HC5 hc0_1 hc0_2 hc0_3 hc0_4 hc0_5
     obtain ⟨n1, hn1⟩ : ∃ n, n = l0_1.length := ⟨_, rfl⟩
     obtain ⟨n2, hn2⟩ : ∃ n, n = l0_2.length := ⟨_, rfl⟩
     obtain ⟨n3, hn3⟩ : ∃ n, n = l0_3.length := ⟨_, rfl⟩
     obtain ⟨n4, hn4⟩ : ∃ n, n = l0_4.length := ⟨_, rfl⟩
     obtain ⟨n5, hn5⟩ : ∃ n, n = l0_5.length := ⟨_, rfl⟩
     rw [← hn1, ← hn2, ← hn3, ← hn4, ← hn5] at HCK HAT ⊢
     obtain ⟨ab, hab⟩ : ∃ ab : Int → Bool, ab = fun s => atB l0_1 l0_2 l0_3 l0_4 l0_5 a0_6 s := ⟨_, rfl⟩
     replace HAT : Aside0 (∀ (bx : Nat) (s : Int) W, Below w.heap.size w W → W.heap[bx]? = some (.cells #[.string a0_0, .slice A0_1 n1 c0_1, .slice A0_2 n2 c0_2, .slice A0_3 n3 c0_3, .slice A0_4 n4 c0_4, .slice A0_5 n5 c0_5, .int .i64 a0_6] 24 (0, 0)) → Calls Tryz.prog 31 #[.pointer (some ⟨bx, 0, none⟩), .int .i64 s] W fun e w' => e = .returned (.bool (ab s)) ∧ Below W.heap.size W w') := by rw [hab]; exact HAT
     replace HR : Aside0 ((if ec = 0 then nextC (fun m => ab (a1 + 60 * m)) (a2 + 1).toNat 0 else (0, false)) = (r1, r2)) := by rw [hab]; exact HR
     obtain ⟨M, rfl⟩ : ∃ M : Nat, a2 = (M : Int) := ⟨a2.toNat, by omega⟩
     have hM : M ≤ 100000 := by omega
     have hw0 : wrap64 ((M : Int) + 1) = (M : Int) + 1 := by unfold wrap64; omega
     clear hn1 hn2 hn3 hn4 hn5 hab HEC HT
     go_enter Tryz.func19, Tryz.ntmps19
     go_wp2_with (fail)
     obtain ⟨bx, hbx⟩ : ∃ bx, bx = w.heap.size := ⟨_, rfl⟩
     obtain ⟨w1, hw1⟩ : ∃ w1, w1 = w.alloc (.cells #[.string a0_0, .slice A0_1 n1 c0_1, .slice A0_2 n2 c0_2, .slice A0_3 n3 c0_3, .slice A0_4 n4 c0_4, .slice A0_5 n5 c0_5, .int .i64 a0_6] 24) := ⟨_, rfl⟩
     have HBK := Aside0.mk (show w1.heap[bx]? = some (.cells #[.string a0_0, .slice A0_1 n1 c0_1, .slice A0_2 n2 c0_2, .slice A0_3 n3 c0_3, .slice A0_4 n4 c0_4, .slice A0_5 n5 c0_5, .int .i64 a0_6] 24 (0, 0)) by rw [hw1, hbx]; exact heap_alloc_new w _)
     have HB1 := Aside0.mk (show Below w.heap.size w w1 by rw [hw1]; exact below_alloc (Below.refl _ _) _)
     rw [← hw1, ← hbx]
     clear hw1 hbx
     refine (HCK.out w1 HB1.out).mono ?_
     rintro e w2 ⟨rfl, hb⟩
     have HB2 := Aside0.mk (below_then HB1.out HB1.out.size hb)
     have HBK2 := Aside0.mk ((hb.block _ (blk_lt HBK.out)).trans HBK.out)
     have hr := HR.out
     clear hb HCK HR
     by_cases he : ec = 0
     ·subst he
      rw [if_pos rfl, show ((M : Int) + 1).toNat = M + 1 by omega] at hr
      have HR := Aside0.mk hr
      clear hr
      go_wp2_with (fail)
      go_loopg [30] (M + 2) (fun kq v30 wr => ∃ (j : Nat), v30 = .int .i64 (j : Int) ∧ Aside0 (j ≤ M + 1 ∧ j + kq = M + 2) ∧ Aside0 (Below w2.heap.size w2 wr) ∧ Aside0 (nextC (fun m => ab (a1 + 60 * m)) (M + 1 - j) j = (r1, r2)))
      case atStart => exact ⟨0, rfl, ⟨by omega⟩, ⟨Below.refl _ _⟩, HR⟩
      case round =>
       clear HR
       obtain ⟨j, rfl, HJ, HB, HR⟩ := hrel
       obtain ⟨hj0, hjk⟩ := HJ.out
       by_cases hlt : j < M + 1
       ·cases gk with
        | zero => exact absurd hjk (by omega)
        | succ k1 =>
         have hlt1 : decide ((j : Int) < (M : Int) + 1) = true := decide_eq_true (by omega)
         have hw1 : wrap64 (60 * (j : Int)) = 60 * (j : Int) := by unfold wrap64; omega
         have hw2 : wrap64 (a1 + 60 * (j : Int)) = a1 + 60 * (j : Int) := by unfold wrap64; omega
         have hr := HR.out
         rw [show M + 1 - j = (M + 1 - (j + 1)) + 1 by omega] at hr
         replace hr : (if ab (a1 + 60 * (j : Int)) = true then ((j : Int), true) else nextC (fun m => ab (a1 + 60 * m)) (M + 1 - (j + 1)) (j + 1)) = (r1, r2) := hr
         have HCL := Aside0.mk (HAT.out bx (a1 + 60 * (j : Int)) wr (below_then HB2.out HB2.out.size HB.out) ((HB.out.block _ (blk_lt HBK2.out)).trans HBK2.out))
         obtain ⟨b, hb⟩ : ∃ b, b = ab (a1 + 60 * (j : Int)) := ⟨_, rfl⟩
         rw [← hb] at hr HCL
         clear hb HR
         cases b with
         | true =>
          rw [if_pos rfl] at hr
          simp only [Prod.mk.injEq] at hr
          obtain ⟨rfl, rfl⟩ := hr
          go_wp2_with (fail)
          refine HCL.out.mono ?_
          rintro e w5 ⟨rfl, hb5⟩
          have HB5 := Aside0.mk (below_then HB.out HB.out.size hb5)
          clear hb5 HCL
          go_wp2_with (fail)
          go_ret2
          exact ⟨rfl, below_then HB2.out HB2.out.size HB5.out⟩
         | false =>
          rw [if_neg (fun h => by cases h)] at hr
          have HR := Aside0.mk hr
          clear hr
          go_wp2_with (fail)
          refine HCL.out.mono ?_
          rintro e w5 ⟨rfl, hb5⟩
          have HB5 := Aside0.mk (below_then HB.out HB.out.size hb5)
          clear hb5 HCL
          go_wp2_with (fail)
          go_roundg k1
          case measure => omega
          case rel => exact ⟨j + 1, by first | rfl | (simp; done) | (simp; unfold wrap64; omega), ⟨by omega⟩, HB5, HR⟩
       ·have hlt1 : decide ((j : Int) < (M : Int) + 1) = false := decide_eq_false (by omega)
        have hr := HR.out
        rw [show M + 1 - j = 0 by omega] at hr
        replace hr : ((0 : Int), false) = (r1, r2) := hr
        simp only [Prod.mk.injEq] at hr
        obtain ⟨rfl, rfl⟩ := hr
        go_wp2_with (fail)
        go_ret2
        exact ⟨rfl, below_then HB2.out HB2.out.size HB.out⟩
     ·rw [if_neg he] at hr
      simp only [Prod.mk.injEq] at hr
      obtain ⟨rfl, rfl⟩ := hr
      have d1 : decide (ec = 0) = false := decide_eq_false he
      have d2 : (ec == 0) = false := beq_eq_false_iff_ne.2 he
      go_wp2_with (fail)
      go_ret2
      exact ⟨rfl, HB2.out⟩
end Go.Proofs.YtgipdacenppmdaaGreatDoor.G
