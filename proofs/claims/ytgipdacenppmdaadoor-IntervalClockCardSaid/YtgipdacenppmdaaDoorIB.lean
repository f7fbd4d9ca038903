/- Has and Next. -/
import Derived.Test.YtgipdacenppmdaaDoorIH
set_option linter.unusedVariables false
set_option linter.unusedSimpArgs false
namespace Go.Proofs.YtgipdacenppmdaaDoor.G
open Go.RowKit Go.Shelf Go.Lib Go.Sort Go.Proofs.YtgipdacenppmdaaDoorW.PrintWords Go.Proofs.YtgipdacenppmdaaDoor.P
def IHas.f (a0_0 : ByteArray) (l0_1 : List (S37)) (l0_2 : List (S37)) (l0_3 : List (S37)) (l0_4 : List (S37)) (l0_5 : List (S37)) (a0_6 : Int) (a1 : Int) : Option (Bool) := (ICheck.f a0_0 l0_1 l0_2 l0_3 l0_4 l0_5 a0_6).bind fun e => some (decide (e = 0) && atB l0_1 l0_2 l0_3 l0_4 l0_5 a0_6 a1)
set_option maxHeartbeats 8000000 in
set_option maxRecDepth 100000 in
theorem IHas.calls (a0_0 : ByteArray) (A0_1 : Option Addr) (c0_1 : Nat) (l0_1 : List (S37)) (A0_2 : Option Addr) (c0_2 : Nat) (l0_2 : List (S37)) (A0_3 : Option Addr) (c0_3 : Nat) (l0_3 : List (S37)) (A0_4 : Option Addr) (c0_4 : Nat) (l0_4 : List (S37)) (A0_5 : Option Addr) (c0_5 : Nat) (l0_5 : List (S37)) (a0_6 : Int) (a1 : Int) (r : Bool) (w : World) (hr0_1 : Kd.C k37 w A0_1 l0_1.length l0_1) (hc0_1 : l0_1.length ≤ c0_1) (hr0_2 : Kd.C k37 w A0_2 l0_2.length l0_2) (hc0_2 : l0_2.length ≤ c0_2) (hr0_3 : Kd.C k37 w A0_3 l0_3.length l0_3) (hc0_3 : l0_3.length ≤ c0_3) (hr0_4 : Kd.C k37 w A0_4 l0_4.length l0_4) (hc0_4 : l0_4.length ≤ c0_4) (hr0_5 : Kd.C k37 w A0_5 l0_5.length l0_5) (hc0_5 : l0_5.length ≤ c0_5) (hT : TabS w) (h : IHas.f a0_0 l0_1 l0_2 l0_3 l0_4 l0_5 a0_6 a1 = some r) :
    Calls Tryd.prog 10 #[.agg #[.string a0_0, .slice A0_1 l0_1.length c0_1, .slice A0_2 l0_2.length c0_2, .slice A0_3 l0_3.length c0_3, .slice A0_4 l0_4.length c0_4, .slice A0_5 l0_5.length c0_5, .int .i64 a0_6], .int .i64 a1] w fun e w' => e = .returned (.bool r) ∧ Below w.heap.size w w' := by
  unfold IHas.f at h
  obtain ⟨ec, hec, h'⟩ := Option.bind_eq_some_iff.1 h
  have HEC := Aside0.mk hec
  have HT := Aside0.mk hT
  have HR := Aside0.mk (Option.some.inj h')
  clear h h' hec hT
  have HC1 := Aside0.mk hr0_1
  have HC2 := Aside0.mk hr0_2
  have HC3 := Aside0.mk hr0_3
  have HC4 := Aside0.mk hr0_4
  have HC5 := Aside0.mk hr0_5
  clear hr0_1 hr0_2 hr0_3 hr0_4 hr0_5
  have HCK := Aside0.mk (show ∀ W, Below w.heap.size w W → Calls Tryd.prog 7 #[.agg #[.string a0_0, .slice A0_1 l0_1.length c0_1, .slice A0_2 l0_2.length c0_2, .slice A0_3 l0_3.length c0_3, .slice A0_4 l0_4.length c0_4, .slice A0_5 l0_5.length c0_5, .int .i64 a0_6]] W _ from fun W hW => ICheck.calls a0_0 A0_1 c0_1 l0_1 A0_2 c0_2 l0_2 A0_3 c0_3 l0_3 A0_4 c0_4 l0_4 A0_5 c0_5 l0_5 a0_6 _ W (Kd.C_below HC1.out hW) hc0_1 (Kd.C_below HC2.out hW) hc0_2 (Kd.C_below HC3.out hW) hc0_3 (Kd.C_below HC4.out hW) hc0_4 (Kd.C_below HC5.out hW) hc0_5 HEC.out)
  have HAT := Aside0.mk (show ∀ (bx : Nat) W, Below w.heap.size w W → W.heap[bx]? = some (.cells #[.string a0_0, .slice A0_1 l0_1.length c0_1, .slice A0_2 l0_2.length c0_2, .slice A0_3 l0_3.length c0_3, .slice A0_4 l0_4.length c0_4, .slice A0_5 l0_5.length c0_5, .int .i64 a0_6] 24 (0, 0)) → Calls Tryd.prog 20 #[.pointer (some ⟨bx, 0, none⟩), .int .i64 a1] W _ from fun bx W hW hbk => at_any bx a0_0 A0_1 _ c0_1 l0_1 A0_2 _ c0_2 l0_2 A0_3 _ c0_3 l0_3 A0_4 _ c0_4 l0_4 A0_5 _ c0_5 l0_5 a0_6 a1 W (HT.out.below hW) hbk ⟨rfl, Kd.C_below HC1.out hW⟩ ⟨rfl, Kd.C_below HC2.out hW⟩ ⟨rfl, Kd.C_below HC3.out hW⟩ ⟨rfl, Kd.C_below HC4.out hW⟩ ⟨rfl, Kd.C_below HC5.out hW⟩)
  clear HC1 HC2 HC3 HC4 HC5 hc0_1 hc0_2 hc0_3 hc0_4 hc0_5
  obtain ⟨n1, hn1⟩ : ∃ n, n = l0_1.length := ⟨_, rfl⟩
  obtain ⟨n2, hn2⟩ : ∃ n, n = l0_2.length := ⟨_, rfl⟩
  obtain ⟨n3, hn3⟩ : ∃ n, n = l0_3.length := ⟨_, rfl⟩
  obtain ⟨n4, hn4⟩ : ∃ n, n = l0_4.length := ⟨_, rfl⟩
  obtain ⟨n5, hn5⟩ : ∃ n, n = l0_5.length := ⟨_, rfl⟩
  rw [← hn1, ← hn2, ← hn3, ← hn4, ← hn5] at HCK HAT ⊢
  obtain ⟨ab, hab⟩ : ∃ ab, ab = atB l0_1 l0_2 l0_3 l0_4 l0_5 a0_6 a1 := ⟨_, rfl⟩
  rw [← hab] at HAT HR
  clear hn1 hn2 hn3 hn4 hn5 hab HEC HT
  go_enter Tryd.func10, Tryd.ntmps10
  go_wp2_with (fail)
  obtain ⟨bx, hbx⟩ : ∃ bx, bx = w.heap.size := ⟨_, rfl⟩
  obtain ⟨w1, hw1⟩ : ∃ w1, w1 = w.alloc (.cells #[.string a0_0, .slice A0_1 n1 c0_1, .slice A0_2 n2 c0_2, .slice A0_3 n3 c0_3, .slice A0_4 n4 c0_4, .slice A0_5 n5 c0_5, .int .i64 a0_6] 24) := ⟨_, rfl⟩
  have HBK := Aside0.mk (show w1.heap[bx]? = some (.cells #[.string a0_0, .slice A0_1 n1 c0_1, .slice A0_2 n2 c0_2, .slice A0_3 n3 c0_3, .slice A0_4 n4 c0_4, .slice A0_5 n5 c0_5, .int .i64 a0_6] 24 (0, 0)) by rw [hw1, hbx]; exact heap_alloc_new w _)
  have HB1 := Aside0.mk (show Below w.heap.size w w1 by rw [hw1]; exact below_alloc (Below.refl _ _) _)
  rw [← hw1, ← hbx]
  clear hw1 hbx
  refine (HCK.out w1 HB1.out).mono ?_
  rintro e w2 ⟨rfl, hb⟩
  have HB2 := Aside0.mk (below_then HB1.out HB1.out.size hb)
  have HBK2 := Aside0.mk ((hb.block _ (blk_lt HBK.out)).trans HBK.out)
  have hr := HR.out
  clear hb HCK HR
  by_cases he : ec = 0
  · subst he
    rw [decide_eq_true rfl, Bool.true_and] at hr
    subst hr
    go_wp2_with (fail)
    refine (HAT.out bx w2 HB2.out HBK2.out).mono ?_
    rintro e w3 ⟨rfl, hb⟩
    have HB3 := Aside0.mk (below_then HB2.out HB2.out.size hb)
    clear hb
    go_wp2_with (fail)
    go_ret
    exact ⟨rfl, HB3.out⟩
  · rw [decide_eq_false he, Bool.false_and] at hr
    subst hr
    have d1 : decide (ec = 0) = false := decide_eq_false he
    have d2 : (ec == 0) = false := beq_eq_false_iff_ne.2 he
    go_wp2_with (fail)
    go_ret
    exact ⟨rfl, HB2.out⟩
end Go.Proofs.YtgipdacenppmdaaDoor.G
