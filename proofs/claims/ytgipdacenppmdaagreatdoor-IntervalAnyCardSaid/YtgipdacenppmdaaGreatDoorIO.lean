/- Any: the walk. -/
import Derived.Test.YtgipdacenppmdaaGreatDoorIN
import Derived.Test.YtgipdacenppmdaaGreatDoorQC
set_option linter.unusedVariables false
set_option linter.unusedSimpArgs false
namespace Go.Proofs.YtgipdacenppmdaaGreatDoor.G
open Go.RowKit Go.Shelf Go.Lib Go.Sort Go.Proofs.YtgipdacenppmdaaGreatDoorW.PrintWords Go.Proofs.YtgipdacenppmdaaGreatDoor.P
def hasB (x : S24) (s : Int) : Bool := (IHas.f x.f0 x.f1 x.f2 x.f3 x.f4 x.f5 x.f6 s).getD false
theorem hasB_f (x : S24) (s : Int) : IHas.f x.f0 x.f1 x.f2 x.f3 x.f4 x.f5 x.f6 s = some (hasB x s) := by
  unfold hasB IHas.f ICheck.f
  rw [pname_f]
  rfl
def inNames (l : List ByteArray) (s : ByteArray) : Bool := decide (idxS l s 0 ≥ 0)
theorem contains_f (l : List ByteArray) (s : ByteArray) (hn : l.length ≤ 999) : slices_Contains_string_string.f 1000 l s = some (inNames l s) := by
  unfold slices_Contains_string_string.f
  rw [index_f l s hn]
  rfl
set_option maxHeartbeats 8000000 in
set_option maxRecDepth 100000 in
theorem any51 (p1 p2 : Nat) (A1 : Option Addr) (c1 : Nat) (names : List ByteArray) (s : Int) (x : S24) (cs : Array Value) (w : World) (h1 : w.heap[p1]? = some (.cells #[.slice A1 names.length c1] 45 (0, 0))) (h2 : w.heap[p2]? = some (.cells #[.int .i64 s] 3 (0, 0)))
    (hN : Kd.C Kd.string w A1 names.length names) (hc : names.length ≤ c1) (hl : names.length ≤ 999) (hT : TabS w) (hk : k24.K w x cs.toList) :
    Calls Tryz.prog 51 #[.agg cs, .pointer (some ⟨p1, 0, none⟩), .pointer (some ⟨p2, 0, none⟩)] w fun e w' => e = .returned (.bool (inNames names x.f0 && hasB x s)) ∧ Below w.heap.size w w' := by
  obtain ⟨B1, d1, B2, d2, B3, d3, B4, d4, B5, d5, hcs, g1, r1, g2, r2, g3, r3, g4, r4, g5, r5⟩ := k24_open hk
  obtain rfl : cs = #[.string x.f0, .slice B1 x.f1.length d1, .slice B2 x.f2.length d2, .slice B3 x.f3.length d3, .slice B4 x.f4.length d4, .slice B5 x.f5.length d5, .int .i64 x.f6] := Array.toList_inj.1 hcs
  have HT := Aside0.mk hT
  have HH := Aside0.mk (show ∀ W, Below w.heap.size w W → Calls Tryz.prog 12 #[.agg #[.string x.f0, .slice B1 x.f1.length d1, .slice B2 x.f2.length d2, .slice B3 x.f3.length d3, .slice B4 x.f4.length d4, .slice B5 x.f5.length d5, .int .i64 x.f6], .int .i64 s] W _ from fun W hW => IHas.calls x.f0 B1 d1 x.f1 B2 d2 x.f2 B3 d3 x.f3 B4 d4 x.f4 B5 d5 x.f5 x.f6 s _ W (Kd.C_below r1 hW) g1 (Kd.C_below r2 hW) g2 (Kd.C_below r3 hW) g3 (Kd.C_below r4 hW) g4 (Kd.C_below r5 hW) g5 (hT.below hW) (hasB_f x s))
  have HN := Aside0.mk (show ∀ W, Below w.heap.size w W → Calls Tryz.prog 52 #[.slice A1 names.length c1, .string x.f0] W _ from fun W hW => slices_Contains_string_string.calls 1000 A1 c1 names x.f0 _ W (Kd.C_below hN hW) hc (contains_f names x.f0 hl))
  have k1 : w.cell? ⟨p1, 0, none⟩ = some (.slice A1 names.length c1) := (blk_cell h1 0).trans rfl
  have k2 : w.cell? ⟨p2, 0, none⟩ = some (.int .i64 s) := (blk_cell h2 0).trans rfl
  have hne1 : p1 ≠ w.heap.size := by have := blk_lt h1; omega
  have hne2 : p2 ≠ w.heap.size := by have := blk_lt h2; omega
  have hlt1 : p1 < w.heap.size := blk_lt h1
  have hlt2 : p2 < w.heap.size := blk_lt h2
  obtain ⟨n0, hn0⟩ : ∃ n, n = names.length := ⟨_, rfl⟩
  obtain ⟨n1, hn1⟩ : ∃ n, n = x.f1.length := ⟨_, rfl⟩
  obtain ⟨n2, hn2⟩ : ∃ n, n = x.f2.length := ⟨_, rfl⟩
  obtain ⟨n3, hn3⟩ : ∃ n, n = x.f3.length := ⟨_, rfl⟩
  obtain ⟨n4, hn4⟩ : ∃ n, n = x.f4.length := ⟨_, rfl⟩
  obtain ⟨n5, hn5⟩ : ∃ n, n = x.f5.length := ⟨_, rfl⟩
  rw [← hn0] at k1 HN
  rw [← hn1, ← hn2, ← hn3, ← hn4, ← hn5] at HH ⊢
  obtain ⟨bn, hbn⟩ : ∃ b, b = inNames names x.f0 := ⟨_, rfl⟩
  obtain ⟨bh, hbh⟩ : ∃ b, b = hasB x s := ⟨_, rfl⟩
  obtain ⟨f0, hf0⟩ : ∃ b, b = x.f0 := ⟨_, rfl⟩
  obtain ⟨f6, hf6⟩ : ∃ b, b = x.f6 := ⟨_, rfl⟩
  rw [← hbn] at HN ⊢
  rw [← hbh] at HH ⊢
  rw [← hf0] at HH HN ⊢
  rw [← hf6] at HH ⊢
  clear hn0 hn1 hn2 hn3 hn4 hn5 hbn hbh hf0 hf6 h1 h2 hN hc hl hT hk hcs g1 r1 g2 r2 g3 r3 g4 r4 g5 r5
  go_enter Tryz.func51, Tryz.ntmps51
  go_wp2_with (fail)
  obtain ⟨bx, hbx⟩ : ∃ bx, bx = w.heap.size := ⟨_, rfl⟩
  obtain ⟨w1, hw1⟩ : ∃ w1, w1 = w.alloc (.cells #[.string f0, .slice B1 n1 d1, .slice B2 n2 d2, .slice B3 n3 d3, .slice B4 n4 d4, .slice B5 n5 d5, .int .i64 f6] 24) := ⟨_, rfl⟩
  have HBK := Aside0.mk (show w1.heap[bx]? = some (.cells #[.string f0, .slice B1 n1 d1, .slice B2 n2 d2, .slice B3 n3 d3, .slice B4 n4 d4, .slice B5 n5 d5, .int .i64 f6] 24 (0, 0)) by rw [hw1, hbx]; exact heap_alloc_new w _)
  have HB1 := Aside0.mk (show Below w.heap.size w w1 by rw [hw1]; exact below_alloc (Below.refl _ _) _)
  rw [← hw1, ← hbx]
  clear hw1 hbx
  refine (HN.out w1 HB1.out).mono ?_
  rintro e w2 ⟨rfl, hd⟩
  have hb : Below w1.heap.size w1 w2 := hd.below
  have HB2 := Aside0.mk (below_then HB1.out HB1.out.size hb)
  have HBK2 := Aside0.mk ((hb.block _ (blk_lt HBK.out)).trans HBK.out)
  have e1 := (HB2.out.cell hlt1).trans k1
  have e2 := (HB2.out.cell hlt2).trans k2
  have m0 := (blk_cell HBK2.out 0).trans rfl
  have m1 := (blk_cell HBK2.out 1).trans rfl
  have m2 := (blk_cell HBK2.out 2).trans rfl
  have m3 := (blk_cell HBK2.out 3).trans rfl
  have m4 := (blk_cell HBK2.out 4).trans rfl
  have m5 := (blk_cell HBK2.out 5).trans rfl
  have m6 := (blk_cell HBK2.out 6).trans rfl
  clear hb hd HN
  cases bn with
  | true =>
    go_wp2_with (fail)
    refine (HH.out w2 HB2.out).mono ?_
    rintro e w3 ⟨rfl, hb⟩
    have HB3 := Aside0.mk (below_then HB2.out HB2.out.size hb)
    clear hb
    go_wp2_with (fail)
    go_ret
    exact ⟨rfl, HB3.out⟩
  | false =>
    go_wp2_with (fail)
    go_ret
    exact ⟨rfl, HB2.out⟩
def IAny.f (l0 : List (S24)) (l1 : List ByteArray) (a2 : Int) : Option (Bool) := if l1.length ≤ 999 then some (l0.any fun x => inNames l1 x.f0 && hasB x a2) else none
set_option maxHeartbeats 8000000 in
set_option maxRecDepth 100000 in
theorem IAny.calls (A0 : Option Addr) (c0 : Nat) (l0 : List (S24)) (A1 : Option Addr) (c1 : Nat) (l1 : List ByteArray) (a2 : Int) (r : Bool) (w : World) (hr0 : Kd.C k24 w A0 l0.length l0) (hc0 : l0.length ≤ c0) (hr1 : Kd.C Kd.string w A1 l1.length l1) (hc1 : l1.length ≤ c1) (hT : TabS w) (h : IAny.f l0 l1 a2 = some r) :
    Calls Tryz.prog 22 #[.slice A0 l0.length c0, .slice A1 l1.length c1, .int .i64 a2] w fun e w' => e = .returned (.bool r) ∧ Below w.heap.size w w' := by
  unfold IAny.f at h
  by_cases hl : l1.length ≤ 999
  · rw [if_pos hl] at h
    have hr := Option.some.inj h
    clear h
    obtain ⟨b1, hb1⟩ : ∃ b, b = w.heap.size := ⟨_, rfl⟩
    have HT := Aside0.mk (show ∀ W, Below w.heap.size w W → W.heap[b1]? = some (.cells #[.slice A1 l1.length c1] 45 (0, 0)) → W.heap[b1 + 1]? = some (.cells #[.int .i64 a2] 3 (0, 0)) → Calls Tryz.prog 50 #[.slice A0 l0.length c0, .func (.func 51) #[] #[.pointer (some ⟨b1, 0, none⟩), .pointer (some ⟨b1 + 1, 0, none⟩)]] W fun e w' => e = .returned (.bool r) ∧ Below W.heap.size W w' from fun W hW q1 q2 => by
      rw [← hr]
      refine contains50 A0 c0 l0 _ b1 (b1 + 1) W (Kd.C_below hr0 hW) ?_
      intro W2 hW2 x hx cs hk
      have hW3 := below_then hW hW.size hW2
      exact any51 b1 (b1 + 1) A1 c1 l1 a2 x cs W2 ((hW2.block _ (blk_lt q1)).trans q1) ((hW2.block _ (blk_lt q2)).trans q2) (Kd.C_below hr1 hW3) hc1 hl (hT.below hW3) hk)
    obtain ⟨n0, hn0⟩ : ∃ n, n = l0.length := ⟨_, rfl⟩
    obtain ⟨n1, hn1⟩ : ∃ n, n = l1.length := ⟨_, rfl⟩
    rw [← hn0, ← hn1] at HT ⊢
    clear hr hn0 hn1 hr0 hc0 hr1 hc1 hT hl
    go_enter Tryz.func22, Tryz.ntmps22
    go_wp2_with (fail)
    obtain ⟨b2, hb2⟩ : ∃ b, b = w.heap.size + 1 := ⟨_, rfl⟩
    obtain ⟨w2, hw2⟩ : ∃ w2, w2 = (w.alloc (.cells #[.slice A1 n1 c1] 45)).alloc (.cells #[.int .i64 a2] 3) := ⟨_, rfl⟩
    have HB := Aside0.mk (show Below w.heap.size w w2 by rw [hw2]; exact below_alloc (below_alloc (Below.refl _ _) _) _)
    have Q1 := Aside0.mk (show w2.heap[b1]? = some (.cells #[.slice A1 n1 c1] 45 (0, 0)) by
      rw [hw2, hb1]
      exact (heap_alloc_old _ _ (by simp)).trans (heap_alloc_new w _))
    have Q2 := Aside0.mk (show w2.heap[b1 + 1]? = some (.cells #[.int .i64 a2] 3 (0, 0)) by
      rw [hw2, hb1]
      have := heap_alloc_new (w.alloc (.cells #[.slice A1 n1 c1] 45)) (.cells #[.int .i64 a2] 3)
      simpa using this)
    try rw [← hw2]
    try rw [← hb1]
    clear hw2 hb1 hb2
    refine (HT.out w2 HB.out Q1.out Q2.out).mono ?_
    rintro e w3 ⟨rfl, hb⟩
    have HB3 := Aside0.mk (below_then HB.out HB.out.size hb)
    clear hb
    go_wp2_with (fail)
    go_ret
    exact ⟨rfl, HB3.out⟩
  · rw [if_neg hl] at h; cases h
end Go.Proofs.YtgipdacenppmdaaGreatDoor.G
