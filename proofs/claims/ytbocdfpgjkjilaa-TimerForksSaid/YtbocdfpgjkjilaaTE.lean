/- The reference's calls, by lists: Next, Drop, Set, Seen, Keep, Due, and the law's own small functions. -/
import Derived.Test.YtbocdfpgjkjilaaTD
set_option linter.unusedVariables false
set_option linter.unusedSimpArgs false
namespace Go.Proofs.Ytbocdfpgjkjilaa.T
open Go.RowKit Go.Maps Go.Sort Go.Shelf Go.Proofs.YtbocdfpgjkjilaaW.PrintWords Go.Proofs.Ytbocdfpgjkjilaa.PTimerPlays Go.Proofs.Ytbocdfpgjkjilaa.R

theorem rnext_any (A : Option Addr) (c : Nat) (L : List S52) (k : ByteArray) (w : World) (hc : Kd.C k52 w A L.length L) (hcap : L.length ≤ c) (hL : L.length ≤ 1000000000) :
    Calls Try.prog 26 #[.agg #[.slice A L.length c], .string k] w fun e w' => e = .returned (.tuple #[.int .i64 (tAt L k), .bool (tHas L k)]) ∧ Below w.heap.size w w' :=
  RNext.calls (L.length + 1) A c L k _ _ w hc hcap (next_f L k (by omega))
theorem rdrop_any (A : Option Addr) (c : Nat) (L : List S52) (k : ByteArray) (w : World) (hc : Kd.C k52 w A L.length L) (hcap : L.length ≤ c) (hL : L.length ≤ 1000000000) :
    Calls Try.prog 23 #[.agg #[.slice A L.length c], .string k] w fun e w' => ∃ v, e = .returned (.tuple #[.agg #[v], .bool (tHas L k)]) ∧ Kd.R k52 52 w' w.heap.size (fun _ => True) v (delL L k) ∧ Below w.heap.size w w' :=
  RDrop.calls (L.length + 1) A c L k _ _ w hc hcap (drop_f L k (by omega))
theorem rput_any (A : Option Addr) (c : Nat) (L : List S52) (x : S52) (w : World) (hc : Kd.C k52 w A L.length L) (hcap : L.length ≤ c) (hL : L.length ≤ 1000000000) :
    Calls Try.prog 38 #[.agg #[.slice A L.length c], .agg #[.string x.f0, .int .i64 x.f1]] w fun e w' => ∃ v, e = .returned (.agg #[v]) ∧ Kd.R k52 52 w' w.heap.size (fun _ => True) v (insL (delL L x.f0) x) ∧ Below w.heap.size w w' :=
  Rput.calls (L.length + 1) A c L x.f0 x.f1 _ w hc hcap (put_f L x (by omega))

/-- What a call of the reference leaves: the timers as they were, or a row of its own. -/
def Left1 (w w' : World) (A : Option Addr) (c : Nat) (L : List S52) (yes : Bool) (L' : List S52) (v : Value) : Prop :=
  (yes = false ∧ v = .slice A L.length c) ∨ (yes = true ∧ Kd.R k52 52 w' w.heap.size (fun _ => True) v L')

set_option maxHeartbeats 1000000 in
theorem rset_any (A : Option Addr) (c : Nat) (L : List S52) (k : ByteArray) (a : Int) (w : World) (hc : Kd.C k52 w A L.length L) (hcap : L.length ≤ c) (hL : L.length ≤ 1000000000) :
    Calls Try.prog 22 #[.agg #[.slice A L.length c], .string k, .int .i64 a] w fun e w' => ∃ v, e = .returned (.tuple #[.agg #[v], .bool (setB L k a)]) ∧ Left1 w w' A c L (setB L k a) (insL (delL L k) ⟨k, a⟩) v ∧ Below w.heap.size w w' := by
  have HC := Aside0.mk hc
  have hcall := rnext_any A c L k _ (Kd.C_alloc (Kd.C_alloc hc (Obj.cells #[Value.slice A L.length c] 39)) (Obj.cells #[Value.slice none 0 0] 39)) hcap hL
  have HBB : Below w.heap.size w ((w.alloc (Obj.cells #[Value.slice A L.length c] 39)).alloc (Obj.cells #[Value.slice none 0 0] 39)) := below_alloc (below_alloc (Below.refl _ _) _) _
  clear hc
  cases hH : tHas L k with
  | false =>
    have HB := Aside0.mk (show setB L k a = false by simp [setB, hH])
    rw [hH] at hcall
    go_enter Try.func22, Try.ntmps22
    go_wp2_with (fail)
    refine hcall.mono ?_
    rintro e w1 ⟨rfl, hb⟩
    have b1 := (hb.block w.heap.size (by simp; omega)).trans (blk_alloc (blk_new w _) _)
    have b2 : w1.heap[w.heap.size + 1]? = some (.cells #[.slice none 0 0] 39 (0, 0)) := (hb.block (w.heap.size + 1) (by simp)).trans (by have := blk_new (w.alloc (Obj.cells #[Value.slice A L.length c] 39)) (.cells #[.slice none 0 0] 39 (0, 0)); simpa using this)
    have c1 : w1.cell? ⟨w.heap.size, 0, none⟩ = some (.slice A L.length c) := (blk_cell b1 0).trans rfl
    have c2 : w1.cell? ⟨w.heap.size + 1, 0, none⟩ = some (.slice none 0 0) := (blk_cell b2 0).trans rfl
    have f2 := blk_frozen b2 0
    have HW := Aside0.mk (below_then HBB HBB.size hb)
    have B1 := Aside0.mk b1
    have B2 := Aside0.mk b2
    clear hb b1 b2
    go_wp2_with (fail)
    have c3 : (w1.setCell ⟨w.heap.size + 1, 0, none⟩ (.slice A L.length c)).cell? ⟨w.heap.size + 1, 0, none⟩ = some (.slice A L.length c) := (blk_cell (blk_set B2.out 0 _) 0).trans rfl
    refine bodyPost_ret (v := .tuple #[.agg #[.slice A L.length c], .bool false]) (by simp [results, Try.results22, go_sem, c3]) rfl ?_
    exact ⟨_, by rw [HB.out], .inl ⟨HB.out, rfl⟩, HW.out.setCell (by simp) _⟩
  | true =>
    rw [hH] at hcall
    by_cases h0 : a < 0
    · have HB := Aside0.mk (show setB L k a = false by simp [setB, okT]; intro _ h; omega)
      go_enter Try.func22, Try.ntmps22
      go_wp2_with (fail)
      refine hcall.mono ?_
      rintro e w1 ⟨rfl, hb⟩
      have b1 := (hb.block w.heap.size (by simp; omega)).trans (blk_alloc (blk_new w _) _)
      have b2 : w1.heap[w.heap.size + 1]? = some (.cells #[.slice none 0 0] 39 (0, 0)) := (hb.block (w.heap.size + 1) (by simp)).trans (by have := blk_new (w.alloc (Obj.cells #[Value.slice A L.length c] 39)) (.cells #[.slice none 0 0] 39 (0, 0)); simpa using this)
      have c1 : w1.cell? ⟨w.heap.size, 0, none⟩ = some (.slice A L.length c) := (blk_cell b1 0).trans rfl
      have c2 : w1.cell? ⟨w.heap.size + 1, 0, none⟩ = some (.slice none 0 0) := (blk_cell b2 0).trans rfl
      have f2 := blk_frozen b2 0
      have HW := Aside0.mk (below_then HBB HBB.size hb)
      have B1 := Aside0.mk b1
      have B2 := Aside0.mk b2
      clear hb b1 b2
      go_wp2_with (fail)
      have c3 : (w1.setCell ⟨w.heap.size + 1, 0, none⟩ (.slice A L.length c)).cell? ⟨w.heap.size + 1, 0, none⟩ = some (.slice A L.length c) := (blk_cell (blk_set B2.out 0 _) 0).trans rfl
      refine bodyPost_ret (v := .tuple #[.agg #[.slice A L.length c], .bool false]) (by simp [results, Try.results22, go_sem, c3]) rfl ?_
      exact ⟨_, by rw [HB.out], .inl ⟨HB.out, rfl⟩, HW.out.setCell (by simp) _⟩
    · have h0b : decide (a < 0) = false := decide_eq_false h0
      by_cases h1 : 1099511627776 < a
      · have HB := Aside0.mk (show setB L k a = false by simp [setB, okT]; intro _ h; omega)
        go_enter Try.func22, Try.ntmps22
        go_wp2_with (fail)
        refine hcall.mono ?_
        rintro e w1 ⟨rfl, hb⟩
        have b1 := (hb.block w.heap.size (by simp; omega)).trans (blk_alloc (blk_new w _) _)
        have b2 : w1.heap[w.heap.size + 1]? = some (.cells #[.slice none 0 0] 39 (0, 0)) := (hb.block (w.heap.size + 1) (by simp)).trans (by have := blk_new (w.alloc (Obj.cells #[Value.slice A L.length c] 39)) (.cells #[.slice none 0 0] 39 (0, 0)); simpa using this)
        have c1 : w1.cell? ⟨w.heap.size, 0, none⟩ = some (.slice A L.length c) := (blk_cell b1 0).trans rfl
        have c2 : w1.cell? ⟨w.heap.size + 1, 0, none⟩ = some (.slice none 0 0) := (blk_cell b2 0).trans rfl
        have f2 := blk_frozen b2 0
        have HW := Aside0.mk (below_then HBB HBB.size hb)
        have B1 := Aside0.mk b1
        have B2 := Aside0.mk b2
        clear hb b1 b2
        go_wp2_with (fail)
        have c3 : (w1.setCell ⟨w.heap.size + 1, 0, none⟩ (.slice A L.length c)).cell? ⟨w.heap.size + 1, 0, none⟩ = some (.slice A L.length c) := (blk_cell (blk_set B2.out 0 _) 0).trans rfl
        refine bodyPost_ret (v := .tuple #[.agg #[.slice A L.length c], .bool false]) (by simp [results, Try.results22, go_sem, c3]) rfl ?_
        exact ⟨_, by rw [HB.out], .inl ⟨HB.out, rfl⟩, HW.out.setCell (by simp) _⟩
      · have h1b : decide (1099511627776 < a) = false := decide_eq_false h1
        have HB := Aside0.mk (show setB L k a = true by simp [setB, okT, hH]; omega)
        go_enter Try.func22, Try.ntmps22
        go_wp2_with (fail)
        refine hcall.mono ?_
        rintro e w1 ⟨rfl, hb⟩
        have b1 := (hb.block w.heap.size (by simp; omega)).trans (blk_alloc (blk_new w _) _)
        have b2 : w1.heap[w.heap.size + 1]? = some (.cells #[.slice none 0 0] 39 (0, 0)) := (hb.block (w.heap.size + 1) (by simp)).trans (by have := blk_new (w.alloc (Obj.cells #[Value.slice A L.length c] 39)) (.cells #[.slice none 0 0] 39 (0, 0)); simpa using this)
        have c1 : w1.cell? ⟨w.heap.size, 0, none⟩ = some (.slice A L.length c) := (blk_cell b1 0).trans rfl
        have c2 : w1.cell? ⟨w.heap.size + 1, 0, none⟩ = some (.slice none 0 0) := (blk_cell b2 0).trans rfl
        have f2 := blk_frozen b2 0
        have HW := Aside0.mk (below_then HBB HBB.size hb)
        have B1 := Aside0.mk b1
        have B2 := Aside0.mk b2
        clear hb b1 b2
        have HW1 := HW
        go_wp2_with (fail)
        refine (rput_any A c L ⟨k, a⟩ w1 (Kd.C_below HC.out HW1.out) hcap hL).mono ?_
        rintro e w2 ⟨v, rfl, hr, hb⟩
        obtain ⟨A', c', hv⟩ := Kd.R_slice hr
        obtain ⟨m, hm⟩ : ∃ m, m = (insL (delL L k) ⟨k, a⟩).length := ⟨_, rfl⟩
        rw [← hm] at hv
        subst hv
        clear hm
        have b2 := (hb.block (w.heap.size + 1) (blk_lt B2.out)).trans B2.out
        have c2' : w2.cell? ⟨w.heap.size + 1, 0, none⟩ = some (.slice none 0 0) := (blk_cell b2 0).trans rfl
        have f2' := blk_frozen b2 0
        have c3 : (w2.setCell ⟨w.heap.size + 1, 0, none⟩ (.slice A' m c')).cell? ⟨w.heap.size + 1, 0, none⟩ = some (.slice A' m c') := (blk_cell (blk_set b2 0 _) 0).trans rfl
        have hne : some (w.heap.size + 1) ≠ (Value.slice A' m c').ownBlock := fun e => by
          have h1 := Kd.R_base hr _ e.symm
          have h2 := blk_lt B2.out
          omega
        have HR := Aside0.mk (Kd.R_lower (Kd.R_set hr b2 (by decide) 0 (.slice A' m c')) HW.out.size)
        have HW2 := Aside0.mk (below_then HW.out HW.out.size hb)
        clear hr hb b2 hne
        go_wp2_with (fail)
        refine bodyPost_ret (v := .tuple #[.agg #[.slice A' m c'], .bool true]) (by simp [results, Try.results22, go_sem, c3]) rfl ?_
        exact ⟨_, by rw [HB.out], .inr ⟨HB.out, HR.out⟩, HW2.out.setCell (by simp) _⟩

/-- The reference's Seen. -/
theorem seenB_no {L : List S52} {k : ByteArray} {a c : Int} (h : ¬ (0 ≤ a ∧ a ≤ 1099511627776 ∧ 0 ≤ c ∧ c ≤ 1099511627776 - a)) : seenB L k a c = false := by
  have : ¬ (okT a = true ∧ okT c = true ∧ okT (a + c) = true) := by
    rintro ⟨h1, h2, h3⟩
    rw [okT_iff] at h1 h2 h3
    omega
  unfold seenB
  cases h1 : okT a <;> cases h2 : okT c <;> cases h3 : okT (a + c) <;> simp_all
set_option maxHeartbeats 2000000 in
theorem rseen_any (A : Option Addr) (q : Nat) (L : List S52) (k : ByteArray) (a c : Int) (w : World) (hc : Kd.C k52 w A L.length L) (hcap : L.length ≤ q) (hL : L.length ≤ 1000000000) :
    Calls Try.prog 25 #[.agg #[.slice A L.length q], .string k, .int .i64 a, .int .i64 c] w fun e w' => ∃ v, e = .returned (.tuple #[.agg #[v], .bool (seenB L k a c)]) ∧ Left1 w w' A q L (seenB L k a c) (insL (delL L k) ⟨k, a + c⟩) v ∧ Below w.heap.size w w' := by
  have HC := Aside0.mk hc
  have hcall := rnext_any A q L k _ (Kd.C_alloc (Kd.C_alloc hc (Obj.cells #[Value.slice A L.length q] 39)) (Obj.cells #[Value.slice none 0 0] 39)) hcap hL
  have HBB : Below w.heap.size w ((w.alloc (Obj.cells #[Value.slice A L.length q] 39)).alloc (Obj.cells #[Value.slice none 0 0] 39)) := below_alloc (below_alloc (Below.refl _ _) _) _
  clear hc
  cases hH : tHas L k with
  | true =>
    have HB := Aside0.mk (show seenB L k a c = false by simp [seenB, hH])
    rw [hH] at hcall
    go_enter Try.func25, Try.ntmps25
    go_wp2_with (fail)
    refine hcall.mono ?_
    rintro e w1 ⟨rfl, hb⟩
    have b1 := (hb.block w.heap.size (by simp; omega)).trans (blk_alloc (blk_new w _) _)
    have b2 : w1.heap[w.heap.size + 1]? = some (.cells #[.slice none 0 0] 39 (0, 0)) := (hb.block (w.heap.size + 1) (by simp)).trans (by have := blk_new (w.alloc (Obj.cells #[Value.slice A L.length q] 39)) (.cells #[.slice none 0 0] 39 (0, 0)); simpa using this)
    have c1 : w1.cell? ⟨w.heap.size, 0, none⟩ = some (.slice A L.length q) := (blk_cell b1 0).trans rfl
    have c2 : w1.cell? ⟨w.heap.size + 1, 0, none⟩ = some (.slice none 0 0) := (blk_cell b2 0).trans rfl
    have f2 := blk_frozen b2 0
    have HW := Aside0.mk (below_then HBB HBB.size hb)
    have B1 := Aside0.mk b1
    have B2 := Aside0.mk b2
    clear hb b1 b2
    go_wp2_with (fail)
    have c3 : (w1.setCell ⟨w.heap.size + 1, 0, none⟩ (.slice A L.length q)).cell? ⟨w.heap.size + 1, 0, none⟩ = some (.slice A L.length q) := (blk_cell (blk_set B2.out 0 _) 0).trans rfl
    refine bodyPost_ret (v := .tuple #[.agg #[.slice A L.length q], .bool false]) (by simp [results, Try.results25, go_sem, c3]) rfl ?_
    exact ⟨_, by rw [HB.out], .inl ⟨HB.out, rfl⟩, HW.out.setCell (by simp) _⟩
  | false =>
    rw [hH] at hcall
    by_cases h0 : a < 0
    · have HB := Aside0.mk (seenB_no (L := L) (k := k) (a := a) (c := c) (by omega))
      go_enter Try.func25, Try.ntmps25
      go_wp2_with (fail)
      refine hcall.mono ?_
      rintro e w1 ⟨rfl, hb⟩
      have b1 := (hb.block w.heap.size (by simp; omega)).trans (blk_alloc (blk_new w _) _)
      have b2 : w1.heap[w.heap.size + 1]? = some (.cells #[.slice none 0 0] 39 (0, 0)) := (hb.block (w.heap.size + 1) (by simp)).trans (by have := blk_new (w.alloc (Obj.cells #[Value.slice A L.length q] 39)) (.cells #[.slice none 0 0] 39 (0, 0)); simpa using this)
      have c1 : w1.cell? ⟨w.heap.size, 0, none⟩ = some (.slice A L.length q) := (blk_cell b1 0).trans rfl
      have c2 : w1.cell? ⟨w.heap.size + 1, 0, none⟩ = some (.slice none 0 0) := (blk_cell b2 0).trans rfl
      have f2 := blk_frozen b2 0
      have HW := Aside0.mk (below_then HBB HBB.size hb)
      have B1 := Aside0.mk b1
      have B2 := Aside0.mk b2
      clear hb b1 b2
      go_wp2_with (fail)
      have c3 : (w1.setCell ⟨w.heap.size + 1, 0, none⟩ (.slice A L.length q)).cell? ⟨w.heap.size + 1, 0, none⟩ = some (.slice A L.length q) := (blk_cell (blk_set B2.out 0 _) 0).trans rfl
      refine bodyPost_ret (v := .tuple #[.agg #[.slice A L.length q], .bool false]) (by simp [results, Try.results25, go_sem, c3]) rfl ?_
      exact ⟨_, by rw [HB.out], .inl ⟨HB.out, rfl⟩, HW.out.setCell (by simp) _⟩
    · have h0b : decide (a < 0) = false := decide_eq_false h0
      by_cases h1 : c < 0
      · have HB := Aside0.mk (seenB_no (L := L) (k := k) (a := a) (c := c) (by omega))
        go_enter Try.func25, Try.ntmps25
        go_wp2_with (fail)
        refine hcall.mono ?_
        rintro e w1 ⟨rfl, hb⟩
        have b1 := (hb.block w.heap.size (by simp; omega)).trans (blk_alloc (blk_new w _) _)
        have b2 : w1.heap[w.heap.size + 1]? = some (.cells #[.slice none 0 0] 39 (0, 0)) := (hb.block (w.heap.size + 1) (by simp)).trans (by have := blk_new (w.alloc (Obj.cells #[Value.slice A L.length q] 39)) (.cells #[.slice none 0 0] 39 (0, 0)); simpa using this)
        have c1 : w1.cell? ⟨w.heap.size, 0, none⟩ = some (.slice A L.length q) := (blk_cell b1 0).trans rfl
        have c2 : w1.cell? ⟨w.heap.size + 1, 0, none⟩ = some (.slice none 0 0) := (blk_cell b2 0).trans rfl
        have f2 := blk_frozen b2 0
        have HW := Aside0.mk (below_then HBB HBB.size hb)
        have B1 := Aside0.mk b1
        have B2 := Aside0.mk b2
        clear hb b1 b2
        go_wp2_with (fail)
        have c3 : (w1.setCell ⟨w.heap.size + 1, 0, none⟩ (.slice A L.length q)).cell? ⟨w.heap.size + 1, 0, none⟩ = some (.slice A L.length q) := (blk_cell (blk_set B2.out 0 _) 0).trans rfl
        refine bodyPost_ret (v := .tuple #[.agg #[.slice A L.length q], .bool false]) (by simp [results, Try.results25, go_sem, c3]) rfl ?_
        exact ⟨_, by rw [HB.out], .inl ⟨HB.out, rfl⟩, HW.out.setCell (by simp) _⟩
      · have h1b : decide (c < 0) = false := decide_eq_false h1
        by_cases h2 : 1099511627776 < a
        · have HB := Aside0.mk (seenB_no (L := L) (k := k) (a := a) (c := c) (by omega))
          go_enter Try.func25, Try.ntmps25
          go_wp2_with (fail)
          refine hcall.mono ?_
          rintro e w1 ⟨rfl, hb⟩
          have b1 := (hb.block w.heap.size (by simp; omega)).trans (blk_alloc (blk_new w _) _)
          have b2 : w1.heap[w.heap.size + 1]? = some (.cells #[.slice none 0 0] 39 (0, 0)) := (hb.block (w.heap.size + 1) (by simp)).trans (by have := blk_new (w.alloc (Obj.cells #[Value.slice A L.length q] 39)) (.cells #[.slice none 0 0] 39 (0, 0)); simpa using this)
          have c1 : w1.cell? ⟨w.heap.size, 0, none⟩ = some (.slice A L.length q) := (blk_cell b1 0).trans rfl
          have c2 : w1.cell? ⟨w.heap.size + 1, 0, none⟩ = some (.slice none 0 0) := (blk_cell b2 0).trans rfl
          have f2 := blk_frozen b2 0
          have HW := Aside0.mk (below_then HBB HBB.size hb)
          have B1 := Aside0.mk b1
          have B2 := Aside0.mk b2
          clear hb b1 b2
          go_wp2_with (fail)
          have c3 : (w1.setCell ⟨w.heap.size + 1, 0, none⟩ (.slice A L.length q)).cell? ⟨w.heap.size + 1, 0, none⟩ = some (.slice A L.length q) := (blk_cell (blk_set B2.out 0 _) 0).trans rfl
          refine bodyPost_ret (v := .tuple #[.agg #[.slice A L.length q], .bool false]) (by simp [results, Try.results25, go_sem, c3]) rfl ?_
          exact ⟨_, by rw [HB.out], .inl ⟨HB.out, rfl⟩, HW.out.setCell (by simp) _⟩
        · have h2b : decide (1099511627776 < a) = false := decide_eq_false h2
          by_cases h3 : 1099511627776 - a < c
          · have HB := Aside0.mk (seenB_no (L := L) (k := k) (a := a) (c := c) (by omega))
            go_enter Try.func25, Try.ntmps25
            go_wp2_with (fail)
            refine hcall.mono ?_
            rintro e w1 ⟨rfl, hb⟩
            have b1 := (hb.block w.heap.size (by simp; omega)).trans (blk_alloc (blk_new w _) _)
            have b2 : w1.heap[w.heap.size + 1]? = some (.cells #[.slice none 0 0] 39 (0, 0)) := (hb.block (w.heap.size + 1) (by simp)).trans (by have := blk_new (w.alloc (Obj.cells #[Value.slice A L.length q] 39)) (.cells #[.slice none 0 0] 39 (0, 0)); simpa using this)
            have c1 : w1.cell? ⟨w.heap.size, 0, none⟩ = some (.slice A L.length q) := (blk_cell b1 0).trans rfl
            have c2 : w1.cell? ⟨w.heap.size + 1, 0, none⟩ = some (.slice none 0 0) := (blk_cell b2 0).trans rfl
            have f2 := blk_frozen b2 0
            have HW := Aside0.mk (below_then HBB HBB.size hb)
            have B1 := Aside0.mk b1
            have B2 := Aside0.mk b2
            clear hb b1 b2
            go_wp2_with (fail)
            have c3 : (w1.setCell ⟨w.heap.size + 1, 0, none⟩ (.slice A L.length q)).cell? ⟨w.heap.size + 1, 0, none⟩ = some (.slice A L.length q) := (blk_cell (blk_set B2.out 0 _) 0).trans rfl
            refine bodyPost_ret (v := .tuple #[.agg #[.slice A L.length q], .bool false]) (by simp [results, Try.results25, go_sem, c3]) rfl ?_
            exact ⟨_, by rw [HB.out], .inl ⟨HB.out, rfl⟩, HW.out.setCell (by simp) _⟩
          · have h3b : decide (1099511627776 - a < c) = false := decide_eq_false h3
            have HB := Aside0.mk (show seenB L k a c = true by
              have e1 := okT_iff.2 (⟨by omega, by omega⟩ : 0 ≤ a ∧ a ≤ 1099511627776)
              have e2 := okT_iff.2 (⟨by omega, by omega⟩ : 0 ≤ c ∧ c ≤ 1099511627776)
              have e3 := okT_iff.2 (⟨by omega, by omega⟩ : 0 ≤ a + c ∧ a + c ≤ 1099511627776)
              simp [seenB, hH, e1, e2, e3])
            go_enter Try.func25, Try.ntmps25
            go_wp2_with (fail)
            refine hcall.mono ?_
            rintro e w1 ⟨rfl, hb⟩
            have b1 := (hb.block w.heap.size (by simp; omega)).trans (blk_alloc (blk_new w _) _)
            have b2 : w1.heap[w.heap.size + 1]? = some (.cells #[.slice none 0 0] 39 (0, 0)) := (hb.block (w.heap.size + 1) (by simp)).trans (by have := blk_new (w.alloc (Obj.cells #[Value.slice A L.length q] 39)) (.cells #[.slice none 0 0] 39 (0, 0)); simpa using this)
            have c1 : w1.cell? ⟨w.heap.size, 0, none⟩ = some (.slice A L.length q) := (blk_cell b1 0).trans rfl
            have c2 : w1.cell? ⟨w.heap.size + 1, 0, none⟩ = some (.slice none 0 0) := (blk_cell b2 0).trans rfl
            have f2 := blk_frozen b2 0
            have HW := Aside0.mk (below_then HBB HBB.size hb)
            have B1 := Aside0.mk b1
            have B2 := Aside0.mk b2
            clear hb b1 b2
            go_wp2_with (fail)
            refine (rput_any A q L ⟨k, a + c⟩ w1 (Kd.C_below HC.out HW.out) hcap hL).mono ?_
            rintro e w2 ⟨v, rfl, hr, hb⟩
            obtain ⟨A', c', hv⟩ := Kd.R_slice hr
            obtain ⟨m, hm⟩ : ∃ m, m = (insL (delL L k) ⟨k, a + c⟩).length := ⟨_, rfl⟩
            rw [← hm] at hv
            subst hv
            clear hm
            have b2 := (hb.block (w.heap.size + 1) (blk_lt B2.out)).trans B2.out
            have c2' : w2.cell? ⟨w.heap.size + 1, 0, none⟩ = some (.slice none 0 0) := (blk_cell b2 0).trans rfl
            have f2' := blk_frozen b2 0
            have c3 : (w2.setCell ⟨w.heap.size + 1, 0, none⟩ (.slice A' m c')).cell? ⟨w.heap.size + 1, 0, none⟩ = some (.slice A' m c') := (blk_cell (blk_set b2 0 _) 0).trans rfl
            have hne : some (w.heap.size + 1) ≠ (Value.slice A' m c').ownBlock := fun e => by
              have h1 := Kd.R_base hr _ e.symm
              have h2 := blk_lt B2.out
              omega
            have HR := Aside0.mk (Kd.R_lower (Kd.R_set hr b2 (by decide) 0 (.slice A' m c')) HW.out.size)
            have HW2 := Aside0.mk (below_then HW.out HW.out.size hb)
            clear hr hb b2 hne
            go_wp2_with (fail)
            refine bodyPost_ret (v := .tuple #[.agg #[.slice A' m c'], .bool true]) (by simp [results, Try.results25, go_sem, c3]) rfl ?_
            exact ⟨_, by rw [HB.out], .inr ⟨HB.out, HR.out⟩, HW2.out.setCell (by simp) _⟩

end Go.Proofs.Ytbocdfpgjkjilaa.T
