/- Take of a queue: what it answers, what it leaves. -/
import Derived.Test.YtmifpookhhkgeaaDoorQE
set_option linter.unusedVariables false
set_option linter.unusedSimpArgs false
namespace Go.Proofs.YtmifpookhhkgeaaDoor.Q
open Go.RowKit Go.Lib Go.Proofs.YtmifpookhhkgeaaDoorW.PrintWords Go.Proofs.YtmifpookhhkgeaaDoorW.PrintMore Go.Proofs.YtmifpookhhkgeaaDoor.P Go.Proofs.YtmifpookhhkgeaaDoor.G
/-- What is taken, and what stays, of items in their order. -/
def takeL : List S47 → Int → Int → List S27 × List S47
  | [], _, _ => ([], [])
  | x :: t, room, limit =>
    if sizeE x.f0 ≤ room then
      (x.f0 :: (takeL t (room - sizeE x.f0) limit).1, if limit ≤ x.f1 + 1 then (takeL t (room - sizeE x.f0) limit).2 else ⟨x.f0, x.f1 + 1, x.f2⟩ :: (takeL t (room - sizeE x.f0) limit).2)
    else ((takeL t room limit).1, x :: (takeL t room limit).2)
theorem e27b : ∀ q, q ∈ 27 :: k27.E → q ≠ 55 := fun q hq => by
  have e : k27.E = [] := rfl
  rw [e] at hq
  rcases List.mem_cons.1 hq with rfl | h
  · decide
  · cases h
theorem size_set (W : World) (p : Addr) (u : Value) : (W.setCell p u).heap.size = W.heap.size := by simp
theorem takeL_cons (x : S47) (t : List S47) (room limit : Int) : takeL (x :: t) room limit = if sizeE x.f0 ≤ room then (x.f0 :: (takeL t (room - sizeE x.f0) limit).1, if limit ≤ x.f1 + 1 then (takeL t (room - sizeE x.f0) limit).2 else ⟨x.f0, x.f1 + 1, x.f2⟩ :: (takeL t (room - sizeE x.f0) limit).2) else ((takeL t room limit).1, x :: (takeL t room limit).2) := rfl
theorem e47 : ∀ q, q ∈ 47 :: k47.E → q ≠ 27 := fun q hq => by
  have e : k47.E = [] := rfl
  rw [e] at hq
  rcases List.mem_cons.1 hq with rfl | h
  · decide
  · cases h
theorem e27 : ∀ q, q ∈ 27 :: k27.E → q ≠ 47 := fun q hq => by
  have e : k27.E = [] := rfl
  rw [e] at hq
  rcases List.mem_cons.1 hq with rfl | h
  · decide
  · cases h
theorem info47A : (Tryd.prog.info? 47).map (fun i => (i.zero, i.size, i.bytes)) = some (some (.agg #[(.string ⟨#[]⟩), (.int .i64 0), (.int .u16 0), (.string ⟨#[]⟩), (.int .i64 0), (.int .i64 0), (.int .i64 0)]), k47.sz, 72) := by kernel_rfl
theorem grownBy_refl (w : World) (row : Option Nat) : w.grownBy w row := ⟨rfl, rfl, rfl, Nat.le_refl _, fun _ _ _ => rfl⟩
theorem sort_all (v : Value) (l : List S47) (w : World) (base : Nat) (ok : Nat → Prop) (hR : WR w base ok v l) (hn : l = [] → v = .slice none 0 0) (h8 : l.length ≤ 1000000) :
    Calls Tryd.prog 26 #[v, .func (.func 27) #[] #[]] w fun e w' => e = .returned (.tuple #[]) ∧ ∃ l', l'.Perm l ∧ SortedQ l' ∧ WR w' base ok v l' ∧ w.grownBy w' v.ownBlock := by
  by_cases hl : l = []
  · subst hl
    obtain rfl := hn rfl
    refine (sortFunc_nil w).mono ?_
    rintro e w' ⟨rfl, rfl⟩
    exact ⟨rfl, [], List.Perm.refl _, List.Pairwise.nil, hR, grownBy_refl _ _⟩
  · obtain ⟨A, c, c', rfl, hc, hr, hcc⟩ := hR
    refine (sortFunc_any A c c' l w base ok hr (List.length_pos_iff.2 hl) h8).mono ?_
    rintro e w' ⟨rfl, l', hp, hs, hr', hg⟩
    rw [own_cap A _ c' c] at hg
    have hlen := hp.length_eq
    exact ⟨rfl, l', hp, hs, ⟨A, c, c', by rw [hlen], by rw [hlen]; exact hc, by rw [hlen]; exact hr', by rw [hlen]; exact hcc⟩, hg⟩
theorem Qv.sorted {B : Nat} {w w' : World} {g : Nat} {v : Value} {l l' : List S47} {came lost : Int} (h : Qv B w g v l came lost) (hp : l'.Perm l) (hr : WR w' B (fun k => k ≠ g) v l') (hg : w.grownBy w' v.ownBlock) : Qv B w' g v l' came lost ∧ Ex w w' g v v :=
  ⟨⟨blk_grown h.cell hg (fun e => (h.row.bound e.symm).1 rfl), h.low, hr, fun e => h.nil (by rw [e] at hp; exact hp.symm.eq_nil)⟩, ⟨hg.os, hg.tape, hg.output, KeepBut.of_grown hg g, fun b hb => .inl hb⟩⟩
theorem rd47_get (l : List S47) (j : Nat) (h : j < l.length) : rd_T47 l (j : Int) = l[j] := by simp [rd_T47, h]
theorem take_step (l : List S47) (j : Nat) (h : j < l.length) (room limit : Int) : takeL (l.drop j) room limit = takeL (l[j] :: l.drop (j + 1)) room limit := by rw [List.drop_eq_getElem_cons h]
set_option maxHeartbeats 4000000 in
set_option maxRecDepth 100000 in
theorem take_any (g : Nat) (v : Value) (l : List S47) (came lost room limit : Int) (W0 w : World) (h : Qv W0.heap.size w g v l came lost) (hB0 : Below W0.heap.size W0 w) (hT : TabS W0) (hval : ∀ x ∈ l, checkC x.f0 = 0) (h8 : l.length ≤ 1000)
    (hs : ∀ x ∈ l, 0 ≤ x.f1 ∧ x.f1 ≤ 1000000000) (hr0 : room ≤ 9223372036854775807) :
    Calls Tryd.prog 11 #[.pointer (some ⟨g, 0, none⟩), .int .i64 room, .int .i64 limit] w fun e w' => ∃ v7 v8 l', e = .returned v7 ∧ l'.Perm l ∧ SortedQ l' ∧ Kd.R k27 27 w' w.heap.size (fun _ => True) v7 (takeL l' room limit).1 ∧ Qv W0.heap.size w' g v8 (takeL l' room limit).2 came lost ∧ Ex w w' g v v8 := by
  obtain ⟨A0, c0, hv, hc0, hC0⟩ := h.reads
  have h0 : w.cell? ⟨g, 0, none⟩ = some v := (blk_cell h.cell 0).trans rfl
  have HQ := Aside0.mk h
  have HSO := Aside0.mk (sort_all v l w W0.heap.size (fun k => k ≠ g) h.row h.nil (by omega))
  obtain ⟨n0, hn0⟩ : ∃ n0, n0 = l.length := ⟨_, rfl⟩
  rw [← hn0] at hv
  subst hv
  have HN0 := Aside0.mk hn0
  clear h hc0 hC0 hn0
  go_enter Tryd.func11, Tryd.ntmps11
  go_wp2_with (fail)
  refine HSO.out.mono ?_
  rintro e w1 ⟨rfl, l', hp, hso, hr, hg⟩
  obtain ⟨hQ1, hX1⟩ := HQ.out.sorted hp hr hg
  have HQ1 := Aside0.mk hQ1
  have HX1 := Aside0.mk hX1
  have HP := Aside0.mk hp
  have HSD := Aside0.mk hso
  have HB1 := Aside0.mk (hX1.below HQ.out hB0)
  have HVAL := Aside0.mk (show ∀ x ∈ l', checkC x.f0 = 0 from fun x hx => hval x (hp.mem_iff.1 hx))
  have HS := Aside0.mk (show ∀ x ∈ l', 0 ≤ x.f1 ∧ x.f1 ≤ 1000000000 from fun x hx => hs x (hp.mem_iff.1 hx))
  have hlen : l'.length = n0 := by rw [HN0.out]; exact hp.length_eq
  obtain ⟨A, c, hv, hc, hC⟩ := hQ1.reads
  rw [hlen] at hv
  obtain ⟨rfl, rfl⟩ : A0 = A ∧ c0 = c := by simpa using hv
  have q0 : w1.cell? ⟨g, 0, none⟩ = some (.slice A0 n0 c0) := (blk_cell hQ1.cell 0).trans rfl
  have HC := Aside0.mk hC
  have HT := Aside0.mk hT
  have HLN := Aside0.mk hlen
  have hn8 : n0 ≤ 1000 := by rw [HN0.out]; exact h8
  clear hp hso hr hg hQ1 hX1 hval hs hv hC hc hT HSO h0 h8 hB0 hlen
  go_wp2_with (fail)
  go_loopg [1, 7, 8, 24] (n0 + 1) (fun kq u1 u7 u8 u24 wr => ∃ (j : Nat) (rm : Int) (out : List S27) (left : List S47), u1 = .int .i64 rm ∧ u24 = .int .i64 (j : Int) ∧ Aside0 (j ≤ n0 ∧ j + kq = n0 + 1) ∧ Aside0 (out.length ≤ j ∧ left.length ≤ j) ∧ Aside0 (rm ≤ 9223372036854775807) ∧ Aside0 (Below w1.heap.size w1 wr) ∧ Aside0 (Kd.R k27 27 wr w1.heap.size (fun _ => True) u7 out) ∧ Aside0 (Kd.R k47 47 wr w1.heap.size (fun _ => True) u8 left) ∧ Aside0 (left = [] → u8 = .slice none 0 0) ∧ Aside0 (takeL l' room limit = (out ++ (takeL (l'.drop j) rm limit).1, left ++ (takeL (l'.drop j) rm limit).2)))
  case atStart => exact ⟨0, room, [], [], rfl, rfl, ⟨by omega⟩, ⟨by simp⟩, ⟨hr0⟩, ⟨Below.refl _ _⟩, ⟨Kd.R_nil _ _ _ _ _⟩, ⟨Kd.R_nil _ _ _ _ _⟩, ⟨fun _ => rfl⟩, ⟨by simp⟩⟩
  case round =>
    obtain ⟨j, rm, out, left, rfl, rfl, HJ, HLE, HRM, HB, HO, HL, HNL, HTK⟩ := hrel
    obtain ⟨hj0, hjk⟩ := HJ.out
    by_cases hlt : j < n0
    · cases gk with
      | zero => exact absurd hjk (by omega)
      | succ k1 =>
        have hlt1 : decide ((j : Int) < (n0 : Int)) = true := decide_eq_true (by omega)
        have hlt2 : decide (j < n0) = true := decide_eq_true hlt
        obtain ⟨ad, hA, f0, f1, f2, f3, f4, f5, f6⟩ := at_T47 HC.out (j : Int) (by omega) (by have := HLN.out; omega)
        subst hA
        rw [Int.toNat_natCast] at f0 f1 f2 f3 f4 f5 f6
        obtain ⟨y, hy⟩ : ∃ y, y = rd_T47 l' (j : Int) := ⟨_, rfl⟩
        rw [← hy] at f0 f1 f2 f3 f4 f5 f6
        rw [rd47_get l' j (by have := HLN.out; omega)] at hy
        have HY := Aside0.mk hy
        have hmem : y ∈ l' := by rw [hy]; exact List.getElem_mem _
        have HCK := Aside0.mk (HVAL.out y hmem)
        have HSY := Aside0.mk (HS.out y hmem)
        have hB := HB.out
        replace f0 := (hB.cell (World.block_lt_of_cell? w1 _ f0)).trans f0
        replace f1 := (hB.cell (World.block_lt_of_cell? w1 _ f1)).trans f1
        replace f2 := (hB.cell (World.block_lt_of_cell? w1 _ f2)).trans f2
        replace f3 := (hB.cell (World.block_lt_of_cell? w1 _ f3)).trans f3
        replace f4 := (hB.cell (World.block_lt_of_cell? w1 _ f4)).trans f4
        replace f5 := (hB.cell (World.block_lt_of_cell? w1 _ f5)).trans f5
        replace f6 := (hB.cell (World.block_lt_of_cell? w1 _ f6)).trans f6
        have HSZ := Aside0.mk (fun W (hW : Below wr.heap.size wr W) => esize_any (e := y.f0) HCK.out W (HT.out.below (below_then HB1.out HB1.out.size (below_then HB.out HB.out.size hW))))
        obtain ⟨sz, hsz⟩ : ∃ sz, sz = sizeE y.f0 := ⟨_, rfl⟩
        rw [← hsz] at HSZ
        have HSE := Aside0.mk hsz
        have hsr := size_rng HCK.out
        rw [← hsz] at hsr
        have HSZ' := Aside0.mk (HSZ.out (wr.alloc (.cells #[.string y.f0.f0, .int .i64 y.f0.f1, .int .u16 y.f0.f2, .string y.f0.f3, .int .i64 y.f0.f4, .int .i64 y.f1, .int .i64 y.f2] 47)) (below_alloc (Below.refl _ wr) _))
        unfold encE at HSZ'
        clear hy hmem hB hsz HSZ
        go_wp2_with (fail)
        refine HSZ'.out.mono ?_
        rintro e w4 ⟨rfl, hb4⟩
        have hb34 := below_then (below_alloc (Below.refl _ wr) (.cells #[.string y.f0.f0, .int .i64 y.f0.f1, .int .u16 y.f0.f2, .string y.f0.f3, .int .i64 y.f0.f4, .int .i64 y.f1, .int .i64 y.f2] 47)) (by simp) hb4
        have hp4 : w4.heap[wr.heap.size]? = some (.cells #[.string y.f0.f0, .int .i64 y.f0.f1, .int .u16 y.f0.f2, .string y.f0.f3, .int .i64 y.f0.f4, .int .i64 y.f1, .int .i64 y.f2] 47 (0, 0)) := (hb4.block _ (by simp)).trans (heap_alloc_new wr _)
        obtain ⟨pp, hpp⟩ : ∃ pp, pp = wr.heap.size := ⟨_, rfl⟩
        have HB4 := Aside0.mk (below_then HB.out HB.out.size hb34)
        have HO4 := Aside0.mk (Kd.R_below (Kd.R_mono (ok' := fun k => k ≠ pp) (Kd.R_bound HO.out) (fun k hk e => by have := hk.2.2.1; omega)) hb34)
        have HLL := Aside0.mk (Kd.R_below (Kd.R_mono (ok' := fun k => k ≠ pp) (Kd.R_bound HL.out) (fun k hk e => by have := hk.2.2.1; omega)) hb34)
        have hpl : w1.heap.size ≤ pp := by rw [hpp]; exact HB.out.size
        rw [← hpp] at hp4 ⊢
        have HP4 := Aside0.mk hp4
        have y0 := (blk_cell hp4 0).trans rfl
        have y1 := (blk_cell hp4 1).trans rfl
        have y2 := (blk_cell hp4 2).trans rfl
        have y3 := (blk_cell hp4 3).trans rfl
        have y4 := (blk_cell hp4 4).trans rfl
        have y5 := (blk_cell hp4 5).trans rfl
        have y6 := (blk_cell hp4 6).trans rfl
        have g5 := blk_frozen hp4 5
        have hpz : pp < w4.heap.size := blk_lt hp4
        clear hb4 hb34 hp4 hpp HSZ' f0 f1 f2 f3 f4 f5 f6 HB HO HL
        by_cases hfit : sz ≤ rm
        · have hfit1 : decide (sz ≤ rm) = true := decide_eq_true hfit
          have HFIT := Aside0.mk hfit
          have hwr : wrap64 (rm - sz) = rm - sz := by have := HRM.out; unfold wrap64; omega
          have HNE0 := Aside0.mk (show ∀ k, w4.heap.size ≤ k → k ≠ pp from fun k hk => by omega)
          have hw1 : wrap64 (y.f1 + 1) = y.f1 + 1 := by have := HSY.out; unfold wrap64; omega
          by_cases hlim : limit ≤ y.f1 + 1
          · have hl1 : decide (y.f1 + 1 ≥ limit) = true := decide_eq_true hlim
            have hl2 : decide (limit ≤ y.f1 + 1) = true := decide_eq_true hlim
            have HLIM := Aside0.mk hlim
            clear hlim
            go_wp2_with ((with_reducible refine gate_builtin (b := .append) (xs := #[.tmp 37, .tmp 40]) rfl ?_); at_builtin; refine Kd.R_append k27 (w0 := w1) w1.heap.size rfl (.tmp 37) (.tmp 40) 30 27 (.agg #[(.string ⟨#[]⟩), (.int .i64 0), (.int .u16 0), (.string ⟨#[]⟩), (.int .i64 0)]) 56 rfl Tryd.underlying30 info27 rfl (by decide) (by omega) u7 out y.f0 [.string y.f0.f0, .int .i64 y.f0.f1, .int .u16 y.f0.f2, .string y.f0.f3, .int .i64 y.f0.f4] (fun k => k ≠ pp) (fun _ => False) rfl rfl (k27_mkM _ _ _ y.f0) (fun _ hk => hk.elim) HNE0.out HO4.out HB4.out HB4.out.size (by have := HLE.out; omega) ?_; intro v5 w5 ho5 hb5 hg5 hat5; have hp5 := blk_grown HP4.out hg5 (fun e => HO4.out.1 pp e.symm rfl); have z0 := (blk_cell hp5 0).trans rfl; have z1 := (blk_cell hp5 1).trans rfl; have z2 := (blk_cell hp5 2).trans rfl; have z3 := (blk_cell hp5 3).trans rfl; have z4 := (blk_cell hp5 4).trans rfl; have z5 := (blk_cell hp5 5).trans rfl; have z6 := (blk_cell hp5 6).trans rfl; have zf := blk_frozen hp5 5; have HP5 := Aside0.mk hp5; clear hp5)
            have HB6 := Aside0.mk (below_set (g := pp) (j := 5) (v := .int .i64 (y.f1 + 1)) hb5 (by omega))
            have HO6 := Aside0.mk (Kd.R_far ho5 (p := ⟨pp, 5, none⟩) (fun k hk => hk) (.int .i64 (y.f1 + 1)))
            have HL6 := Aside0.mk (Kd.R_far (Kd.R_grown (Kd.R_apartR HLL.out HO4.out e47) hg5 (fun k hk => hk.2)) (p := ⟨pp, 5, none⟩) (fun k hk => hk.1) (.int .i64 (y.f1 + 1)))
            clear ho5 hb5 hg5 hat5
            go_roundg k1
            case measure => omega
            case rel => exact ⟨j + 1, rm - sz, out ++ [y.f0], left, rfl, by simp, ⟨by have := HJ.out; omega⟩, ⟨by have := HLE.out; simp only [List.length_append, List.length_singleton]; omega⟩, ⟨by have := HRM.out; omega⟩, HB6, ⟨Kd.R_mono HO6.out (fun _ _ => trivial)⟩, ⟨Kd.R_mono HL6.out (fun _ _ => trivial)⟩, HNL, ⟨by rw [HTK.out, take_step l' j (by have := HLN.out; omega), ← HY.out, takeL_cons]; rw [if_pos (by have := HFIT.out; rw [← HSE.out]; omega), if_pos HLIM.out, ← HSE.out]; simp⟩⟩
          · have hl1 : decide (y.f1 + 1 ≥ limit) = false := decide_eq_false (by omega)
            have hl2 : decide (limit ≤ y.f1 + 1) = false := decide_eq_false hlim
            have HLIM := Aside0.mk hlim
            clear hlim
            go_wp2_with (first | ((with_reducible refine gate_builtin (b := .append) (xs := #[.tmp 37, .tmp 40]) rfl ?_); at_builtin; refine Kd.R_append k27 (w0 := w1) w1.heap.size rfl (.tmp 37) (.tmp 40) 30 27 (.agg #[(.string ⟨#[]⟩), (.int .i64 0), (.int .u16 0), (.string ⟨#[]⟩), (.int .i64 0)]) 56 rfl Tryd.underlying30 info27 rfl (by decide) (by omega) u7 out y.f0 [.string y.f0.f0, .int .i64 y.f0.f1, .int .u16 y.f0.f2, .string y.f0.f3, .int .i64 y.f0.f4] (fun k => k ≠ pp) (fun _ => False) rfl rfl (k27_mkM _ _ _ y.f0) (fun _ hk => hk.elim) HNE0.out HO4.out HB4.out HB4.out.size (by have := HLE.out; omega) ?_; intro v5 w5 ho5 hb5 hg5 hat5; have hp5 := blk_grown HP4.out hg5 (fun e => HO4.out.1 pp e.symm rfl); have z0 := (blk_cell hp5 0).trans rfl; have z1 := (blk_cell hp5 1).trans rfl; have z2 := (blk_cell hp5 2).trans rfl; have z3 := (blk_cell hp5 3).trans rfl; have z4 := (blk_cell hp5 4).trans rfl; have z5 := (blk_cell hp5 5).trans rfl; have z6 := (blk_cell hp5 6).trans rfl; have zf := blk_frozen hp5 5; have HP5 := Aside0.mk hp5; clear hp5) | ((with_reducible refine gate_builtin (b := .append) (xs := #[.tmp 50, .tmp 52]) rfl ?_); at_builtin; refine Kd.R_append k47 (w0 := w1) w1.heap.size rfl (.tmp 50) (.tmp 52) 43 47 (.agg #[(.string ⟨#[]⟩), (.int .i64 0), (.int .u16 0), (.string ⟨#[]⟩), (.int .i64 0), (.int .i64 0), (.int .i64 0)]) 72 rfl Tryd.underlying43 info47A rfl (by decide) (by omega) u8 left ⟨y.f0, y.f1 + 1, y.f2⟩ [.string y.f0.f0, .int .i64 y.f0.f1, .int .u16 y.f0.f2, .string y.f0.f3, .int .i64 y.f0.f4, .int .i64 (y.f1 + 1), .int .i64 y.f2] (fun k => k ≠ pp) (fun _ => False) rfl (by rw [size_set]; rfl) (k47_mkM _ _ _ ⟨y.f0, y.f1 + 1, y.f2⟩) (fun _ hk => hk.elim) (fun k hk => by rw [size_set] at hk; have := blk_lt HP5.out; omega) (Kd.R_mono (Kd.R_far (Kd.R_grown (Kd.R_apartR HLL.out HO4.out e47) hg5 (fun k hk => hk.2)) (p := ⟨pp, 5, none⟩) (fun k hk => hk.1) (.int .i64 (y.f1 + 1))) (fun k hk => hk.1)) (below_set (g := pp) (j := 5) (v := .int .i64 (y.f1 + 1)) hb5 (by omega)) (below_set (g := pp) (j := 5) (v := .int .i64 (y.f1 + 1)) hb5 (by omega)).size (by have := HLE.out; omega) ?_; intro v9 w9 ho9 hb9 hg9 hat9))
            have HO6 := Aside0.mk (Kd.R_far ho5 (p := ⟨pp, 5, none⟩) (fun k hk => hk) (.int .i64 (y.f1 + 1)))
            have HL6 := Aside0.mk (Kd.R_far (Kd.R_grown (Kd.R_apartR HLL.out HO4.out e47) hg5 (fun k hk => hk.2)) (p := ⟨pp, 5, none⟩) (fun k hk => hk.1) (.int .i64 (y.f1 + 1)))
            clear ho5 hb5 hg5 hat5
            have HB9 := Aside0.mk hb9
            have HL9 := Aside0.mk (Kd.R_mono (ok' := fun _ => True) ho9 (fun _ _ => trivial))
            have HO9 := Aside0.mk (Kd.R_mono (ok' := fun _ => True) (Kd.R_grown (Kd.R_apartR HO6.out HL6.out e27) hg9 (fun k hk => hk.2)) (fun _ _ => trivial))
            clear ho9 hb9 hg9 hat9
            go_wp2_with (fail)
            go_roundg k1
            case measure => omega
            case rel => exact ⟨j + 1, rm - sz, out ++ [y.f0], left ++ [⟨y.f0, y.f1 + 1, y.f2⟩], rfl, by simp, ⟨by have := HJ.out; omega⟩, ⟨by have := HLE.out; simp only [List.length_append, List.length_singleton]; omega⟩, ⟨by have := HRM.out; omega⟩, HB9, HO9, HL9, ⟨fun e => by simp at e⟩, ⟨by rw [HTK.out, take_step l' j (by have := HLN.out; omega), ← HY.out, takeL_cons]; rw [if_pos (by have := HFIT.out; rw [← HSE.out]; omega), if_neg (by have := HLIM.out; omega), ← HSE.out]; simp⟩⟩
        · have hfit1 : decide (sz ≤ rm) = false := decide_eq_false hfit
          have HFIT := Aside0.mk hfit
          have HNE := Aside0.mk (show ∀ k, w4.heap.size ≤ k → k ≠ pp from fun k hk => by omega)
          clear hfit
          go_wp2_with ((with_reducible refine gate_builtin (b := .append) (xs := #[.tmp 50, .tmp 52]) rfl ?_); at_builtin; refine Kd.R_append k47 (w0 := w1) w1.heap.size rfl (.tmp 50) (.tmp 52) 43 47 (.agg #[(.string ⟨#[]⟩), (.int .i64 0), (.int .u16 0), (.string ⟨#[]⟩), (.int .i64 0), (.int .i64 0), (.int .i64 0)]) 72 rfl Tryd.underlying43 info47A rfl (by decide) (by omega) u8 left ⟨y.f0, y.f1, y.f2⟩ [.string y.f0.f0, .int .i64 y.f0.f1, .int .u16 y.f0.f2, .string y.f0.f3, .int .i64 y.f0.f4, .int .i64 y.f1, .int .i64 y.f2] (fun k => k ≠ pp) (fun _ => False) rfl rfl (k47_mkM _ _ _ ⟨y.f0, y.f1, y.f2⟩) (fun _ hk => hk.elim) HNE.out HLL.out HB4.out HB4.out.size (by have := HLE.out; omega) ?_; intro v9 w9 ho9 hb9 hg9 hat9)
          have HB9 := Aside0.mk hb9
          have HL9 := Aside0.mk (Kd.R_mono (ok' := fun _ => True) ho9 (fun _ _ => trivial))
          have HO9 := Aside0.mk (Kd.R_mono (ok' := fun _ => True) (Kd.R_grown (Kd.R_apartR HO4.out HLL.out e27) hg9 (fun k hk => hk.2)) (fun _ _ => trivial))
          clear ho9 hb9 hg9 hat9
          go_wp2_with (fail)
          go_roundg k1
          case measure => omega
          case rel => exact ⟨j + 1, rm, out, left ++ [⟨y.f0, y.f1, y.f2⟩], rfl, by simp, ⟨by have := HJ.out; omega⟩, ⟨by have := HLE.out; simp only [List.length_append, List.length_singleton]; omega⟩, ⟨by have := HRM.out; omega⟩, HB9, HO9, HL9, ⟨fun e => by simp at e⟩, ⟨by rw [HTK.out, take_step l' j (by have := HLN.out; omega), ← HY.out, takeL_cons]; rw [if_neg (by have := HFIT.out; rw [← HSE.out]; omega)]; simp⟩⟩
    · have hlt1 : decide ((j : Int) < (n0 : Int)) = false := decide_eq_false (by omega)
      have hlt2 : decide (j < n0) = false := decide_eq_false hlt
      have HTE := Aside0.mk (show takeL l' room limit = (out, left) by
        rw [HTK.out, List.drop_of_length_le (by have := HLN.out; omega)]
        simp [takeL])
      have hk := HQ1.out.below HB.out
      obtain ⟨A8, c8, hv8, _, _⟩ := Kd.R_reads HL.out
      have z0 := (blk_cell hk.cell 0).trans rfl
      have zf := blk_frozen hk.cell 0
      have HKC := Aside0.mk hk.cell
      have HLG := Aside0.mk (show Kd.R k47 47 wr w1.heap.size (fun k => k ≠ g) u8 left from Kd.R_mono (Kd.R_bound HL.out) (fun k hk2 e => by have h1 := hk2.2.1; have h2 := HQ1.out.lt; omega))
      clear hk
      subst hv8
      go_wp2_with (fail)
      go_ret
      have hx : Ex w wr g (.slice A0 n0 c0) (.slice A0 n0 c0) := HX1.out.trans (Ex.of_below HB.out g _)
      refine ⟨u7, rfl, .slice A8 left.length c8, l', HP.out, HSD.out, ?_, ⟨?_, HQ.out.low, ?_, ?_⟩, ⟨hx.os, hx.tape, hx.output, ⟨Nat.le_trans hx.keep.1 (by rw [size_set]; exact Nat.le_refl _), fun i hi hg2 hr2 => ?_⟩, fun b hb => ?_⟩⟩
      · rw [HTE.out]
        exact Kd.R_mono (Kd.R_lower (Kd.R_far (Kd.R_types HO.out HKC.out e27b) (p := ⟨g, 0, none⟩) (fun k hk => hk.2) (.slice A8 left.length c8)) HX1.out.size) (fun _ _ => trivial)
      · exact blk_put HKC.out 0 (.slice A8 left.length c8) rfl
      · rw [HTE.out]
        exact WR.of_R (Kd.R_lower (Kd.R_far HLG.out (p := ⟨g, 0, none⟩) (fun k hk => hk) (.slice A8 left.length c8)) HB1.out.size)
      · rw [HTE.out]; exact HNL.out
      · rw [Below.heap_setCell wr ⟨g, 0, none⟩ _ i hg2]
        exact hx.keep.2 i hi hg2 hr2
      · exact .inr (Nat.le_trans HX1.out.size ((Kd.R_bound HL.out).1 b hb).2.1)
end Go.Proofs.YtmifpookhhkgeaaDoor.Q
