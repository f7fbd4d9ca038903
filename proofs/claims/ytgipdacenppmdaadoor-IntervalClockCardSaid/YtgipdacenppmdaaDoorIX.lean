/- Read: the walk. -/
import Derived.Test.YtgipdacenppmdaaDoorIR
import Derived.Test.YtgipdacenppmdaaDoorReg
set_option linter.unusedVariables false
set_option linter.unusedSimpArgs false
namespace Go.Proofs.YtgipdacenppmdaaDoor.G
open Go.RowKit Go.Shelf Go.Lib Go.Sort Go.Proofs.YtgipdacenppmdaaDoorW.PrintWords Go.Proofs.YtgipdacenppmdaaDoor.P
theorem add_own (g j : Nat) : (⟨g, 0, none⟩ : Addr).add j = ⟨g, j, none⟩ := by rw [Addr.add_lit, Nat.zero_add]
theorem toList_eq {a b : ByteArray} : a.toList = b.toList ↔ a = b := ⟨fun h => by rw [ByteArray.toList_eq, ByteArray.toList_eq] at h; exact ByteArray.ext (Array.toList_inj.mp h), fun h => by rw [h]⟩
theorem G6.trans {w0 w1 w2 : World} {p : Nat} (h : G6 w0 w1 p) (h2 : G6 w1 w2 p) : G6 w0 w2 p :=
 ⟨h2.os.trans h.os, h2.tape.trans h.tape, h2.output.trans h.output, Nat.le_trans h.size h2.size, fun k hk hp => (h2.block k (Nat.lt_of_lt_of_le hk h.size) hp).trans (h.block k hk hp)⟩
theorem set_set (vs : Nat → Value) (nm : ByteArray) (ah : Int) (k : Nat) (hk : k < 5) (v v' : Value) : ((cs24 nm vs ah).setIfInBounds (k + 1) v).setIfInBounds (k + 1) v' = (cs24 nm vs ah).setIfInBounds (k + 1) v' := by
 have h : k = 0 ∨ k = 1 ∨ k = 2 ∨ k = 3 ∨ k = 4 := by omega
 rcases h with rfl | rfl | rfl | rfl | rfl <;> simp [cs24]
theorem RS.row_out {b b' : Nat} {W WF : World} {p5 p6 p2 : Nat} {nm : ByteArray} {vs : Nat → Value} {ls : Nat → List S37} {ah : Int} (h : RS b W p5 p6 nm vs ls ah) (hG : G6 W WF p2) (hp : p2 < b) (i : Nat) (hi : i < 5) (hb : b' ≤ b) {ok : Nat → Prop} (hok : ∀ k, (vs i).ownBlock = some k → ok k) : Kd.R k37 37 WF b' ok (vs i) (ls i) :=
 Kd.R_reok rfl (Kd.R_lower (Kd.R_step (Kd.R_bound (h.row i hi)) (fun k ho hlt => hG.block k hlt (by have := ho.2.1; omega))) hb) hok
theorem rdK_skip {key rest : ByteArray} {k : Nat} {ls : Nat → List S37} (h : ¬ wordB (k : Int) = key) : rdK key rest k ls = rdK key rest (k + 1) ls := by
 funext i
 unfold rdK
 by_cases e : i = k
 ·subst e; rw [if_neg (by omega), if_neg (fun h' => h h'.2)]
 ·by_cases e2 : i < k ∧ wordB (i : Int) = key
  ·rw [if_pos e2, if_pos ⟨by omega, e2.2⟩]
  ·rw [if_neg e2, if_neg (fun h' => e2 ⟨by omega, h'.2⟩)]
theorem rdK_hit {key rest : ByteArray} {k : Nat} {ls : Nat → List S37} (h : wordB (k : Int) = key) : (fun i => if i = k then rgsB (k : Int) rest else rdK key rest k ls i) = rdK key rest (k + 1) ls := by
 funext i
 by_cases e : i = k
 ·subst e; simp only [if_true]; unfold rdK; rw [if_pos ⟨by omega, h⟩]
 ·simp only [e, if_false]
  unfold rdK
  by_cases e2 : i < k ∧ wordB (i : Int) = key
  ·rw [if_pos e2, if_pos ⟨by omega, e2.2⟩]
  ·rw [if_neg e2, if_neg (fun h' => e2 ⟨by omega, h'.2⟩)]
set_option maxHeartbeats 8000000 in
set_option maxRecDepth 100000 in
theorem IRead.calls (a0 : ByteArray) (r1 : ByteArray) (r2 : List (S37)) (r3 : List (S37)) (r4 : List (S37)) (r5 : List (S37)) (r6 : List (S37)) (r7 : Int) (r8 : Int) (w : World) (hT : TabS w) (h : IRead.f a0 = some (r1, r2, r3, r4, r5, r6, r7, r8)) :
  Calls Tryd.prog 16 #[.string a0] w fun e w' => ∃ v1_ v2_ v3_ v4_ v5_ : Value, e = .returned (.tuple #[.agg #[.string r1, v1_, v2_, v3_, v4_, v5_, .int .i64 r7], .int .i64 r8]) ∧ Kd.R k37 37 w' w.heap.size (fun k_ => some k_ ≠ (v2_ : Value).ownBlock ∧ some k_ ≠ (v3_ : Value).ownBlock ∧ some k_ ≠ (v4_ : Value).ownBlock ∧ some k_ ≠ (v5_ : Value).ownBlock) v1_ r2 ∧ Kd.R k37 37 w' w.heap.size (fun k_ => some k_ ≠ (v1_ : Value).ownBlock ∧ some k_ ≠ (v3_ : Value).ownBlock ∧ some k_ ≠ (v4_ : Value).ownBlock ∧ some k_ ≠ (v5_ : Value).ownBlock) v2_ r3 ∧ Kd.R k37 37 w' w.heap.size (fun k_ => some k_ ≠ (v1_ : Value).ownBlock ∧ some k_ ≠ (v2_ : Value).ownBlock ∧ some k_ ≠ (v4_ : Value).ownBlock ∧ some k_ ≠ (v5_ : Value).ownBlock) v3_ r4 ∧ Kd.R k37 37 w' w.heap.size (fun k_ => some k_ ≠ (v1_ : Value).ownBlock ∧ some k_ ≠ (v2_ : Value).ownBlock ∧ some k_ ≠ (v3_ : Value).ownBlock ∧ some k_ ≠ (v5_ : Value).ownBlock) v4_ r5 ∧ Kd.R k37 37 w' w.heap.size (fun k_ => some k_ ≠ (v1_ : Value).ownBlock ∧ some k_ ≠ (v2_ : Value).ownBlock ∧ some k_ ≠ (v3_ : Value).ownBlock ∧ some k_ ≠ (v4_ : Value).ownBlock) v5_ r6 ∧ Below w.heap.size w w' := by
 unfold IRead.f at h
 by_cases hs : a0.size ≤ 1000000
 case neg => rw [if_neg hs] at h; cases h
 rw [if_pos hs] at h
 have HF := Aside0.mk h
 obtain ⟨X, hX⟩ : ∃ X, X = rdAll a0 := ⟨_, rfl⟩
 have HX := Aside0.mk hX
 obtain ⟨l, hl⟩ : ∃ l, l = splitC a0 ⟨#[32]⟩ := ⟨_, rfl⟩
 have HT := Aside0.mk hT
 have HSP := Aside0.mk (fun W (hW : Below w.heap.size w W) => SSplit.calls a0 ⟨#[32]⟩ _ W (HT.out.below hW) (split_f a0 ⟨#[32]⟩ hs (by decide)))
 have HLE := Aside0.mk (show ∀ x ∈ l, x.size ≤ 1000000 from fun x hx => by rw [hl] at hx; have := splitC_le _ _ _ hx; omega)
 have hlb := splitC_len a0 ⟨#[32]⟩ (by decide)
 rw [← hl] at HSP hlb
 have HXL := Aside0.mk (show X = mk24 (l.getD 0 ByteArray.empty) (l.tail.foldl rdStep (fun _ => [], 0)).1 (l.tail.foldl rdStep (fun _ => [], 0)).2 by rw [hX, hl]; rfl)
 have HS := Aside0.mk hs
 clear hT h hs hl hX
 obtain ⟨n, hn⟩ : ∃ n, n = l.length := ⟨_, rfl⟩
 have HLN := Aside0.mk hn
 rw [← hn] at hlb
 have hn1 : 1 ≤ n := hlb.1
 have hn0 : 0 < n := hlb.1
 have hnm : n ≤ 1000001 := by have := HS.out; omega
 clear hn hlb
 go_enter Tryd.func16, Tryd.ntmps16
 go_wp2_with (fail)
 have HP2 := Aside0.mk (heap_alloc_new w (.cells #[.string ⟨#[]⟩, .slice none 0 0, .slice none 0 0, .slice none 0 0, .slice none 0 0, .slice none 0 0, .int .i64 0] 24))
 have HB1 := Aside0.mk (below_alloc (Below.refl w.heap.size w) (.cells #[.string ⟨#[]⟩, .slice none 0 0, .slice none 0 0, .slice none 0 0, .slice none 0 0, .slice none 0 0, .int .i64 0] 24))
 refine (HSP.out _ HB1.out).mono ?_
 rintro e w2 ⟨v0, rfl, hR, hb⟩
 obtain ⟨p2, hp2⟩ : ∃ p2, p2 = w.heap.size := ⟨_, rfl⟩
 have HPB := Aside0.mk (show w2.heap[p2]? = some (.cells #[.string ⟨#[]⟩, .slice none 0 0, .slice none 0 0, .slice none 0 0, .slice none 0 0, .slice none 0 0, .int .i64 0] 24 (0, 0)) by rw [hp2]; exact (hb.block _ (by simp)).trans HP2.out)
 have HPZ := Aside0.mk hp2
 obtain ⟨A, c, hv, hc0, hC⟩ := Kd.R_reads hR
 obtain ⟨g, cap, hv2, _, _, _⟩ := Kd.R_form hR (by rw [← HLN.out]; exact hn0)
 obtain ⟨rfl, _, rfl⟩ : A = some ⟨g, 0, none⟩ ∧ l.length = l.length ∧ c = cap := by simpa using hv.symm.trans hv2
 rw [← HLN.out] at hv hC hc0
 subst hv
 have HCL := Aside0.mk (show ∀ j, j < n → w2.cell? ⟨g, j, none⟩ = some (.string (l.getD j ByteArray.empty)) from fun j hj => by
  obtain ⟨ad, hA, h1⟩ := at_S hC j hj
  obtain rfl := Option.some.inj hA
  rw [add_own] at h1
  exact h1)
 have HB2 := Aside0.mk (below_then HB1.out HB1.out.size hb)
 have c0 := HCL.out 0 hn0
 obtain ⟨nm, hnmE⟩ : ∃ nm, nm = l.getD 0 ByteArray.empty := ⟨_, rfl⟩
 rw [← hnmE] at c0 HXL
 clear hR hb hv2 hC hnmE HSP
 rw [← hp2]
 clear hp2
 go_wp2_with (fail)
 obtain ⟨p5, hp5⟩ : ∃ p5, p5 = w2.heap.size := ⟨_, rfl⟩
 obtain ⟨w3, hw3⟩ : ∃ w3, w3 = w2.alloc (.cells #[.string nm, .slice none 0 0, .slice none 0 0, .slice none 0 0, .slice none 0 0, .slice none 0 0, .int .i64 0] 24) := ⟨_, rfl⟩
 have HB23 := Aside0.mk (show Below w2.heap.size w2 w3 by rw [hw3]; exact below_alloc (Below.refl _ _) _)
 have HC5 := Aside0.mk (show w3.heap[p5]? = some (.cells (cs24 nm (fun _ => .slice none 0 0) 0) 24 (0, 0)) by rw [hw3, hp5]; exact heap_alloc_new w2 _)
 have HP5 := Aside0.mk hp5
 rw [← hw3, ← hp5]
 clear hw3 hp5 c0
 refine (of_any p5 w3).mono ?_
 rintro e w4 ⟨rfl, hb⟩
 have HB34 := Aside0.mk hb
 clear hb
 by_cases hc1 : c = 1
 ·subst hc1
  unfold parts
  go_wp2_with (fail)
  obtain ⟨p6, hp6⟩ : ∃ p6, p6 = w4.heap.size := ⟨_, rfl⟩
  obtain ⟨w5, hw5⟩ : ∃ w5, w5 = w4.alloc (.cells #[.pointer (some ⟨p5, 1, none⟩), .pointer (some ⟨p5, 2, none⟩), .pointer (some ⟨p5, 3, none⟩), .pointer (some ⟨p5, 4, none⟩), .pointer (some ⟨p5, 5, none⟩)] 43) := ⟨_, rfl⟩
  have HB25 := Aside0.mk (show Below w2.heap.size w2 w5 by rw [hw5]; exact below_alloc (below_then HB23.out HB23.out.size HB34.out) _)
  have HB35 := Aside0.mk (show Below w3.heap.size w3 w5 by rw [hw5]; exact below_alloc HB34.out _)
  have HPT := Aside0.mk (show w5.heap[p6]? = some (.cells (ptrs p5) 43 (0, 0)) by rw [hw5, hp6]; exact heap_alloc_new w4 _)
  try rw [← hw5]
  try rw [← hp6]
  clear hw5 hp6
  have HRS := Aside0.mk (show RS w2.heap.size w5 p5 p6 nm (fun _ => .slice none 0 0) (fun _ => []) 0 from ⟨(HB35.out.block _ (blk_lt HC5.out)).trans HC5.out, fun i hi => Kd.R_nil _ _ _ _ _, fun i j hi hj hij g hg => by exact absurd hg (by simp [Value.ownBlock]), HPT.out⟩)
  obtain ⟨m, hm⟩ : ∃ m, m = n - 1 := ⟨_, rfl⟩
  try rw [← hm]
  obtain ⟨Y, hY⟩ : ∃ Y, Y = l.tail.foldl rdStep (fun _ => [], 0) := ⟨_, rfl⟩
  rw [← hY] at HXL
  have HM := Aside0.mk hm
  have hmb : m ≤ 1000001 := by omega
  have HY := Aside0.mk hY
  clear hm hY HC5 HB34 HB23
  go_loopg [25] (m + 1) (fun kq v25 wr => ∃ (j : Nat) (vs : Nat → Value) (ls : Nat → List S37) (ah : Int), v25 = .int .i64 (j : Int) ∧ Aside0 (j ≤ m ∧ j + kq = m + 1) ∧ Aside0 (G6 w5 wr p5) ∧ Aside0 (RS w2.heap.size wr p5 p6 nm vs ls ah) ∧ Aside0 ((l.tail.drop j).foldl rdStep (ls, ah) = Y))
  case atStart => exact ⟨0, fun _ => .slice none 0 0, fun _ => [], 0, rfl, ⟨by omega⟩, ⟨G6.refl _ _⟩, HRS, ⟨HY.out.symm⟩⟩
  case round =>
   clear HRS
   obtain ⟨j, vs, ls, ah, rfl, HJ, HG, HRS, HFL⟩ := hrel
   obtain ⟨hj0, hjk⟩ := HJ.out
   have hlm : m = n - 1 := HM.out
   by_cases hj : j < m
   ·exact absurd hj (by omega)
   ·have d1 : decide ((j : Int) < (m : Int)) = false := decide_eq_false (by omega)
    have d2 : decide (j < m) = false := decide_eq_false hj
    have d3 : decide ((j : Int) < 0) = false := decide_eq_false (by omega)
    have d4 : decide (j < 0) = false := decide_eq_false (by omega)
    have hlm2 : l.tail.length ≤ j := by rw [List.length_tail, ← HLN.out]; omega
    have hfl := HFL.out
    rw [List.drop_of_length_le hlm2, List.foldl_nil] at hfl
    have hXE : X = mk24 nm ls ah := by rw [HXL.out, ← hfl]
    have hF0 := HF.out
    rw [← HX.out, hXE] at hF0
    clear hXE hfl hlm2 hlm HFL
    obtain ⟨⟨t1, t2⟩, ht, hF⟩ := Option.bind_eq_some_iff.1 hF0
    have HTX := Aside0.mk ht
    have hbw : Below w2.heap.size w2 wr := HG.out.toBelow HB25.out (by rw [HP5.out]; exact Nat.le_refl _)
    have HBW := Aside0.mk hbw
    have HBWW := Aside0.mk (below_then HB2.out HB2.out.size hbw)
    have hp2z : p2 < w2.heap.size := blk_lt HPB.out
    have hpb := (hbw.block p2 hp2z).trans HPB.out
    have hrs := HRS.out
    obtain ⟨A1, c1, h1, hc1', hC1⟩ := Kd.R_reads (hrs.row 0 (by omega))
    obtain ⟨A2, c2, h2, hc2', hC2⟩ := Kd.R_reads (hrs.row 1 (by omega))
    obtain ⟨A3, c3, h3, hc3', hC3⟩ := Kd.R_reads (hrs.row 2 (by omega))
    obtain ⟨A4, c4, h4, hc4', hC4⟩ := Kd.R_reads (hrs.row 3 (by omega))
    obtain ⟨A5, c5, h5, hc5', hC5⟩ := Kd.R_reads (hrs.row 4 (by omega))
    have HTC := Aside0.mk (IText.calls nm A1 c1 (ls 0) A2 c2 (ls 1) A3 c3 (ls 2) A4 c4 (ls 3) A5 c5 (ls 4) ah t1 t2 wr hC1 hc1' hC2 hc2' hC3 hc3' hC4 hc4' hC5 hc5' (HT.out.below HBWW.out) HTX.out)
    obtain ⟨n1, hn1e⟩ : ∃ x, x = (ls 0).length := ⟨_, rfl⟩
    obtain ⟨n2, hn2e⟩ : ∃ x, x = (ls 1).length := ⟨_, rfl⟩
    obtain ⟨n3, hn3e⟩ : ∃ x, x = (ls 2).length := ⟨_, rfl⟩
    obtain ⟨n4, hn4e⟩ : ∃ x, x = (ls 3).length := ⟨_, rfl⟩
    obtain ⟨n5, hn5e⟩ : ∃ x, x = (ls 4).length := ⟨_, rfl⟩
    rw [← hn1e, ← hn2e, ← hn3e, ← hn4e, ← hn5e] at HTC
    rw [← hn1e] at h1
    rw [← hn2e] at h2
    rw [← hn3e] at h3
    rw [← hn4e] at h4
    rw [← hn5e] at h5
    have hcell := hrs.cell
    unfold cs24 at hcell
    rw [h1, h2, h3, h4, h5] at hcell
    have HCELL := Aside0.mk hcell
    have s0 := (blk_cell hcell 0).trans rfl
    have s1 := (blk_cell hcell 1).trans rfl
    have s2 := (blk_cell hcell 2).trans rfl
    have s3 := (blk_cell hcell 3).trans rfl
    have s4 := (blk_cell hcell 4).trans rfl
    have s5 := (blk_cell hcell 5).trans rfl
    have s6 := (blk_cell hcell 6).trans rfl
    have HPBR := Aside0.mk hpb
    have HV := Aside0.mk (And.intro h1 (And.intro h2 (And.intro h3 (And.intro h4 h5))))
    have HRSX := Aside0.mk hrs
    have HFX := Aside0.mk hF
    clear ht hF hF0 hbw hrs h1 h2 h3 h4 h5 hc1' hc2' hc3' hc4' hc5' hC1 hC2 hC3 hC4 hC5 hn1e hn2e hn3e hn4e hn5e hcell hpb
    go_wp2_with (fail)
    refine HTC.out.mono ?_
    rintro e w7 ⟨rfl, hb7⟩
    have HB7 := Aside0.mk hb7
    have hcell := (hb7.block _ (blk_lt HCELL.out)).trans HCELL.out
    have hpb := (hb7.block _ (blk_lt HPBR.out)).trans HPBR.out
    have HP := Aside0.mk hpb
    clear s0 s1 s2 s3 s4 s5 s6 HTC
    have s0 := (blk_cell hcell 0).trans rfl
    have s1 := (blk_cell hcell 1).trans rfl
    have s2 := (blk_cell hcell 2).trans rfl
    have s3 := (blk_cell hcell 3).trans rfl
    have s4 := (blk_cell hcell 4).trans rfl
    have s5 := (blk_cell hcell 5).trans rfl
    have s6 := (blk_cell hcell 6).trans rfl
    have y0 := (blk_cell hpb 0).trans rfl
    have y1 := (blk_cell hpb 1).trans rfl
    have y2 := (blk_cell hpb 2).trans rfl
    have y3 := (blk_cell hpb 3).trans rfl
    have y4 := (blk_cell hpb 4).trans rfl
    have y5 := (blk_cell hpb 5).trans rfl
    have y6 := (blk_cell hpb 6).trans rfl
    have f0 := blk_frozen hpb 0
    have f1 := blk_frozen hpb 1
    have f2 := blk_frozen hpb 2
    have f3 := blk_frozen hpb 3
    have f4 := blk_frozen hpb 4
    have f5 := blk_frozen hpb 5
    have f6 := blk_frozen hpb 6
    have HRS7 := Aside0.mk (HRSX.out.below hb7)
    have HBZ := Aside0.mk (below_then HBWW.out HBWW.out.size hb7)
    clear hb7 hcell hpb
    by_cases hok : t2 = 0 ∧ t1 = a0
    ·have hF := HFX.out
     rw [if_pos hok] at hF
     simp only [Option.some.injEq, Prod.mk.injEq] at hF
     obtain ⟨rfl, rfl⟩ := hok
     have HFE := Aside0.mk hF
     clear hF
     go_wp2_with (fail)
     refine bodyPost_ret (results_ct rfl _ _ p2 24 #[.string nm, .slice A1 n1 c1, .slice A2 n2 c2, .slice A3 n3 c3, .slice A4 n4 c4, .slice A5 n5 c5, .int .i64 ah] (0, 0) _ rfl (blk_put (blk_put (blk_put (blk_put (blk_put (blk_put (blk_put HP.out 0 _ rfl) 1 _ rfl) 2 _ rfl) 3 _ rfl) 4 _ rfl) 5 _ rfl) 6 _ rfl) Tryd.underlying24 rfl (by kernel_rfl)) rfl ?_
     obtain ⟨hv1, hv2, hv3, hv4, hv5⟩ := HV.out
     clear HF HFX
     obtain ⟨rfl, rfl, rfl, rfl, rfl, rfl, rfl, rfl⟩ := HFE.out
     have hrs := HRS7.out
     have fin : ∀ WF, G6 w7 WF p2 → _ := fun WF hGF => (show ∃ v1_ v2_ v3_ v4_ v5_ : Value, Ending.returned (.tuple #[.agg #[.string nm, .slice A1 n1 c1, .slice A2 n2 c2, .slice A3 n3 c3, .slice A4 n4 c4, .slice A5 n5 c5, .int .i64 ah], .int .i64 0]) = .returned (.tuple #[.agg #[.string (mk24 nm ls ah).f0, v1_, v2_, v3_, v4_, v5_, .int .i64 (mk24 nm ls ah).f6], .int .i64 0]) ∧ Kd.R k37 37 WF w.heap.size (fun k_ => some k_ ≠ (v2_ : Value).ownBlock ∧ some k_ ≠ (v3_ : Value).ownBlock ∧ some k_ ≠ (v4_ : Value).ownBlock ∧ some k_ ≠ (v5_ : Value).ownBlock) v1_ (mk24 nm ls ah).f1 ∧ Kd.R k37 37 WF w.heap.size (fun k_ => some k_ ≠ (v1_ : Value).ownBlock ∧ some k_ ≠ (v3_ : Value).ownBlock ∧ some k_ ≠ (v4_ : Value).ownBlock ∧ some k_ ≠ (v5_ : Value).ownBlock) v2_ (mk24 nm ls ah).f2 ∧ Kd.R k37 37 WF w.heap.size (fun k_ => some k_ ≠ (v1_ : Value).ownBlock ∧ some k_ ≠ (v2_ : Value).ownBlock ∧ some k_ ≠ (v4_ : Value).ownBlock ∧ some k_ ≠ (v5_ : Value).ownBlock) v3_ (mk24 nm ls ah).f3 ∧ Kd.R k37 37 WF w.heap.size (fun k_ => some k_ ≠ (v1_ : Value).ownBlock ∧ some k_ ≠ (v2_ : Value).ownBlock ∧ some k_ ≠ (v3_ : Value).ownBlock ∧ some k_ ≠ (v5_ : Value).ownBlock) v4_ (mk24 nm ls ah).f4 ∧ Kd.R k37 37 WF w.heap.size (fun k_ => some k_ ≠ (v1_ : Value).ownBlock ∧ some k_ ≠ (v2_ : Value).ownBlock ∧ some k_ ≠ (v3_ : Value).ownBlock ∧ some k_ ≠ (v4_ : Value).ownBlock) v5_ (mk24 nm ls ah).f5 ∧ Below w.heap.size w WF from
      ⟨vs 0, vs 1, vs 2, vs 3, vs 4, by rw [hv1, hv2, hv3, hv4, hv5]; rfl,
       hrs.row_out hGF hp2z 0 (by omega) HB2.out.size (fun k hk => ⟨fun e => hrs.dis 0 1 (by omega) (by omega) (by omega) k hk e.symm, fun e => hrs.dis 0 2 (by omega) (by omega) (by omega) k hk e.symm, fun e => hrs.dis 0 3 (by omega) (by omega) (by omega) k hk e.symm, fun e => hrs.dis 0 4 (by omega) (by omega) (by omega) k hk e.symm⟩),
       hrs.row_out hGF hp2z 1 (by omega) HB2.out.size (fun k hk => ⟨fun e => hrs.dis 1 0 (by omega) (by omega) (by omega) k hk e.symm, fun e => hrs.dis 1 2 (by omega) (by omega) (by omega) k hk e.symm, fun e => hrs.dis 1 3 (by omega) (by omega) (by omega) k hk e.symm, fun e => hrs.dis 1 4 (by omega) (by omega) (by omega) k hk e.symm⟩),
       hrs.row_out hGF hp2z 2 (by omega) HB2.out.size (fun k hk => ⟨fun e => hrs.dis 2 0 (by omega) (by omega) (by omega) k hk e.symm, fun e => hrs.dis 2 1 (by omega) (by omega) (by omega) k hk e.symm, fun e => hrs.dis 2 3 (by omega) (by omega) (by omega) k hk e.symm, fun e => hrs.dis 2 4 (by omega) (by omega) (by omega) k hk e.symm⟩),
       hrs.row_out hGF hp2z 3 (by omega) HB2.out.size (fun k hk => ⟨fun e => hrs.dis 3 0 (by omega) (by omega) (by omega) k hk e.symm, fun e => hrs.dis 3 1 (by omega) (by omega) (by omega) k hk e.symm, fun e => hrs.dis 3 2 (by omega) (by omega) (by omega) k hk e.symm, fun e => hrs.dis 3 4 (by omega) (by omega) (by omega) k hk e.symm⟩),
       hrs.row_out hGF hp2z 4 (by omega) HB2.out.size (fun k hk => ⟨fun e => hrs.dis 4 0 (by omega) (by omega) (by omega) k hk e.symm, fun e => hrs.dis 4 1 (by omega) (by omega) (by omega) k hk e.symm, fun e => hrs.dis 4 2 (by omega) (by omega) (by omega) k hk e.symm, fun e => hrs.dis 4 3 (by omega) (by omega) (by omega) k hk e.symm⟩),
       hGF.toBelow HBZ.out (by rw [HPZ.out]; exact Nat.le_refl _)⟩)
     exact fin _ (((((((((G6.refl _ _).set 0 _).set 1 _).set 2 _).set 3 _).set 4 _).set 5 _).set 6 _))
    ·have hF := HFX.out
     rw [if_neg hok] at hF
     simp only [Option.some.injEq, Prod.mk.injEq] at hF
     have HFE := Aside0.mk hF
     clear hF
     clear HF HFX
     obtain ⟨rfl, rfl, rfl, rfl, rfl, rfl, rfl, rfl⟩ := HFE.out
     have HRES := Aside0.mk (fun (WF : World) (hGF : G6 w7 WF p2) => hGF.toBelow HBZ.out (by rw [HPZ.out]; exact Nat.le_refl _))
     by_cases h20 : t2 = 0
     ·subst h20
      have h1n : ¬ t1 = a0 := fun e => hok ⟨rfl, e⟩
      have q4 : (t1.toList == a0.toList) = false := by rw [Bool.eq_false_iff]; intro h; exact h1n (toList_eq.1 (eq_of_beq h))
      have q6 : (t1.toList != a0.toList) = true := by rw [bne, q4]; rfl
      clear h1n
      go_wp2_with (fail)
      refine bodyPost_ret (results_ct rfl _ _ p2 24 #[.string ⟨#[]⟩, .slice none 0 0, .slice none 0 0, .slice none 0 0, .slice none 0 0, .slice none 0 0, .int .i64 0] (0, 0) _ rfl (blk_put (blk_put (blk_put (blk_put (blk_put (blk_put (blk_put HP.out 0 _ rfl) 1 _ rfl) 2 _ rfl) 3 _ rfl) 4 _ rfl) 5 _ rfl) 6 _ rfl) Tryd.underlying24 rfl (by kernel_rfl)) rfl ?_
      exact ⟨.slice none 0 0, .slice none 0 0, .slice none 0 0, .slice none 0 0, .slice none 0 0, rfl, Kd.R_nil _ _ _ _ _, Kd.R_nil _ _ _ _ _, Kd.R_nil _ _ _ _ _, Kd.R_nil _ _ _ _ _, Kd.R_nil _ _ _ _ _, HRES.out _ (((((((((G6.refl _ _).set 0 _).set 1 _).set 2 _).set 3 _).set 4 _).set 5 _).set 6 _))⟩
     ·have q1 : (t2 == 0) = false := beq_eq_false_iff_ne.2 h20
      have q2 : (t2 != 0) = true := bne_iff_ne.2 h20
      go_wp2_with (fail)
      refine bodyPost_ret (results_ct rfl _ _ p2 24 #[.string ⟨#[]⟩, .slice none 0 0, .slice none 0 0, .slice none 0 0, .slice none 0 0, .slice none 0 0, .int .i64 0] (0, 0) _ rfl (blk_put (blk_put (blk_put (blk_put (blk_put (blk_put (blk_put HP.out 0 _ rfl) 1 _ rfl) 2 _ rfl) 3 _ rfl) 4 _ rfl) 5 _ rfl) 6 _ rfl) Tryd.underlying24 rfl (by kernel_rfl)) rfl ?_
      exact ⟨.slice none 0 0, .slice none 0 0, .slice none 0 0, .slice none 0 0, .slice none 0 0, rfl, Kd.R_nil _ _ _ _ _, Kd.R_nil _ _ _ _ _, Kd.R_nil _ _ _ _ _, Kd.R_nil _ _ _ _ _, Kd.R_nil _ _ _ _ _, HRES.out _ (((((((((G6.refl _ _).set 0 _).set 1 _).set 2 _).set 3 _).set 4 _).set 5 _).set 6 _))⟩
 ·unfold parts
  go_wp2_with (fail)
  obtain ⟨p6, hp6⟩ : ∃ p6, p6 = w4.heap.size := ⟨_, rfl⟩
  obtain ⟨w5, hw5⟩ : ∃ w5, w5 = w4.alloc (.cells #[.pointer (some ⟨p5, 1, none⟩), .pointer (some ⟨p5, 2, none⟩), .pointer (some ⟨p5, 3, none⟩), .pointer (some ⟨p5, 4, none⟩), .pointer (some ⟨p5, 5, none⟩)] 43) := ⟨_, rfl⟩
  have HB25 := Aside0.mk (show Below w2.heap.size w2 w5 by rw [hw5]; exact below_alloc (below_then HB23.out HB23.out.size HB34.out) _)
  have HB35 := Aside0.mk (show Below w3.heap.size w3 w5 by rw [hw5]; exact below_alloc HB34.out _)
  have HPT := Aside0.mk (show w5.heap[p6]? = some (.cells (ptrs p5) 43 (0, 0)) by rw [hw5, hp6]; exact heap_alloc_new w4 _)
  try rw [← hw5]
  try rw [← hp6]
  clear hw5 hp6
  have HRS := Aside0.mk (show RS w2.heap.size w5 p5 p6 nm (fun _ => .slice none 0 0) (fun _ => []) 0 from ⟨(HB35.out.block _ (blk_lt HC5.out)).trans HC5.out, fun i hi => Kd.R_nil _ _ _ _ _, fun i j hi hj hij g hg => by exact absurd hg (by simp [Value.ownBlock]), HPT.out⟩)
  obtain ⟨m, hm⟩ : ∃ m, m = n - 1 := ⟨_, rfl⟩
  rw [← hm]
  obtain ⟨Y, hY⟩ : ∃ Y, Y = l.tail.foldl rdStep (fun _ => [], 0) := ⟨_, rfl⟩
  rw [← hY] at HXL
  have HM := Aside0.mk hm
  have hmb : m ≤ 1000001 := by omega
  have HY := Aside0.mk hY
  clear hm hY HC5 HB34 HB23
  go_loopg [25] (m + 1) (fun kq v25 wr => ∃ (j : Nat) (vs : Nat → Value) (ls : Nat → List S37) (ah : Int), v25 = .int .i64 (j : Int) ∧ Aside0 (j ≤ m ∧ j + kq = m + 1) ∧ Aside0 (G6 w5 wr p5) ∧ Aside0 (RS w2.heap.size wr p5 p6 nm vs ls ah) ∧ Aside0 ((l.tail.drop j).foldl rdStep (ls, ah) = Y))
  case atStart => exact ⟨0, fun _ => .slice none 0 0, fun _ => [], 0, rfl, ⟨by omega⟩, ⟨G6.refl _ _⟩, HRS, ⟨HY.out.symm⟩⟩
  case round =>
   clear HRS
   obtain ⟨j, vs, ls, ah, rfl, HJ, HG, HRS, HFL⟩ := hrel
   obtain ⟨hj0, hjk⟩ := HJ.out
   have hlm : m = n - 1 := HM.out
   by_cases hj : j < m
   ·cases gk with
    | zero => exact absurd hjk (by omega)
    | succ k1 =>
     have d1 : decide ((j : Int) < (m : Int)) = true := decide_eq_true (by omega)
     have d2 : decide (j < m) = true := decide_eq_true hj
     obtain ⟨x, hx⟩ : ∃ x, x = l.getD (j + 1) ByteArray.empty := ⟨_, rfl⟩
     have hgz : g < w2.heap.size := World.block_lt_of_cell? w2 _ (HCL.out 0 hn0)
     have hgp : g ≠ p5 := by have := HP5.out; omega
     have f0 : wr.cell? ⟨g, 1 + j, none⟩ = some (.string x) := by
      rw [hx, Nat.add_comm 1 j, ← HCL.out (j + 1) (by omega)]
      have hb := HB25.out.block g hgz
      have hb2 := HG.out.block g (Nat.lt_of_lt_of_le hgz HB25.out.size) hgp
      simp only [World.cell?]
      rw [hb2, hb]
     have hjl : j + 1 < l.length := by rw [← HLN.out]; omega
     have hxs : x.size ≤ 1000000 := HLE.out x (by rw [hx, List.getD_eq_getElem?_getD, List.getElem?_eq_getElem hjl]; exact List.getElem_mem _)
     have hdr : l.tail.drop j = x :: l.tail.drop (j + 1) := by
      have h1 : j < l.tail.length := by rw [List.length_tail]; omega
      rw [List.drop_eq_getElem_cons h1, hx]
      congr 1
      simp [hjl]
     have hfl := HFL.out
     rw [hdr, List.foldl_cons] at hfl
     have HFL2 := Aside0.mk hfl
     have hbw : Below w2.heap.size w2 wr := HG.out.toBelow HB25.out (by rw [HP5.out]; exact Nat.le_refl _)
     have hbww : Below w.heap.size w wr := below_then HB2.out HB2.out.size hbw
     have hT1 := HT.out.below hbww
     have HCU := Aside0.mk (SCut.calls x ⟨#[61]⟩ _ _ _ wr hT1 (cut_f x ⟨#[61]⟩ hxs))
     have hcl := cut2_le x ⟨#[61]⟩
     have hst : rdStep (ls, ah) x = if (cut2 x ⟨#[61]⟩).1 = aheadW then (ls, (atoiR (cut2 x ⟨#[61]⟩).2.1).1) else (rdK (cut2 x ⟨#[61]⟩).1 (cut2 x ⟨#[61]⟩).2.1 5 ls, ah) := rfl
     obtain ⟨xa, hxa⟩ : ∃ xa, xa = (cut2 x ⟨#[61]⟩).1 := ⟨_, rfl⟩
     obtain ⟨xb, hxb⟩ : ∃ xb, xb = (cut2 x ⟨#[61]⟩).2.1 := ⟨_, rfl⟩
     obtain ⟨fb, hfb⟩ : ∃ fb, fb = (cut2 x ⟨#[61]⟩).2.2 := ⟨_, rfl⟩
     rw [← hxa, ← hxb] at hcl hst
     rw [← hxa, ← hxb, ← hfb] at HCU
     have HST := Aside0.mk hst
     have hbs : xb.size ≤ 1000000 := by omega
     clear hlm hxa hxb hfb hx hjl hxs hdr hfl hcl hst HFL hgz hgp
     have HAT := Aside0.mk (fun W (hW : Below wr.heap.size wr W) => atoi_any xb W (hT1.below hW) (by omega))
     have HKR0 := Aside0.mk (fun W (hW : Below w2.heap.size w2 W) (k : Int) => KRanges.calls k xb W (HT.out.below (below_then HB2.out HB2.out.size hW)) hbs)
     have HBW := Aside0.mk hbw
     clear hT1 hbw hbww hbs
     go_wp2_with (fail)
     refine HCU.out.mono ?_
     rintro e w6 ⟨rfl, hb6⟩
     have HRS6 := Aside0.mk (HRS.out.below hb6)
     have HG6 := Aside0.mk (HG.out.below hb6)
     have HB6 := Aside0.mk hb6
     clear hb6 f0 HCU
     by_cases hk : xa = aheadW
     ·have hst := HST.out
      rw [if_pos hk] at hst
      have HST2 := Aside0.mk hst
      clear hst HST
      subst hk
      unfold aheadW
      go_wp2_with (fail)
      refine (HAT.out w6 HB6.out).mono ?_
      rintro e w7 ⟨ev, rfl, _, _, hb7⟩
      have hrs := HRS6.out.below hb7
      have c6 := (blk_cell hrs.cell 6).trans rfl
      have z6 := blk_frozen hrs.cell 6
      have HRS7 := Aside0.mk (hrs.ahead (atoiR xb).1)
      have HG7 := Aside0.mk ((HG6.out.below hb7).set 6 (.int .i64 (atoiR xb).1))
      clear hb7 hrs
      go_wp2_with (fail)
      go_roundg k1
      case measure => omega
      case rel => exact ⟨j + 1, vs, ls, (atoiR xb).1, by first | rfl | simp, ⟨by omega⟩, HG7, HRS7, ⟨by rw [← HST2.out]; exact HFL2.out⟩⟩
     ·have hst := HST.out
      rw [if_neg hk] at hst
      have HST2 := Aside0.mk hst
      clear hst HST
      have q2 : (xa.toList == aheadW.toList) = false := by rw [Bool.eq_false_iff]; intro h; exact hk (toList_eq.1 (eq_of_beq h))
      rw [show aheadW.toList = [97, 104, 101, 97, 100] by rw [ByteArray.toList_eq]; rfl] at q2
      go_wp2_with (fail)
      go_loopg [43] 6 (fun kq v43 wi => ∃ (k : Nat) (vs2 : Nat → Value) (ls2 : Nat → List S37), v43 = .int .i64 (k : Int) ∧ Aside0 (k ≤ 5 ∧ k + kq = 6) ∧ Aside0 (G6 w5 wi p5) ∧ Aside0 (RS w2.heap.size wi p5 p6 nm vs2 ls2 ah) ∧ Aside0 (ls2 = rdK xa xb k ls))
      case atStart => exact ⟨0, vs, ls, rfl, ⟨by omega⟩, HG6, HRS6, ⟨by funext i; unfold rdK; rw [if_neg (by omega)]⟩⟩
      case round =>
       clear HG6 HRS6 HB6 HAT
       obtain ⟨k, vs2, ls2, rfl, HK, HG7, HRS7, HLS⟩ := hrel
       obtain ⟨hk0, hkk⟩ := HK.out
       by_cases hk5 : k < 5
       ·cases gk with
        | zero => exact absurd hkk (by omega)
        | succ k2 =>
         have e1 : decide ((k : Int) < 5) = true := decide_eq_true (by omega)
         have e2 : decide (k < 5) = true := decide_eq_true hk5
         have HWD := Aside0.mk (fun W => interval_kind_word.calls (k : Int) _ W (word_f (k : Int)))
         obtain ⟨wb, hwb⟩ : ∃ x, x = wordB (k : Int) := ⟨_, rfl⟩
         rw [← hwb] at HWD
         have HWB := Aside0.mk hwb
         clear hwb
         go_wp2_with (fail)
         refine (HWD.out _).mono ?_
         rintro e w8 ⟨rfl, hd⟩
         have HG8 := Aside0.mk (HG7.out.below hd.below)
         have HRS8 := Aside0.mk (HRS7.out.below hd.below)
         clear hd
         by_cases hq : wb = xa
         ·have q4 : (wb.toList == xa.toList) = true := by rw [hq]; exact beq_self_eq_true _
          have q5 : wb.toList = xa.toList := by rw [hq]
          have HQ := Aside0.mk hq
          clear hq
          rename World => wd
          have HKR := Aside0.mk (show ∀ W, G6 wd W p5 → Calls Tryd.prog 28 #[.int .i64 (k : Int), .string xb] W _ from fun W hW => HKR0.out W ((G6.trans HG8.out hW).toBelow HB25.out (by rw [HP5.out]; exact Nat.le_refl _)) (k : Int))
          obtain ⟨ln, hln⟩ : ∃ ln, ln = (splitC xb ⟨#[44]⟩).map (rngR (k : Int)) := ⟨_, rfl⟩
          rw [← hln] at HKR
          have HLN2 := Aside0.mk hln
          obtain ⟨cs0, hcs0⟩ : ∃ cs, cs = cs24 nm vs2 ah := ⟨_, rfl⟩
          have HBK := Aside0.mk (show wd.heap[p5]? = some (.cells (cs0.setIfInBounds (k + 1) (vs2 k)) 24 (0, 0)) by rw [hcs0, set_self vs2 nm ah k hk5]; exact HRS8.out.cell)
          have HPT2 := Aside0.mk (show ∀ W, G6 wd W p5 → W.cell? ⟨p6, k, none⟩ = some (.pointer (some ⟨p5, k + 1, none⟩)) from fun W hW => (blk_cell ((hW.block _ (blk_lt HRS8.out.ptr) HRS8.out.ne).trans HRS8.out.ptr) k).trans (ptrs_get p5 k hk5))
          have HP5b := Aside0.mk (show p5 < wd.heap.size from blk_lt HRS8.out.cell)
          have HGT := Aside0.mk (show ∀ v, (cs0.setIfInBounds (k + 1) v)[k + 1]? = some v from fun v => by rw [hcs0]; exact get_upd vs2 nm ah k hk5 v)
          have HUP := Aside0.mk (show ∀ v v', (cs0.setIfInBounds (k + 1) v).setIfInBounds (k + 1) v' = cs0.setIfInBounds (k + 1) v' from fun v v' => by rw [hcs0]; exact set_set vs2 nm ah k hk5 v v')
          have HCS := Aside0.mk hcs0
          clear hln hcs0
          go_wp2_with (fail)
          refine Reg.region_list hmix [some 50, some 51, some 52, some 53, some 54, some 55, some 56, none] [[], [0], [1], [], [], [3, 4], [2, 0, 1, 2, 3, 4, 5], [6, 5, 5, 0, 1, 2, 3, 4, 5]] (fun w => G6 wd w p5 ∧ ∃ v, w.heap[p5]? = some (.cells (cs0.setIfInBounds (k + 1) v) 24 (0, 0))) (fun w w' => Keep7 p5 w w' ∧ (F7 p5 k wd.heap.size cs0 ln w → F7 p5 k wd.heap.size cs0 ln w')) [(fun v w => v = (.int .i64 (k : Int) : Value)), (fun v w => v = (.pointer (some ⟨p6, k, none⟩) : Value)), (fun v w => v = (.pointer (some ⟨p5, k + 1, none⟩) : Value)), (fun v w => v = (.int .i64 (k : Int) : Value)), (fun v w => v = (.string xb : Value)), (fun v w => Kd.R k37 37 w wd.heap.size (fun i => i ≠ p5) v ln), (fun v w => v = (.pointer (some ⟨p5, k + 1, none⟩) : Value)), (fun v w => F7 p5 k wd.heap.size cs0 ln w)] rfl (by kernel_rfl) (by kernel_rfl) (fun _ => ⟨⟨Nat.le_refl _, fun _ _ _ => rfl⟩, id⟩) (fun _ _ hr => Reg.mono_cons (fun _ h => h) (Reg.mono_cons (fun _ h => h) (Reg.mono_cons (fun _ h => h) (Reg.mono_cons (fun _ h => h) (Reg.mono_cons (fun _ h => h) (Reg.mono_cons (fun v h => Kd.R_step h (fun i ho hlt => hr.1.2 i hlt ho)) (Reg.mono_cons (fun _ h => h) (Reg.mono_cons (fun _ h => hr.2 h) (Reg.mono_nil))))))))) (⟨(G6.refl wd p5).below (below_drew (Below.refl _ _)), _, HBK.out⟩) ?hs ?he
          case hs =>
           intro xs0 xs hx0 hl0_ wr hG
           clear hx0
           obtain ⟨x0, xs1, rfl, hl1⟩ := Reg.len_succ hl0_
           obtain ⟨x1, xs2, rfl, hl2⟩ := Reg.len_succ hl1
           obtain ⟨x2, xs3, rfl, hl3⟩ := Reg.len_succ hl2
           obtain ⟨x3, xs4, rfl, hl4⟩ := Reg.len_succ hl3
           obtain ⟨x4, xs5, rfl, hl5⟩ := Reg.len_succ hl4
           obtain ⟨x5, xs6, rfl, hl6⟩ := Reg.len_succ hl5
           obtain ⟨x6, xs7, rfl, hl7⟩ := Reg.len_succ hl6
           obtain ⟨x7, xs8, rfl, hl8⟩ := Reg.len_succ hl7
           obtain rfl := List.eq_nil_of_length_eq_zero hl8
           clear hl0_ hl1 hl2 hl3 hl4 hl5 hl6 hl7 hl8
           simp only [Reg.putL, Act.put, List.setIfInBounds_toArray, List.set_cons_succ, List.set_cons_zero]
           refine ⟨fun hf _ => ?_, ?_⟩
           ·clear hf
            refine .inl ⟨by rfl, ?_⟩
            simp only [Reg.ung]
            go_wp2
            exact ⟨_, rfl, hG, ⟨⟨Nat.le_refl _, fun _ _ _ => rfl⟩, id⟩, rfl⟩
           refine ⟨fun hf _ => ?_, ?_⟩
           ·obtain ⟨hq0, -⟩ := hf
            obtain rfl : x0 = _ := hq0
            refine .inl ⟨by rfl, ?_⟩
            simp only [Reg.ung]
            go_wp2
            exact ⟨_, rfl, hG, ⟨⟨Nat.le_refl _, fun _ _ _ => rfl⟩, id⟩, rfl⟩
           refine ⟨fun hf _ => ?_, ?_⟩
           ·obtain ⟨hq0, -⟩ := hf
            obtain rfl : x1 = _ := hq0
            refine .inl ⟨by rfl, ?_⟩
            simp only [Reg.ung]
            have cp := HPT2.out wr hG.1; go_wp2; exact ⟨_, rfl, hG, ⟨⟨Nat.le_refl _, fun _ _ _ => rfl⟩, id⟩, rfl⟩
           refine ⟨fun hf _ => ?_, ?_⟩
           ·clear hf
            refine .inl ⟨by rfl, ?_⟩
            simp only [Reg.ung]
            go_wp2
            exact ⟨_, rfl, hG, ⟨⟨Nat.le_refl _, fun _ _ _ => rfl⟩, id⟩, rfl⟩
           refine ⟨fun hf _ => ?_, ?_⟩
           ·clear hf
            refine .inl ⟨by rfl, ?_⟩
            simp only [Reg.ung]
            go_wp2
            exact ⟨_, rfl, hG, ⟨⟨Nat.le_refl _, fun _ _ _ => rfl⟩, id⟩, rfl⟩
           refine ⟨fun hf _ => ?_, ?_⟩
           ·obtain ⟨hq0, hq1, -⟩ := hf
            obtain rfl : x3 = _ := hq0
            obtain rfl : x4 = _ := hq1
            refine .inl ⟨by rfl, ?_⟩
            simp only [Reg.ung]
            go_wp2_with ((go_at_call 28; refine (HKR.out wr hG.1).mono ?_; rintro e w5 ⟨v5, rfl, hR5, hb5⟩)); exact ⟨_, rfl, ⟨hG.1.below hb5, hG.2.elim fun v h => ⟨v, (hb5.block _ (blk_lt h)).trans h⟩⟩, ⟨⟨hb5.size, fun i hi _ => hb5.block i hi⟩, fun h => F7.below h hb5⟩, Kd.R_lower (Kd.R_mono (Kd.R_bound hR5) (fun i hi e => by have h1 := hi.2.1; have h2 := HP5b.out; have h3 := hG.1.size; omega)) hG.1.size⟩
           refine ⟨fun hf _ => ?_, ?_⟩
           ·obtain ⟨hq0, -, -, -, -, -, -, -⟩ := hf
            obtain rfl : x2 = _ := hq0
            refine .inl ⟨by rfl, ?_⟩
            simp only [Reg.ung]
            go_wp2
            exact ⟨_, rfl, hG, ⟨⟨Nat.le_refl _, fun _ _ _ => rfl⟩, id⟩, rfl⟩
           refine ⟨fun hf _ => ?_, ?_⟩
           ·obtain ⟨hq0, hq1, -, -, -, -, -, -, -, -⟩ := hf
            obtain rfl : x6 = _ := hq0
            replace hq1 : Kd.R k37 37 wr wd.heap.size (fun i => i ≠ p5) x5 ln := hq1
            refine .inl ⟨by rfl, ?_⟩
            simp only [Reg.ung]
            obtain ⟨A5, c5, rfl, _, _⟩ := Kd.R_reads hq1; obtain ⟨hG1, v0, hbk⟩ := hG; have cz := (blk_cell hbk (k + 1)).trans (HGT.out v0); have fz := blk_frozen hbk (k + 1); have HG1 := Aside0.mk hG1; have HQ := Aside0.mk hq1; have HF := Aside0.mk (blk_put hbk (k + 1) (.slice A5 ln.length c5) (HUP.out v0 (.slice A5 ln.length c5))); clear hbk hG1 hq1; go_wp2; exact ⟨undef, rfl, ⟨HG1.out.set _ _, _, HF.out⟩, ⟨⟨by rw [size_set]; exact Nat.le_refl _, fun i hi hne => Below.heap_setCell wr ⟨p5, k + 1, none⟩ _ i hne⟩, fun _ => ⟨(.slice A5 ln.length c5), HF.out, Kd.R_far HQ.out (p := ⟨p5, k + 1, none⟩) (fun k hk => hk) (.slice A5 ln.length c5)⟩⟩, ⟨(.slice A5 ln.length c5), HF.out, Kd.R_far HQ.out (p := ⟨p5, k + 1, none⟩) (fun k hk => hk) (.slice A5 ln.length c5)⟩⟩
           exact trivial
          case he =>
           intro xs hl0_ wr hG hf
           obtain ⟨x0, xs1, rfl, hl1⟩ := Reg.len_succ hl0_
           obtain ⟨x1, xs2, rfl, hl2⟩ := Reg.len_succ hl1
           obtain ⟨x2, xs3, rfl, hl3⟩ := Reg.len_succ hl2
           obtain ⟨x3, xs4, rfl, hl4⟩ := Reg.len_succ hl3
           obtain ⟨x4, xs5, rfl, hl5⟩ := Reg.len_succ hl4
           obtain ⟨x5, xs6, rfl, hl6⟩ := Reg.len_succ hl5
           obtain ⟨x6, xs7, rfl, hl7⟩ := Reg.len_succ hl6
           obtain ⟨x7, xs8, rfl, hl8⟩ := Reg.len_succ hl7
           obtain rfl := List.eq_nil_of_length_eq_zero hl8
           clear hl0_ hl1 hl2 hl3 hl4 hl5 hl6 hl7 hl8
           obtain ⟨hq0, hq1, hq2, hq3, hq4, hq5, hq6, hq7, -⟩ := hf
           obtain rfl : x0 = _ := hq0
           obtain rfl : x1 = _ := hq1
           obtain rfl : x2 = _ := hq2
           obtain rfl : x3 = _ := hq3
           obtain rfl : x4 = _ := hq4
           replace hq5 : Kd.R k37 37 wr wd.heap.size (fun i => i ≠ p5) x5 ln := hq5
           obtain rfl : x6 = _ := hq6
           replace hq7 : F7 p5 k wd.heap.size cs0 ln wr := hq7
           simp only [Reg.putL, Act.put, List.setIfInBounds_toArray, List.set_cons_succ, List.set_cons_zero]
           have HGX := Aside0.mk hG.1
           obtain ⟨v9, hc9, hR9⟩ := hq7
           have HC9 := Aside0.mk hc9
           have HR9 := Aside0.mk hR9
           clear hG hc9 hR9 hq5
           go_wp2_with (fail)
           go_roundg k2
           case measure => omega
           case rel => exact ⟨k + 1, fun i => if i = k then v9 else vs2 i, fun i => if i = k then ln else ls2 i, by first | rfl | simp, ⟨by omega⟩, ⟨G6.trans HG8.out HGX.out⟩, ⟨RS.put hk5 (Nat.le_trans HB25.out.size HG8.out.size) HRS8.out HGX.out (by rw [← HCS.out]; exact HC9.out) HR9.out⟩, ⟨by rw [HLS.out, HLN2.out]; exact rdK_hit (by rw [← HWB.out]; exact HQ.out)⟩⟩
         ·have q4 : (wb.toList == xa.toList) = false := by rw [Bool.eq_false_iff]; intro h; exact hq (toList_eq.1 (eq_of_beq h))
          have q5 : ¬ wb.toList = xa.toList := fun h => hq (toList_eq.1 h)
          have HQ := Aside0.mk hq
          clear hq
          go_wp2_with (fail)
          go_roundg k2
          case measure => omega
          case rel => exact ⟨k + 1, vs2, ls2, by first | rfl | simp, ⟨by omega⟩, HG8, HRS8, ⟨by rw [HLS.out]; exact rdK_skip (by rw [← HWB.out]; exact HQ.out)⟩⟩
       ·have e1 : decide ((k : Int) < 5) = false := decide_eq_false (by omega)
        have e2 : decide (k < 5) = false := decide_eq_false hk5
        obtain rfl : k = 5 := by omega
        go_wp2_with (fail)
        go_roundg k1
        case measure => omega
        case rel => exact ⟨j + 1, vs2, ls2, ah, by first | rfl | simp, ⟨by omega⟩, HG7, HRS7, ⟨by rw [HLS.out, ← HST2.out]; exact HFL2.out⟩⟩
   ·have d1 : decide ((j : Int) < (m : Int)) = false := decide_eq_false (by omega)
    have d2 : decide (j < m) = false := decide_eq_false hj
    have hlm2 : l.tail.length ≤ j := by rw [List.length_tail, ← HLN.out]; omega
    have hfl := HFL.out
    rw [List.drop_of_length_le hlm2, List.foldl_nil] at hfl
    have hXE : X = mk24 nm ls ah := by rw [HXL.out, ← hfl]
    have hF0 := HF.out
    rw [← HX.out, hXE] at hF0
    clear hXE hfl hlm2 hlm HFL
    obtain ⟨⟨t1, t2⟩, ht, hF⟩ := Option.bind_eq_some_iff.1 hF0
    have HTX := Aside0.mk ht
    have hbw : Below w2.heap.size w2 wr := HG.out.toBelow HB25.out (by rw [HP5.out]; exact Nat.le_refl _)
    have HBW := Aside0.mk hbw
    have HBWW := Aside0.mk (below_then HB2.out HB2.out.size hbw)
    have hp2z : p2 < w2.heap.size := blk_lt HPB.out
    have hpb := (hbw.block p2 hp2z).trans HPB.out
    have hrs := HRS.out
    obtain ⟨A1, c1, h1, hc1', hC1⟩ := Kd.R_reads (hrs.row 0 (by omega))
    obtain ⟨A2, c2, h2, hc2', hC2⟩ := Kd.R_reads (hrs.row 1 (by omega))
    obtain ⟨A3, c3, h3, hc3', hC3⟩ := Kd.R_reads (hrs.row 2 (by omega))
    obtain ⟨A4, c4, h4, hc4', hC4⟩ := Kd.R_reads (hrs.row 3 (by omega))
    obtain ⟨A5, c5, h5, hc5', hC5⟩ := Kd.R_reads (hrs.row 4 (by omega))
    have HTC := Aside0.mk (IText.calls nm A1 c1 (ls 0) A2 c2 (ls 1) A3 c3 (ls 2) A4 c4 (ls 3) A5 c5 (ls 4) ah t1 t2 wr hC1 hc1' hC2 hc2' hC3 hc3' hC4 hc4' hC5 hc5' (HT.out.below HBWW.out) HTX.out)
    obtain ⟨n1, hn1e⟩ : ∃ x, x = (ls 0).length := ⟨_, rfl⟩
    obtain ⟨n2, hn2e⟩ : ∃ x, x = (ls 1).length := ⟨_, rfl⟩
    obtain ⟨n3, hn3e⟩ : ∃ x, x = (ls 2).length := ⟨_, rfl⟩
    obtain ⟨n4, hn4e⟩ : ∃ x, x = (ls 3).length := ⟨_, rfl⟩
    obtain ⟨n5, hn5e⟩ : ∃ x, x = (ls 4).length := ⟨_, rfl⟩
    rw [← hn1e, ← hn2e, ← hn3e, ← hn4e, ← hn5e] at HTC
    rw [← hn1e] at h1
    rw [← hn2e] at h2
    rw [← hn3e] at h3
    rw [← hn4e] at h4
    rw [← hn5e] at h5
    have hcell := hrs.cell
    unfold cs24 at hcell
    rw [h1, h2, h3, h4, h5] at hcell
    have HCELL := Aside0.mk hcell
    have s0 := (blk_cell hcell 0).trans rfl
    have s1 := (blk_cell hcell 1).trans rfl
    have s2 := (blk_cell hcell 2).trans rfl
    have s3 := (blk_cell hcell 3).trans rfl
    have s4 := (blk_cell hcell 4).trans rfl
    have s5 := (blk_cell hcell 5).trans rfl
    have s6 := (blk_cell hcell 6).trans rfl
    have HPBR := Aside0.mk hpb
    have HV := Aside0.mk (And.intro h1 (And.intro h2 (And.intro h3 (And.intro h4 h5))))
    have HRSX := Aside0.mk hrs
    have HFX := Aside0.mk hF
    clear ht hF hF0 hbw hrs h1 h2 h3 h4 h5 hc1' hc2' hc3' hc4' hc5' hC1 hC2 hC3 hC4 hC5 hn1e hn2e hn3e hn4e hn5e hcell hpb
    go_wp2_with (fail)
    refine HTC.out.mono ?_
    rintro e w7 ⟨rfl, hb7⟩
    have HB7 := Aside0.mk hb7
    have hcell := (hb7.block _ (blk_lt HCELL.out)).trans HCELL.out
    have hpb := (hb7.block _ (blk_lt HPBR.out)).trans HPBR.out
    have HP := Aside0.mk hpb
    clear s0 s1 s2 s3 s4 s5 s6 HTC
    have s0 := (blk_cell hcell 0).trans rfl
    have s1 := (blk_cell hcell 1).trans rfl
    have s2 := (blk_cell hcell 2).trans rfl
    have s3 := (blk_cell hcell 3).trans rfl
    have s4 := (blk_cell hcell 4).trans rfl
    have s5 := (blk_cell hcell 5).trans rfl
    have s6 := (blk_cell hcell 6).trans rfl
    have y0 := (blk_cell hpb 0).trans rfl
    have y1 := (blk_cell hpb 1).trans rfl
    have y2 := (blk_cell hpb 2).trans rfl
    have y3 := (blk_cell hpb 3).trans rfl
    have y4 := (blk_cell hpb 4).trans rfl
    have y5 := (blk_cell hpb 5).trans rfl
    have y6 := (blk_cell hpb 6).trans rfl
    have f0 := blk_frozen hpb 0
    have f1 := blk_frozen hpb 1
    have f2 := blk_frozen hpb 2
    have f3 := blk_frozen hpb 3
    have f4 := blk_frozen hpb 4
    have f5 := blk_frozen hpb 5
    have f6 := blk_frozen hpb 6
    have HRS7 := Aside0.mk (HRSX.out.below hb7)
    have HBZ := Aside0.mk (below_then HBWW.out HBWW.out.size hb7)
    clear hb7 hcell hpb
    by_cases hok : t2 = 0 ∧ t1 = a0
    ·have hF := HFX.out
     rw [if_pos hok] at hF
     simp only [Option.some.injEq, Prod.mk.injEq] at hF
     obtain ⟨rfl, rfl⟩ := hok
     have HFE := Aside0.mk hF
     clear hF
     go_wp2_with (fail)
     refine bodyPost_ret (results_ct rfl _ _ p2 24 #[.string nm, .slice A1 n1 c1, .slice A2 n2 c2, .slice A3 n3 c3, .slice A4 n4 c4, .slice A5 n5 c5, .int .i64 ah] (0, 0) _ rfl (blk_put (blk_put (blk_put (blk_put (blk_put (blk_put (blk_put HP.out 0 _ rfl) 1 _ rfl) 2 _ rfl) 3 _ rfl) 4 _ rfl) 5 _ rfl) 6 _ rfl) Tryd.underlying24 rfl (by kernel_rfl)) rfl ?_
     obtain ⟨hv1, hv2, hv3, hv4, hv5⟩ := HV.out
     clear HF HFX
     obtain ⟨rfl, rfl, rfl, rfl, rfl, rfl, rfl, rfl⟩ := HFE.out
     have hrs := HRS7.out
     have fin : ∀ WF, G6 w7 WF p2 → _ := fun WF hGF => (show ∃ v1_ v2_ v3_ v4_ v5_ : Value, Ending.returned (.tuple #[.agg #[.string nm, .slice A1 n1 c1, .slice A2 n2 c2, .slice A3 n3 c3, .slice A4 n4 c4, .slice A5 n5 c5, .int .i64 ah], .int .i64 0]) = .returned (.tuple #[.agg #[.string (mk24 nm ls ah).f0, v1_, v2_, v3_, v4_, v5_, .int .i64 (mk24 nm ls ah).f6], .int .i64 0]) ∧ Kd.R k37 37 WF w.heap.size (fun k_ => some k_ ≠ (v2_ : Value).ownBlock ∧ some k_ ≠ (v3_ : Value).ownBlock ∧ some k_ ≠ (v4_ : Value).ownBlock ∧ some k_ ≠ (v5_ : Value).ownBlock) v1_ (mk24 nm ls ah).f1 ∧ Kd.R k37 37 WF w.heap.size (fun k_ => some k_ ≠ (v1_ : Value).ownBlock ∧ some k_ ≠ (v3_ : Value).ownBlock ∧ some k_ ≠ (v4_ : Value).ownBlock ∧ some k_ ≠ (v5_ : Value).ownBlock) v2_ (mk24 nm ls ah).f2 ∧ Kd.R k37 37 WF w.heap.size (fun k_ => some k_ ≠ (v1_ : Value).ownBlock ∧ some k_ ≠ (v2_ : Value).ownBlock ∧ some k_ ≠ (v4_ : Value).ownBlock ∧ some k_ ≠ (v5_ : Value).ownBlock) v3_ (mk24 nm ls ah).f3 ∧ Kd.R k37 37 WF w.heap.size (fun k_ => some k_ ≠ (v1_ : Value).ownBlock ∧ some k_ ≠ (v2_ : Value).ownBlock ∧ some k_ ≠ (v3_ : Value).ownBlock ∧ some k_ ≠ (v5_ : Value).ownBlock) v4_ (mk24 nm ls ah).f4 ∧ Kd.R k37 37 WF w.heap.size (fun k_ => some k_ ≠ (v1_ : Value).ownBlock ∧ some k_ ≠ (v2_ : Value).ownBlock ∧ some k_ ≠ (v3_ : Value).ownBlock ∧ some k_ ≠ (v4_ : Value).ownBlock) v5_ (mk24 nm ls ah).f5 ∧ Below w.heap.size w WF from
      ⟨vs 0, vs 1, vs 2, vs 3, vs 4, by rw [hv1, hv2, hv3, hv4, hv5]; rfl,
       hrs.row_out hGF hp2z 0 (by omega) HB2.out.size (fun k hk => ⟨fun e => hrs.dis 0 1 (by omega) (by omega) (by omega) k hk e.symm, fun e => hrs.dis 0 2 (by omega) (by omega) (by omega) k hk e.symm, fun e => hrs.dis 0 3 (by omega) (by omega) (by omega) k hk e.symm, fun e => hrs.dis 0 4 (by omega) (by omega) (by omega) k hk e.symm⟩),
       hrs.row_out hGF hp2z 1 (by omega) HB2.out.size (fun k hk => ⟨fun e => hrs.dis 1 0 (by omega) (by omega) (by omega) k hk e.symm, fun e => hrs.dis 1 2 (by omega) (by omega) (by omega) k hk e.symm, fun e => hrs.dis 1 3 (by omega) (by omega) (by omega) k hk e.symm, fun e => hrs.dis 1 4 (by omega) (by omega) (by omega) k hk e.symm⟩),
       hrs.row_out hGF hp2z 2 (by omega) HB2.out.size (fun k hk => ⟨fun e => hrs.dis 2 0 (by omega) (by omega) (by omega) k hk e.symm, fun e => hrs.dis 2 1 (by omega) (by omega) (by omega) k hk e.symm, fun e => hrs.dis 2 3 (by omega) (by omega) (by omega) k hk e.symm, fun e => hrs.dis 2 4 (by omega) (by omega) (by omega) k hk e.symm⟩),
       hrs.row_out hGF hp2z 3 (by omega) HB2.out.size (fun k hk => ⟨fun e => hrs.dis 3 0 (by omega) (by omega) (by omega) k hk e.symm, fun e => hrs.dis 3 1 (by omega) (by omega) (by omega) k hk e.symm, fun e => hrs.dis 3 2 (by omega) (by omega) (by omega) k hk e.symm, fun e => hrs.dis 3 4 (by omega) (by omega) (by omega) k hk e.symm⟩),
       hrs.row_out hGF hp2z 4 (by omega) HB2.out.size (fun k hk => ⟨fun e => hrs.dis 4 0 (by omega) (by omega) (by omega) k hk e.symm, fun e => hrs.dis 4 1 (by omega) (by omega) (by omega) k hk e.symm, fun e => hrs.dis 4 2 (by omega) (by omega) (by omega) k hk e.symm, fun e => hrs.dis 4 3 (by omega) (by omega) (by omega) k hk e.symm⟩),
       hGF.toBelow HBZ.out (by rw [HPZ.out]; exact Nat.le_refl _)⟩)
     exact fin _ (((((((((G6.refl _ _).set 0 _).set 1 _).set 2 _).set 3 _).set 4 _).set 5 _).set 6 _))
    ·have hF := HFX.out
     rw [if_neg hok] at hF
     simp only [Option.some.injEq, Prod.mk.injEq] at hF
     have HFE := Aside0.mk hF
     clear hF
     clear HF HFX
     obtain ⟨rfl, rfl, rfl, rfl, rfl, rfl, rfl, rfl⟩ := HFE.out
     have HRES := Aside0.mk (fun (WF : World) (hGF : G6 w7 WF p2) => hGF.toBelow HBZ.out (by rw [HPZ.out]; exact Nat.le_refl _))
     by_cases h20 : t2 = 0
     ·subst h20
      have h1n : ¬ t1 = a0 := fun e => hok ⟨rfl, e⟩
      have q4 : (t1.toList == a0.toList) = false := by rw [Bool.eq_false_iff]; intro h; exact h1n (toList_eq.1 (eq_of_beq h))
      have q6 : (t1.toList != a0.toList) = true := by rw [bne, q4]; rfl
      clear h1n
      go_wp2_with (fail)
      refine bodyPost_ret (results_ct rfl _ _ p2 24 #[.string ⟨#[]⟩, .slice none 0 0, .slice none 0 0, .slice none 0 0, .slice none 0 0, .slice none 0 0, .int .i64 0] (0, 0) _ rfl (blk_put (blk_put (blk_put (blk_put (blk_put (blk_put (blk_put HP.out 0 _ rfl) 1 _ rfl) 2 _ rfl) 3 _ rfl) 4 _ rfl) 5 _ rfl) 6 _ rfl) Tryd.underlying24 rfl (by kernel_rfl)) rfl ?_
      exact ⟨.slice none 0 0, .slice none 0 0, .slice none 0 0, .slice none 0 0, .slice none 0 0, rfl, Kd.R_nil _ _ _ _ _, Kd.R_nil _ _ _ _ _, Kd.R_nil _ _ _ _ _, Kd.R_nil _ _ _ _ _, Kd.R_nil _ _ _ _ _, HRES.out _ (((((((((G6.refl _ _).set 0 _).set 1 _).set 2 _).set 3 _).set 4 _).set 5 _).set 6 _))⟩
     ·have q1 : (t2 == 0) = false := beq_eq_false_iff_ne.2 h20
      have q2 : (t2 != 0) = true := bne_iff_ne.2 h20
      go_wp2_with (fail)
      refine bodyPost_ret (results_ct rfl _ _ p2 24 #[.string ⟨#[]⟩, .slice none 0 0, .slice none 0 0, .slice none 0 0, .slice none 0 0, .slice none 0 0, .int .i64 0] (0, 0) _ rfl (blk_put (blk_put (blk_put (blk_put (blk_put (blk_put (blk_put HP.out 0 _ rfl) 1 _ rfl) 2 _ rfl) 3 _ rfl) 4 _ rfl) 5 _ rfl) 6 _ rfl) Tryd.underlying24 rfl (by kernel_rfl)) rfl ?_
      exact ⟨.slice none 0 0, .slice none 0 0, .slice none 0 0, .slice none 0 0, .slice none 0 0, rfl, Kd.R_nil _ _ _ _ _, Kd.R_nil _ _ _ _ _, Kd.R_nil _ _ _ _ _, Kd.R_nil _ _ _ _ _, Kd.R_nil _ _ _ _ _, HRES.out _ (((((((((G6.refl _ _).set 0 _).set 1 _).set 2 _).set 3 _).set 4 _).set 5 _).set 6 _))⟩
end Go.Proofs.YtgipdacenppmdaaDoor.G
