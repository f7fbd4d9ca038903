/- The parts of an interval: 'of', 'numbers'; worlds that are one but for a block. -/
import Derived.Test.YtgipdacenppmdaaDoorIK
import Derived.Test.YtgipdacenppmdaaDoorJ2
import Derived.Test.YtgipdacenppmdaaDoorJ1
set_option linter.unusedVariables false
set_option linter.unusedSimpArgs false
namespace Go.Proofs.YtgipdacenppmdaaDoor.G
open Go.RowKit Go.Lib Go.Proofs.YtgipdacenppmdaaDoorW.PrintWords Go.Proofs.YtgipdacenppmdaaDoor.P
structure G6 (w0 w : World) (p : Nat) : Prop where
  os : w.os = w0.os
  tape : w.tape = w0.tape
  output : w.output = w0.output
  size : w0.heap.size ≤ w.heap.size
  block : ∀ k, k < w0.heap.size → k ≠ p → w.heap[k]? = w0.heap[k]?
theorem G6.refl (w : World) (p : Nat) : G6 w w p := ⟨rfl, rfl, rfl, Nat.le_refl _, fun _ _ _ => rfl⟩
theorem G6.below {w0 w w' : World} {p : Nat} (h : G6 w0 w p) (hb : Below w.heap.size w w') : G6 w0 w' p :=
  ⟨hb.os.trans h.os, hb.tape.trans h.tape, hb.output.trans h.output, Nat.le_trans h.size hb.size, fun k hk hp => (hb.block k (Nat.lt_of_lt_of_le hk h.size)).trans (h.block k hk hp)⟩
theorem G6.set {w0 w : World} {p : Nat} (h : G6 w0 w p) (i : Nat) (u : Value) : G6 w0 (w.setCell ⟨p, i, none⟩ u) p :=
  ⟨h.os, h.tape, h.output, by simpa [World.setCell] using h.size, fun k hk hp => by rw [Below.heap_setCell w ⟨p, i, none⟩ _ k hp]; exact h.block k hk hp⟩
theorem G6.toBelow {W0 w w' : World} {p : Nat} (h : G6 w w' p) (hb : Below W0.heap.size W0 w) (hp : W0.heap.size ≤ p) : Below W0.heap.size W0 w' :=
  ⟨h.os.trans hb.os, h.tape.trans hb.tape, h.output.trans hb.output, Nat.le_trans hb.size h.size, fun k hk => (h.block k (Nat.lt_of_lt_of_le hk hb.size) (by omega)).trans (hb.block k hk)⟩
/-- The pointers to an interval's parts. -/
def parts (bv : Nat) : Value := .agg #[.pointer (some ⟨bv, 1, none⟩), .pointer (some ⟨bv, 2, none⟩), .pointer (some ⟨bv, 3, none⟩), .pointer (some ⟨bv, 4, none⟩), .pointer (some ⟨bv, 5, none⟩)]
set_option maxHeartbeats 4000000 in
set_option maxRecDepth 100000 in
theorem of_any (bv : Nat) (w : World) : Calls Tryd.prog 13 #[.pointer (some ⟨bv, 0, none⟩)] w fun e w' => e = .returned (parts bv) ∧ Below w.heap.size w w' := by
  go_enter Tryd.func13, Tryd.ntmps13
  go_wp2_with (fail)
  obtain ⟨p, hp⟩ : ∃ p, p = w.heap.size := ⟨_, rfl⟩
  obtain ⟨wa, hwa⟩ : ∃ wa, wa = w.alloc (.cells #[.pointer none, .pointer none, .pointer none, .pointer none, .pointer none] 43) := ⟨_, rfl⟩
  have HB := Aside0.mk (show Below w.heap.size w wa by rw [hwa]; exact below_alloc (Below.refl _ _) _)
  have HBK := Aside0.mk (show wa.heap[p]? = some (.cells #[.pointer none, .pointer none, .pointer none, .pointer none, .pointer none] 43 (0, 0)) by rw [hwa, hp]; exact heap_alloc_new w _)
  have HP := Aside0.mk hp
  try rw [← hwa]
  try rw [← hp]
  clear hwa hp
  refine Reg.region_list hmix [some 3, some 4, some 5, some 6, some 7, some 8, some 9, some 10, some 11, some 12, some 13, some 14, some 15, some 16, some 17, some 18, none] [[], [0], [1], [], [3], [4], [], [6], [7], [], [9], [10], [], [12], [13], [2, 5, 8, 11, 14], [15, 0, 1, 2, 3, 4, 5, 6, 7, 8, 9, 10, 11, 12, 13, 14, 15]] (fun w => G6 wa w p ∧ ∃ c0 c1 c2 c3 c4, w.heap[p]? = some (.cells #[c0, c1, c2, c3, c4] 43 (0, 0))) (fun w w' => w.heap[p]? = some (.cells #[.pointer (some ⟨bv, 1, none⟩), .pointer (some ⟨bv, 2, none⟩), .pointer (some ⟨bv, 3, none⟩), .pointer (some ⟨bv, 4, none⟩), .pointer (some ⟨bv, 5, none⟩)] 43 (0, 0)) → w'.heap[p]? = some (.cells #[.pointer (some ⟨bv, 1, none⟩), .pointer (some ⟨bv, 2, none⟩), .pointer (some ⟨bv, 3, none⟩), .pointer (some ⟨bv, 4, none⟩), .pointer (some ⟨bv, 5, none⟩)] 43 (0, 0))) [(fun v w => v = (.pointer (some ⟨bv, 0, none⟩) : Value)), (fun v w => v = (.pointer (some ⟨bv, 0, none⟩) : Value)), (fun v w => v = (.pointer (some ⟨bv, 1, none⟩) : Value)), (fun v w => v = (.pointer (some ⟨bv, 0, none⟩) : Value)), (fun v w => v = (.pointer (some ⟨bv, 0, none⟩) : Value)), (fun v w => v = (.pointer (some ⟨bv, 2, none⟩) : Value)), (fun v w => v = (.pointer (some ⟨bv, 0, none⟩) : Value)), (fun v w => v = (.pointer (some ⟨bv, 0, none⟩) : Value)), (fun v w => v = (.pointer (some ⟨bv, 3, none⟩) : Value)), (fun v w => v = (.pointer (some ⟨bv, 0, none⟩) : Value)), (fun v w => v = (.pointer (some ⟨bv, 0, none⟩) : Value)), (fun v w => v = (.pointer (some ⟨bv, 4, none⟩) : Value)), (fun v w => v = (.pointer (some ⟨bv, 0, none⟩) : Value)), (fun v w => v = (.pointer (some ⟨bv, 0, none⟩) : Value)), (fun v w => v = (.pointer (some ⟨bv, 5, none⟩) : Value)), (fun v w => v = (.agg #[.pointer (some ⟨bv, 1, none⟩), .pointer (some ⟨bv, 2, none⟩), .pointer (some ⟨bv, 3, none⟩), .pointer (some ⟨bv, 4, none⟩), .pointer (some ⟨bv, 5, none⟩)] : Value)), (fun v w => w.heap[p]? = some (.cells #[.pointer (some ⟨bv, 1, none⟩), .pointer (some ⟨bv, 2, none⟩), .pointer (some ⟨bv, 3, none⟩), .pointer (some ⟨bv, 4, none⟩), .pointer (some ⟨bv, 5, none⟩)] 43 (0, 0)))] rfl (by kernel_rfl) (by kernel_rfl) (fun _ h => h) (fun _ _ hr => Reg.mono_cons (fun _ h => h) (Reg.mono_cons (fun _ h => h) (Reg.mono_cons (fun _ h => h) (Reg.mono_cons (fun _ h => h) (Reg.mono_cons (fun _ h => h) (Reg.mono_cons (fun _ h => h) (Reg.mono_cons (fun _ h => h) (Reg.mono_cons (fun _ h => h) (Reg.mono_cons (fun _ h => h) (Reg.mono_cons (fun _ h => h) (Reg.mono_cons (fun _ h => h) (Reg.mono_cons (fun _ h => h) (Reg.mono_cons (fun _ h => h) (Reg.mono_cons (fun _ h => h) (Reg.mono_cons (fun _ h => h) (Reg.mono_cons (fun _ h => h) (Reg.mono_cons (fun _ h => hr h) (Reg.mono_nil)))))))))))))))))) (⟨(G6.refl wa p).below (below_drew (Below.refl _ _)), _, _, _, _, _, HBK.out⟩) ?hs ?he
  case hs =>
    intro xs0 xs hx0 hl0_ wr hG
    clear hx0
    obtain ⟨x0, xs1, rfl, hl1⟩ := Reg.len_succ hl0_
    obtain ⟨x1, xs2, rfl, hl2⟩ := Reg.len_succ hl1
    obtain ⟨x2, xs3, rfl, hl3⟩ := Reg.len_succ hl2
    obtain ⟨x3, xs4, rfl, hl4⟩ := Reg.len_succ hl3
    obtain ⟨x4, xs5, rfl, hl5⟩ := Reg.len_succ hl4
    obtain ⟨x5, xs6, rfl, hl6⟩ := Reg.len_succ hl5
    obtain ⟨x6, xs7, rfl, hl7⟩ := Reg.len_succ hl6
    obtain ⟨x7, xs8, rfl, hl8⟩ := Reg.len_succ hl7
    obtain ⟨x8, xs9, rfl, hl9⟩ := Reg.len_succ hl8
    obtain ⟨x9, xs10, rfl, hl10⟩ := Reg.len_succ hl9
    obtain ⟨x10, xs11, rfl, hl11⟩ := Reg.len_succ hl10
    obtain ⟨x11, xs12, rfl, hl12⟩ := Reg.len_succ hl11
    obtain ⟨x12, xs13, rfl, hl13⟩ := Reg.len_succ hl12
    obtain ⟨x13, xs14, rfl, hl14⟩ := Reg.len_succ hl13
    obtain ⟨x14, xs15, rfl, hl15⟩ := Reg.len_succ hl14
    obtain ⟨x15, xs16, rfl, hl16⟩ := Reg.len_succ hl15
    obtain ⟨x16, xs17, rfl, hl17⟩ := Reg.len_succ hl16
    obtain rfl := List.eq_nil_of_length_eq_zero hl17
    clear hl0_ hl1 hl2 hl3 hl4 hl5 hl6 hl7 hl8 hl9 hl10 hl11 hl12 hl13 hl14 hl15 hl16 hl17
    simp only [Reg.putL, Act.put, List.setIfInBounds_toArray, List.set_cons_succ, List.set_cons_zero]
    refine ⟨fun hf _ => ?_, ?_⟩
    · clear hf
      refine .inl ⟨by rfl, ?_⟩
      simp only [Reg.ung]
      go_wp2
      exact ⟨_, rfl, hG, (fun _ h => h) _, rfl⟩
    refine ⟨fun hf _ => ?_, ?_⟩
    · obtain ⟨hq0, -⟩ := hf
      obtain rfl : x0 = _ := hq0
      refine .inl ⟨by rfl, ?_⟩
      simp only [Reg.ung]
      go_wp2
      exact ⟨_, rfl, hG, (fun _ h => h) _, rfl⟩
    refine ⟨fun hf _ => ?_, ?_⟩
    · obtain ⟨hq0, -⟩ := hf
      obtain rfl : x1 = _ := hq0
      refine .inl ⟨by rfl, ?_⟩
      simp only [Reg.ung]
      go_wp2
      exact ⟨_, rfl, hG, (fun _ h => h) _, rfl⟩
    refine ⟨fun hf _ => ?_, ?_⟩
    · clear hf
      refine .inl ⟨by rfl, ?_⟩
      simp only [Reg.ung]
      go_wp2
      exact ⟨_, rfl, hG, (fun _ h => h) _, rfl⟩
    refine ⟨fun hf _ => ?_, ?_⟩
    · obtain ⟨hq0, -⟩ := hf
      obtain rfl : x3 = _ := hq0
      refine .inl ⟨by rfl, ?_⟩
      simp only [Reg.ung]
      go_wp2
      exact ⟨_, rfl, hG, (fun _ h => h) _, rfl⟩
    refine ⟨fun hf _ => ?_, ?_⟩
    · obtain ⟨hq0, -⟩ := hf
      obtain rfl : x4 = _ := hq0
      refine .inl ⟨by rfl, ?_⟩
      simp only [Reg.ung]
      go_wp2
      exact ⟨_, rfl, hG, (fun _ h => h) _, rfl⟩
    refine ⟨fun hf _ => ?_, ?_⟩
    · clear hf
      refine .inl ⟨by rfl, ?_⟩
      simp only [Reg.ung]
      go_wp2
      exact ⟨_, rfl, hG, (fun _ h => h) _, rfl⟩
    refine ⟨fun hf _ => ?_, ?_⟩
    · obtain ⟨hq0, -⟩ := hf
      obtain rfl : x6 = _ := hq0
      refine .inl ⟨by rfl, ?_⟩
      simp only [Reg.ung]
      go_wp2
      exact ⟨_, rfl, hG, (fun _ h => h) _, rfl⟩
    refine ⟨fun hf _ => ?_, ?_⟩
    · obtain ⟨hq0, -⟩ := hf
      obtain rfl : x7 = _ := hq0
      refine .inl ⟨by rfl, ?_⟩
      simp only [Reg.ung]
      go_wp2
      exact ⟨_, rfl, hG, (fun _ h => h) _, rfl⟩
    refine ⟨fun hf _ => ?_, ?_⟩
    · clear hf
      refine .inl ⟨by rfl, ?_⟩
      simp only [Reg.ung]
      go_wp2
      exact ⟨_, rfl, hG, (fun _ h => h) _, rfl⟩
    refine ⟨fun hf _ => ?_, ?_⟩
    · obtain ⟨hq0, -⟩ := hf
      obtain rfl : x9 = _ := hq0
      refine .inl ⟨by rfl, ?_⟩
      simp only [Reg.ung]
      go_wp2
      exact ⟨_, rfl, hG, (fun _ h => h) _, rfl⟩
    refine ⟨fun hf _ => ?_, ?_⟩
    · obtain ⟨hq0, -⟩ := hf
      obtain rfl : x10 = _ := hq0
      refine .inl ⟨by rfl, ?_⟩
      simp only [Reg.ung]
      go_wp2
      exact ⟨_, rfl, hG, (fun _ h => h) _, rfl⟩
    refine ⟨fun hf _ => ?_, ?_⟩
    · clear hf
      refine .inl ⟨by rfl, ?_⟩
      simp only [Reg.ung]
      go_wp2
      exact ⟨_, rfl, hG, (fun _ h => h) _, rfl⟩
    refine ⟨fun hf _ => ?_, ?_⟩
    · obtain ⟨hq0, -⟩ := hf
      obtain rfl : x12 = _ := hq0
      refine .inl ⟨by rfl, ?_⟩
      simp only [Reg.ung]
      go_wp2
      exact ⟨_, rfl, hG, (fun _ h => h) _, rfl⟩
    refine ⟨fun hf _ => ?_, ?_⟩
    · obtain ⟨hq0, -⟩ := hf
      obtain rfl : x13 = _ := hq0
      refine .inl ⟨by rfl, ?_⟩
      simp only [Reg.ung]
      go_wp2
      exact ⟨_, rfl, hG, (fun _ h => h) _, rfl⟩
    refine ⟨fun hf _ => ?_, ?_⟩
    · obtain ⟨hq0, hq1, hq2, hq3, hq4, -⟩ := hf
      obtain rfl : x2 = _ := hq0
      obtain rfl : x5 = _ := hq1
      obtain rfl : x8 = _ := hq2
      obtain rfl : x11 = _ := hq3
      obtain rfl : x14 = _ := hq4
      refine .inl ⟨by rfl, ?_⟩
      simp only [Reg.ung]
      go_wp2
      exact ⟨_, rfl, hG, (fun _ h => h) _, rfl⟩
    refine ⟨fun hf _ => ?_, ?_⟩
    · obtain ⟨hq0, -, -, -, -, -, -, -, -, -, -, -, -, -, -, -, -, -⟩ := hf
      obtain rfl : x15 = _ := hq0
      refine .inl ⟨by rfl, ?_⟩
      simp only [Reg.ung]
      obtain ⟨hG1, c0, c1, c2, c3, c4, hbk⟩ := hG; have s0 := (blk_cell hbk 0).trans rfl; have s1 := (blk_cell hbk 1).trans rfl; have s2 := (blk_cell hbk 2).trans rfl; have s3 := (blk_cell hbk 3).trans rfl; have s4 := (blk_cell hbk 4).trans rfl; have t0 := blk_frozen hbk 0; have t1 := blk_frozen hbk 1; have t2 := blk_frozen hbk 2; have t3 := blk_frozen hbk 3; have t4 := blk_frozen hbk 4; have HG1 := Aside0.mk hG1; have HFIN := Aside0.mk (blk_put (blk_put (blk_put (blk_put (blk_put hbk 0 (.pointer (some ⟨bv, 1, none⟩)) rfl) 1 (.pointer (some ⟨bv, 2, none⟩)) rfl) 2 (.pointer (some ⟨bv, 3, none⟩)) rfl) 3 (.pointer (some ⟨bv, 4, none⟩)) rfl) 4 (.pointer (some ⟨bv, 5, none⟩)) rfl); clear hbk hG1; go_wp2; exact ⟨undef, rfl, ⟨((((HG1.out.set 0 _).set 1 _).set 2 _).set 3 _).set 4 _, _, _, _, _, _, HFIN.out⟩, fun _ => HFIN.out, HFIN.out⟩
    exact trivial
  case he =>
    intro xs hl0_ wr hG hf
    obtain ⟨x0, xs1, rfl, hl1⟩ := Reg.len_succ hl0_
    obtain ⟨x1, xs2, rfl, hl2⟩ := Reg.len_succ hl1
    obtain ⟨x2, xs3, rfl, hl3⟩ := Reg.len_succ hl2
    obtain ⟨x3, xs4, rfl, hl4⟩ := Reg.len_succ hl3
    obtain ⟨x4, xs5, rfl, hl5⟩ := Reg.len_succ hl4
    obtain ⟨x5, xs6, rfl, hl6⟩ := Reg.len_succ hl5
    obtain ⟨x6, xs7, rfl, hl7⟩ := Reg.len_succ hl6
    obtain ⟨x7, xs8, rfl, hl8⟩ := Reg.len_succ hl7
    obtain ⟨x8, xs9, rfl, hl9⟩ := Reg.len_succ hl8
    obtain ⟨x9, xs10, rfl, hl10⟩ := Reg.len_succ hl9
    obtain ⟨x10, xs11, rfl, hl11⟩ := Reg.len_succ hl10
    obtain ⟨x11, xs12, rfl, hl12⟩ := Reg.len_succ hl11
    obtain ⟨x12, xs13, rfl, hl13⟩ := Reg.len_succ hl12
    obtain ⟨x13, xs14, rfl, hl14⟩ := Reg.len_succ hl13
    obtain ⟨x14, xs15, rfl, hl15⟩ := Reg.len_succ hl14
    obtain ⟨x15, xs16, rfl, hl16⟩ := Reg.len_succ hl15
    obtain ⟨x16, xs17, rfl, hl17⟩ := Reg.len_succ hl16
    obtain rfl := List.eq_nil_of_length_eq_zero hl17
    clear hl0_ hl1 hl2 hl3 hl4 hl5 hl6 hl7 hl8 hl9 hl10 hl11 hl12 hl13 hl14 hl15 hl16 hl17
    obtain ⟨hq0, hq1, hq2, hq3, hq4, hq5, hq6, hq7, hq8, hq9, hq10, hq11, hq12, hq13, hq14, hq15, hq16, -⟩ := hf
    obtain rfl : x0 = _ := hq0
    obtain rfl : x1 = _ := hq1
    obtain rfl : x2 = _ := hq2
    obtain rfl : x3 = _ := hq3
    obtain rfl : x4 = _ := hq4
    obtain rfl : x5 = _ := hq5
    obtain rfl : x6 = _ := hq6
    obtain rfl : x7 = _ := hq7
    obtain rfl : x8 = _ := hq8
    obtain rfl : x9 = _ := hq9
    obtain rfl : x10 = _ := hq10
    obtain rfl : x11 = _ := hq11
    obtain rfl : x12 = _ := hq12
    obtain rfl : x13 = _ := hq13
    obtain rfl : x14 = _ := hq14
    obtain rfl : x15 = _ := hq15
    replace hq16 : wr.heap[p]? = some (.cells #[.pointer (some ⟨bv, 1, none⟩), .pointer (some ⟨bv, 2, none⟩), .pointer (some ⟨bv, 3, none⟩), .pointer (some ⟨bv, 4, none⟩), .pointer (some ⟨bv, 5, none⟩)] 43 (0, 0)) := hq16
    simp only [Reg.putL, Act.put, List.setIfInBounds_toArray, List.set_cons_succ, List.set_cons_zero]
    have HG := Aside0.mk hG.1
    have HQ := Aside0.mk hq16
    clear hG hq16
    go_wp2_with (fail)
    refine bodyPost_ret (results_cell_row rfl _ _ p 43 _ (0, 0) _ rfl HQ.out Tryd.underlying43 rfl (by kernel_rfl)) rfl ?_
    exact ⟨rfl, HG.out.toBelow HB.out (by rw [HP.out]; exact Nat.le_refl _)⟩
end Go.Proofs.YtgipdacenppmdaaDoor.G
