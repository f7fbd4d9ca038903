/- Due, Keep and Fork of the timers: what they answer and leave, whatever the world. -/
import Derived.Test.YtbocdfpgjkjilaaTP
import Derived.Test.YtbocdfpgjkjilaaReg
import Derived.Test.YtbocdfpgjkjilaaLay
import Derived.Maps.RangeWalk
set_option linter.unusedVariables false
set_option linter.unusedSimpArgs false
namespace Go.Proofs.Ytbocdfpgjkjilaa.T
open Go.RowKit Go.Maps Go.Sort Go.Proofs.YtbocdfpgjkjilaaW.PrintWords Go.Proofs.Ytbocdfpgjkjilaa.PTimerPlays Go.Proofs.Ytbocdfpgjkjilaa.R

def orI (x y : Int) : Int := if x = 0 then y else x
theorem or_any (blk : Nat) (x y : Int) (w : World) (h0 : w.cell? ⟨blk, 0, none⟩ = some (.int .i64 x)) (h1 : w.cell? ⟨blk, 1, none⟩ = some (.int .i64 y)) :
    Calls Try.prog 31 #[.slice (some ⟨blk, 0, none⟩) 2 2] w fun e w' => e = .returned (.int .i64 (orI x y)) ∧ w' = w := by
  unfold orI
  by_cases hx : x = 0
  · subst hx
    by_cases hy : y = 0
    · subst hy
      go_enter Try.func31, Try.ntmps31
      go_wp2
      refine wp_loop_rounds 3 ?_
      rw [rounds_succ]
      go_wp2
      rw [rounds_succ]
      go_wp2
      rw [rounds_succ]
      go_wp2
      go_ret
      exact ⟨rfl, rfl⟩
    · have hyb : (y != 0) = true := by simpa using hy
      go_enter Try.func31, Try.ntmps31
      go_wp2
      refine wp_loop_rounds 2 ?_
      rw [rounds_succ]
      go_wp2
      rw [rounds_succ]
      go_wp2
      go_ret
      exact ⟨by simp, rfl⟩
  · have hxb : (x != 0) = true := by simpa using hx
    go_enter Try.func31, Try.ntmps31
    go_wp2
    refine wp_loop_rounds 1 ?_
    rw [rounds_succ]
    go_wp2
    go_ret
    exact ⟨by simp [hx], rfl⟩

/-- A world with some orders drawn and some blocks laid behind it. -/
def Gr (w w' : World) : Prop := ∃ q os, w' = grow (w.drewN q) os
theorem Gr.refl (w : World) : Gr w w := ⟨0, #[], by rw [grow_empty]; rfl⟩
theorem Gr.trans {a b c : World} (h : Gr a b) (k : Gr b c) : Gr a c := by
  obtain ⟨q, os, rfl⟩ := h
  obtain ⟨r, os', rfl⟩ := k
  exact ⟨q + r, os ++ os', by show grow (grow ((a.drewN q).drewN r) os) os' = _; rw [grow_grow, World.drewN_drewN]⟩
theorem Gr.alloc {a b : World} (h : Gr a b) (o : Obj) : Gr a (b.alloc o) := h.trans ⟨0, #[o], by rw [alloc_eq_grow]; rfl⟩
theorem Gr.cell {a b : World} (h : Gr a b) {p : Addr} {v : Value} (hc : a.cell? p = some v) : b.cell? p = some v := by
  obtain ⟨q, os, rfl⟩ := h
  rw [cell?_grow _ _ _ (by exact World.block_lt_of_cell? a p hc)]
  exact hc
theorem Gr.below {a b : World} (h : Gr a b) : Below a.heap.size a b := by
  obtain ⟨q, os, rfl⟩ := h
  refine ⟨rfl, rfl, rfl, by show a.heap.size ≤ (a.heap ++ os).size; simp, fun k hk => ?_⟩
  show (a.heap ++ os)[k]? = a.heap[k]?
  rw [Array.getElem?_append_left hk]

theorem Gr.drew (w : World) : Gr w w.drew := ⟨1, #[], by rw [grow_empty]; rfl⟩
theorem hmix : Try.prog.follows .mixedOrders = true := by kernel_rfl

def cmpX (L : List S52) (x y : ByteArray) : Int := orI (Lib.compareInt (tAt L x) (tAt L y)) (Lib.compareBytes x.data.toList y.data.toList)

set_option maxHeartbeats 1000000 in
theorem due1_any (g b t : Nat) (L : List S52) (x y : ByteArray) (w : World) (h : Tm w g b L) (ht : w.cell? ⟨t, 0, none⟩ = some (.pointer (some ⟨g, 0, none⟩))) (hx : x.size ≤ maxLen) (hy : y.size ≤ maxLen) :
    Calls Try.prog 30 #[.string x, .string y, .pointer (some ⟨t, 0, none⟩)] w fun e w' => e = .returned (.int .i64 (cmpX L x y)) ∧ Gr w w' := by
  obtain ⟨h1, h2, h3, D, h4, h5⟩ := h
  have c0 : w.cell? ⟨g, 0, none⟩ = some (.map (some b)) := (blk_cell h1 0).trans rfl
  have hkx := WideMaps.keyOf_string_mk Try.underlying9 hx
  have hky := WideMaps.keyOf_string_mk Try.underlying9 hy
  clear h1 h3
  go_enter Try.func30, Try.ntmps30
  go_wp2_with fail
  refine Reg.region_list hmix [some 6, some 7, some 8, some 9, some 10, some 11, some 12, some 13, some 14, some 15, some 16, some 17, some 18, some 19, some 20, some 21, some 22, some 23, some 5] [[], [0], [1], [2], [], [3, 4], [], [6], [7], [8], [], [9, 10], [5, 11], [], [], [13, 14, 12], [12, 15], [16, 15], [17, 17, 0, 1, 2, 3, 4, 5, 6, 7, 8, 9, 10, 11, 12, 13, 14, 15, 16, 17]] (Gr w) (Gr) [(fun v w => v = (.pointer (some ⟨g, 0, none⟩) : Value)), (fun v w => v = (.pointer (some ⟨g, 0, none⟩) : Value)), (fun v w => v = (.pointer (some ⟨g, 0, none⟩) : Value)), (fun v w => v = (.map (some b) : Value)), (fun v w => v = (.string x : Value)), (fun v w => v = (.int .i64 (tAt L x) : Value)), (fun v w => v = (.pointer (some ⟨g, 0, none⟩) : Value)), (fun v w => v = (.pointer (some ⟨g, 0, none⟩) : Value)), (fun v w => v = (.pointer (some ⟨g, 0, none⟩) : Value)), (fun v w => v = (.map (some b) : Value)), (fun v w => v = (.string y : Value)), (fun v w => v = (.int .i64 (tAt L y) : Value)), (fun v w => v = (.int .i64 (Lib.compareInt (tAt L x) (tAt L y)) : Value)), (fun v w => v = (.string x : Value)), (fun v w => v = (.string y : Value)), (fun v w => v = (.int .i64 (Lib.compareBytes x.data.toList y.data.toList) : Value)), (fun v w => ∃ blk, v = .slice (some ⟨blk, 0, none⟩) 2 2 ∧ w.cell? ⟨blk, 0, none⟩ = some (.int .i64 (Lib.compareInt (tAt L x) (tAt L y))) ∧ w.cell? ⟨blk, 1, none⟩ = some (.int .i64 (Lib.compareBytes x.data.toList y.data.toList))), (fun v w => v = (.int .i64 (cmpX L x y) : Value)), (fun v w => v = (.int .i64 (cmpX L x y) : Value))] rfl (by kernel_rfl) (by kernel_rfl) (Gr.refl) (fun _ _ hr => Reg.mono_cons (fun _ h => h) (Reg.mono_cons (fun _ h => h) (Reg.mono_cons (fun _ h => h) (Reg.mono_cons (fun _ h => h) (Reg.mono_cons (fun _ h => h) (Reg.mono_cons (fun _ h => h) (Reg.mono_cons (fun _ h => h) (Reg.mono_cons (fun _ h => h) (Reg.mono_cons (fun _ h => h) (Reg.mono_cons (fun _ h => h) (Reg.mono_cons (fun _ h => h) (Reg.mono_cons (fun _ h => h) (Reg.mono_cons (fun _ h => h) (Reg.mono_cons (fun _ h => h) (Reg.mono_cons (fun _ h => h) (Reg.mono_cons (fun _ h => h) (Reg.mono_cons (fun v ⟨blk, e, h0, h1⟩ => ⟨blk, e, hr.cell h0, hr.cell h1⟩) (Reg.mono_cons (fun _ h => h) (Reg.mono_cons (fun _ h => h) (Reg.mono_nil)))))))))))))))))))) (Gr.drew w) ?hs ?he
  case hs =>
    intro xs0 xs hx0 hl0_ wr hG
    clear hx0
    obtain ⟨x0, xs1, rfl, hl1⟩ := Reg.len_succ hl0_
    obtain ⟨x1, xs2, rfl, hl2⟩ := Reg.len_succ hl1
    obtain ⟨x2, xs3, rfl, hl3⟩ := Reg.len_succ hl2
    obtain ⟨x3, xs4, rfl, hl4⟩ := Reg.len_succ hl3
    obtain ⟨x4, xs5, rfl, hl5⟩ := Reg.len_succ hl4
    obtain ⟨x5, xs6, rfl, hl6⟩ := Reg.len_succ hl5
    obtain ⟨x6, xs7, rfl, hl7⟩ := Reg.len_succ hl6
    obtain ⟨x7, xs8, rfl, hl8⟩ := Reg.len_succ hl7
    obtain ⟨x8, xs9, rfl, hl9⟩ := Reg.len_succ hl8
    obtain ⟨x9, xs10, rfl, hl10⟩ := Reg.len_succ hl9
    obtain ⟨x10, xs11, rfl, hl11⟩ := Reg.len_succ hl10
    obtain ⟨x11, xs12, rfl, hl12⟩ := Reg.len_succ hl11
    obtain ⟨x12, xs13, rfl, hl13⟩ := Reg.len_succ hl12
    obtain ⟨x13, xs14, rfl, hl14⟩ := Reg.len_succ hl13
    obtain ⟨x14, xs15, rfl, hl15⟩ := Reg.len_succ hl14
    obtain ⟨x15, xs16, rfl, hl16⟩ := Reg.len_succ hl15
    obtain ⟨x16, xs17, rfl, hl17⟩ := Reg.len_succ hl16
    obtain ⟨x17, xs18, rfl, hl18⟩ := Reg.len_succ hl17
    obtain ⟨x18, xs19, rfl, hl19⟩ := Reg.len_succ hl18
    obtain rfl := List.eq_nil_of_length_eq_zero hl19
    clear hl0_ hl1 hl2 hl3 hl4 hl5 hl6 hl7 hl8 hl9 hl10 hl11 hl12 hl13 hl14 hl15 hl16 hl17 hl18 hl19
    simp only [Reg.putL, Act.put, List.setIfInBounds_toArray, List.set_cons_succ, List.set_cons_zero]
    have ht' := hG.cell ht; have c0' := hG.cell c0; have h4' := h4.kept (grown_of_below hG.below none) (by simp)
    refine ⟨fun hf _ => ?_, ?_⟩
    · clear hf
      refine .inl ⟨by rfl, ?_⟩
      simp only [Reg.ung]
      go_wp2
      exact ⟨_, rfl, hG, Gr.refl _, rfl⟩
    refine ⟨fun hf _ => ?_, ?_⟩
    · obtain ⟨hq0, -⟩ := hf
      obtain rfl : x0 = _ := hq0
      refine .inl ⟨by rfl, ?_⟩
      simp only [Reg.ung]
      go_wp2
      exact ⟨_, rfl, hG, Gr.refl _, rfl⟩
    refine ⟨fun hf _ => ?_, ?_⟩
    · obtain ⟨hq0, -⟩ := hf
      obtain rfl : x1 = _ := hq0
      refine .inl ⟨by rfl, ?_⟩
      simp only [Reg.ung]
      go_wp2
      exact ⟨_, rfl, hG, Gr.refl _, rfl⟩
    refine ⟨fun hf _ => ?_, ?_⟩
    · obtain ⟨hq0, -⟩ := hf
      obtain rfl : x2 = _ := hq0
      refine .inl ⟨by rfl, ?_⟩
      simp only [Reg.ung]
      go_wp2
      exact ⟨_, rfl, hG, Gr.refl _, rfl⟩
    refine ⟨fun hf _ => ?_, ?_⟩
    · clear hf
      refine .inl ⟨by rfl, ?_⟩
      simp only [Reg.ung]
      go_wp2
      exact ⟨_, rfl, hG, Gr.refl _, rfl⟩
    refine ⟨fun hf _ => ?_, ?_⟩
    · obtain ⟨hq0, hq1, -⟩ := hf
      obtain rfl : x3 = _ := hq0
      obtain rfl : x4 = _ := hq1
      refine .inl ⟨by rfl, ?_⟩
      simp only [Reg.ung]
      go_wp2_with ((at_lookup; refine wpList_lookup_own_int _ rfl _ _ 54 rfl 9 3 .i64 law9 Try.underlying54 Try.underlying3 (zero3 _) b _ D rfl h4' _ _ rfl hkx ?_; intro c hat hwc)); exact ⟨_, rfl, hG, Gr.refl _, by rw [h5.at_ h2 x c hat]⟩
    refine ⟨fun hf _ => ?_, ?_⟩
    · clear hf
      refine .inl ⟨by rfl, ?_⟩
      simp only [Reg.ung]
      go_wp2
      exact ⟨_, rfl, hG, Gr.refl _, rfl⟩
    refine ⟨fun hf _ => ?_, ?_⟩
    · obtain ⟨hq0, -⟩ := hf
      obtain rfl : x6 = _ := hq0
      refine .inl ⟨by rfl, ?_⟩
      simp only [Reg.ung]
      go_wp2
      exact ⟨_, rfl, hG, Gr.refl _, rfl⟩
    refine ⟨fun hf _ => ?_, ?_⟩
    · obtain ⟨hq0, -⟩ := hf
      obtain rfl : x7 = _ := hq0
      refine .inl ⟨by rfl, ?_⟩
      simp only [Reg.ung]
      go_wp2
      exact ⟨_, rfl, hG, Gr.refl _, rfl⟩
    refine ⟨fun hf _ => ?_, ?_⟩
    · obtain ⟨hq0, -⟩ := hf
      obtain rfl : x8 = _ := hq0
      refine .inl ⟨by rfl, ?_⟩
      simp only [Reg.ung]
      go_wp2
      exact ⟨_, rfl, hG, Gr.refl _, rfl⟩
    refine ⟨fun hf _ => ?_, ?_⟩
    · clear hf
      refine .inl ⟨by rfl, ?_⟩
      simp only [Reg.ung]
      go_wp2
      exact ⟨_, rfl, hG, Gr.refl _, rfl⟩
    refine ⟨fun hf _ => ?_, ?_⟩
    · obtain ⟨hq0, hq1, -⟩ := hf
      obtain rfl : x9 = _ := hq0
      obtain rfl : x10 = _ := hq1
      refine .inl ⟨by rfl, ?_⟩
      simp only [Reg.ung]
      go_wp2_with ((at_lookup; refine wpList_lookup_own_int _ rfl _ _ 54 rfl 9 3 .i64 law9 Try.underlying54 Try.underlying3 (zero3 _) b _ D rfl h4' _ _ rfl hky ?_; intro c hat hwc)); exact ⟨_, rfl, hG, Gr.refl _, by rw [h5.at_ h2 y c hat]⟩
    refine ⟨fun hf _ => ?_, ?_⟩
    · obtain ⟨hq0, hq1, -⟩ := hf
      obtain rfl : x5 = _ := hq0
      obtain rfl : x11 = _ := hq1
      refine .inl ⟨by rfl, ?_⟩
      simp only [Reg.ung]
      go_wp2_with ((go_at_call 32; refine (Try.cmp_Compare_int _ _ _).mono ?_; rintro e w' ⟨rfl, rfl⟩)); exact ⟨_, rfl, hG, Gr.refl _, rfl⟩
    refine ⟨fun hf _ => ?_, ?_⟩
    · clear hf
      refine .inl ⟨by rfl, ?_⟩
      simp only [Reg.ung]
      go_wp2
      exact ⟨_, rfl, hG, Gr.refl _, rfl⟩
    refine ⟨fun hf _ => ?_, ?_⟩
    · clear hf
      refine .inl ⟨by rfl, ?_⟩
      simp only [Reg.ung]
      go_wp2
      exact ⟨_, rfl, hG, Gr.refl _, rfl⟩
    refine ⟨fun hf _ => ?_, ?_⟩
    · obtain ⟨hq0, hq1, -, -⟩ := hf
      obtain rfl : x13 = _ := hq0
      obtain rfl : x14 = _ := hq1
      refine .inl ⟨by rfl, ?_⟩
      simp only [Reg.ung]
      go_wp2_with ((go_at_call 33; refine (Try.strings_Compare _ _ _).mono ?_; rintro e w' ⟨rfl, rfl⟩)); exact ⟨_, rfl, hG, Gr.refl _, rfl⟩
    refine ⟨fun hf _ => ?_, ?_⟩
    · obtain ⟨hq0, hq1, -⟩ := hf
      obtain rfl : x12 = _ := hq0
      obtain rfl : x15 = _ := hq1
      refine .inl ⟨by rfl, ?_⟩
      simp only [Reg.ung]
      go_wp2; exact ⟨_, rfl, hG.alloc _, (Gr.refl _).alloc _, _, rfl, by simp, by simp⟩
    refine ⟨fun hf _ => ?_, ?_⟩
    · obtain ⟨hq0, -, -⟩ := hf
      replace hq0 : ∃ blk, x16 = .slice (some ⟨blk, 0, none⟩) 2 2 ∧ wr.cell? ⟨blk, 0, none⟩ = some (.int .i64 (Lib.compareInt (tAt L x) (tAt L y))) ∧ wr.cell? ⟨blk, 1, none⟩ = some (.int .i64 (Lib.compareBytes x.data.toList y.data.toList)) := hq0
      refine .inl ⟨by rfl, ?_⟩
      simp only [Reg.ung]
      obtain ⟨blk, rfl, hb0, hb1⟩ := hq0; go_wp2_with ((go_at_call 31; refine (or_any _ _ _ _ hb0 hb1).mono ?_; rintro e w' ⟨rfl, rfl⟩)); exact ⟨_, rfl, hG, Gr.refl _, rfl⟩
    refine ⟨fun hf _ => ?_, ?_⟩
    · obtain ⟨hq0, -, -, -, -, -, -, -, -, -, -, -, -, -, -, -, -, -, -, -, -⟩ := hf
      obtain rfl : x17 = _ := hq0
      refine .inl ⟨by rfl, ?_⟩
      simp only [Reg.ung]
      go_wp2
      exact ⟨_, rfl, hG, Gr.refl _, rfl⟩
    exact trivial
  case he =>
    intro xs hl0_ wr hG hf
    obtain ⟨x0, xs1, rfl, hl1⟩ := Reg.len_succ hl0_
    obtain ⟨x1, xs2, rfl, hl2⟩ := Reg.len_succ hl1
    obtain ⟨x2, xs3, rfl, hl3⟩ := Reg.len_succ hl2
    obtain ⟨x3, xs4, rfl, hl4⟩ := Reg.len_succ hl3
    obtain ⟨x4, xs5, rfl, hl5⟩ := Reg.len_succ hl4
    obtain ⟨x5, xs6, rfl, hl6⟩ := Reg.len_succ hl5
    obtain ⟨x6, xs7, rfl, hl7⟩ := Reg.len_succ hl6
    obtain ⟨x7, xs8, rfl, hl8⟩ := Reg.len_succ hl7
    obtain ⟨x8, xs9, rfl, hl9⟩ := Reg.len_succ hl8
    obtain ⟨x9, xs10, rfl, hl10⟩ := Reg.len_succ hl9
    obtain ⟨x10, xs11, rfl, hl11⟩ := Reg.len_succ hl10
    obtain ⟨x11, xs12, rfl, hl12⟩ := Reg.len_succ hl11
    obtain ⟨x12, xs13, rfl, hl13⟩ := Reg.len_succ hl12
    obtain ⟨x13, xs14, rfl, hl14⟩ := Reg.len_succ hl13
    obtain ⟨x14, xs15, rfl, hl15⟩ := Reg.len_succ hl14
    obtain ⟨x15, xs16, rfl, hl16⟩ := Reg.len_succ hl15
    obtain ⟨x16, xs17, rfl, hl17⟩ := Reg.len_succ hl16
    obtain ⟨x17, xs18, rfl, hl18⟩ := Reg.len_succ hl17
    obtain ⟨x18, xs19, rfl, hl19⟩ := Reg.len_succ hl18
    obtain rfl := List.eq_nil_of_length_eq_zero hl19
    clear hl0_ hl1 hl2 hl3 hl4 hl5 hl6 hl7 hl8 hl9 hl10 hl11 hl12 hl13 hl14 hl15 hl16 hl17 hl18 hl19
    obtain ⟨hq0, hq1, hq2, hq3, hq4, hq5, hq6, hq7, hq8, hq9, hq10, hq11, hq12, hq13, hq14, hq15, hq16, hq17, hq18, -⟩ := hf
    obtain rfl : x0 = _ := hq0
    obtain rfl : x1 = _ := hq1
    obtain rfl : x2 = _ := hq2
    obtain rfl : x3 = _ := hq3
    obtain rfl : x4 = _ := hq4
    obtain rfl : x5 = _ := hq5
    obtain rfl : x6 = _ := hq6
    obtain rfl : x7 = _ := hq7
    obtain rfl : x8 = _ := hq8
    obtain rfl : x9 = _ := hq9
    obtain rfl : x10 = _ := hq10
    obtain rfl : x11 = _ := hq11
    obtain rfl : x12 = _ := hq12
    obtain rfl : x13 = _ := hq13
    obtain rfl : x14 = _ := hq14
    obtain rfl : x15 = _ := hq15
    replace hq16 : ∃ blk, x16 = .slice (some ⟨blk, 0, none⟩) 2 2 ∧ wr.cell? ⟨blk, 0, none⟩ = some (.int .i64 (Lib.compareInt (tAt L x) (tAt L y))) ∧ wr.cell? ⟨blk, 1, none⟩ = some (.int .i64 (Lib.compareBytes x.data.toList y.data.toList)) := hq16
    obtain rfl : x17 = _ := hq17
    obtain rfl : x18 = _ := hq18
    simp only [Reg.putL, Act.put, List.setIfInBounds_toArray, List.set_cons_succ, List.set_cons_zero]
    go_wp2; go_ret; exact ⟨rfl, hG⟩

end Go.Proofs.Ytbocdfpgjkjilaa.T
