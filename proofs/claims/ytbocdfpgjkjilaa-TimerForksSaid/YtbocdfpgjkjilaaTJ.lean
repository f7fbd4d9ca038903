/- Both have the same, at a time and of a key: the law's same answers true. -/
import Derived.Test.YtbocdfpgjkjilaaTI
set_option linter.unusedVariables false
set_option linter.unusedSimpArgs false
namespace Go.Proofs.Ytbocdfpgjkjilaa.T
open Go.RowKit Go.Maps Go.Sort Go.Shelf Go.Proofs.YtbocdfpgjkjilaaW.PrintWords Go.Proofs.Ytbocdfpgjkjilaa.PTimerPlays Go.Proofs.Ytbocdfpgjkjilaa.R Go.Proofs.Ytbocdfpgjkjilaa.Cells

theorem dueL_le {L : List S52} (now : Int) (h : L.length ≤ 1000000000) : (dueL L now).length ≤ 1000000000 := by
  have := List.length_filter_le (fun x : S52 => decide (x.f1 ≤ now)) L
  simp [dueL]
  omega
theorem rrow {w : World} {base : Nat} {ok : Nat → Prop} {v : Value} {l : List ByteArray} (h : Kd.R Kd.string 9 w base ok v l) : ∃ A c, v = .slice A l.length c ∧ l.length ≤ c ∧ Kd.string.C w A l.length l := Kd.R_reads h

set_option maxHeartbeats 4000000 in
theorem same_any (g b : Nat) (A : Option Addr) (c : Nat) (L : List S52) (now : Int) (k : ByteArray) (w : World) (h : Pl w g b A c L) (hLn : L.length ≤ 1000000000) (hk : k.size ≤ maxLen) :
    Calls Try.prog 17 #[.pointer (some ⟨g, 0, none⟩), .agg #[.slice A L.length c], .int .i64 now, .string k] w fun e w' => e = .returned (.bool true) ∧ Below w.heap.size w w' := by
  obtain ⟨hT, hC, hcap, hS, -⟩ := h
  have HT := Aside0.mk hT
  have HC := Aside0.mk hC
  have HS := Aside0.mk hS
  clear hT hC hS
  go_enter Try.func17, Try.ntmps17
  go_wp2_with (fail)
  have HB1 := Aside0.mk (below_alloc (Below.refl w.heap.size w) (Obj.cells #[Value.slice A L.length c] 39))
  refine (next_any g b L k _ (HT.out.below HB1.out) hk).mono ?_
  rintro e w' ⟨rfl, rfl⟩
  go_wp2_with (fail)
  refine (rnext_any A c L k _ (Kd.C_below HC.out HB1.out) hcap hLn).mono ?_
  rintro e wa ⟨rfl, hb⟩
  have HWa' := Aside0.mk (below_then HB1.out HB1.out.size hb)
  have hbx := (hb.block w.heap.size (by simp)).trans (blk_new w (Obj.cells #[Value.slice A L.length c] 39))
  have c5 : wa.cell? ⟨w.heap.size, 0, none⟩ = some (.slice A L.length c) := (blk_cell hbx 0).trans rfl
  obtain ⟨bx, hbx'⟩ : ∃ bx, bx = w.heap.size := ⟨_, rfl⟩
  clear hb hbx
  go_wp2_with (fail)
  rw [← hbx'] at c5 ⊢
  have hT := HT.out.below HWa'.out
  have hC := Kd.C_below HC.out HWa'.out
  have hS := HS.out
  have HWa := HWa'.out
  clear HT HC HS HB1 HWa' hbx'
  refine Reg.region_list hmix [some 25, some 26, some 27, some 28, some 29, some 30, some 31, some 32, some 33, some 34, some 35, some 36, some 37, some 38, some 39, some 40, some 41, some 42, some 43, some 44, some 45, some 46, some 47, some 48, some 49, some 50, some 51, some 52, some 53, some 54, some 55, some 56, some 8] [[], [], [0, 1], [], [], [3, 4, 2], [2, 5, 5], [6, 6], [7], [8, 7, 7], [7], [10, 9, 7], [9, 11, 11, 7], [7, 12], [13, 12], [14], [15, 14, 14], [14], [17, 14], [18, 14], [16, 19, 14], [14, 20], [21, 16], [22], [22], [23, 24, 22], [22, 25], [26, 22], [27], [27], [28, 29, 27], [27, 30], [31, 27, 0, 1, 2, 3, 4, 5, 6, 7, 8, 9, 10, 11, 12, 13, 14, 15, 16, 17, 18, 19, 20, 21, 22, 23, 24, 25, 26, 27, 28, 29, 30, 31]] (fun w => Below wa.heap.size wa w) (fun w w' => Below w.heap.size w w') [(fun v w => v = (.pointer (some ⟨g, 0, none⟩) : Value)), (fun v w => v = (.int .i64 now : Value)), (fun v w => ∃ A c, v = .slice A (dueL L now).length c ∧ (dueL L now).length ≤ c ∧ Kd.string.C w A (dueL L now).length (dueL L now)), (fun v w => v = (.agg #[.slice A L.length c] : Value)), (fun v w => v = (.int .i64 now : Value)), (fun v w => ∃ A c, v = .slice A (dueL L now).length c ∧ (dueL L now).length ≤ c ∧ Kd.string.C w A (dueL L now).length (dueL L now)), (fun v w => v = (.bool true : Value)), (fun v w => v = (.bool true : Value)), (fun v w => v = (.pointer (some ⟨g, 0, none⟩) : Value)), (fun v w => ∃ A c, v = .slice A (dueL L 1099511627776).length c ∧ (dueL L 1099511627776).length ≤ c ∧ Kd.string.C w A (dueL L 1099511627776).length (dueL L 1099511627776)), (fun v w => v = (.agg #[.slice A L.length c] : Value)), (fun v w => ∃ A c, v = .slice A (dueL L 1099511627776).length c ∧ (dueL L 1099511627776).length ≤ c ∧ Kd.string.C w A (dueL L 1099511627776).length (dueL L 1099511627776)), (fun v w => v = (.bool true : Value)), (fun v w => v = (.bool true : Value)), (fun v w => v = (.bool true : Value)), (fun v w => v = (.pointer (some ⟨g, 0, none⟩) : Value)), (fun v w => v = (.int .i64 (L.length : Int) : Value)), (fun v w => v = (.pointer (some ⟨bx, 0, none⟩) : Value)), (fun v w => v = (.slice A L.length c : Value)), (fun v w => v = (.int .i64 (L.length : Int) : Value)), (fun v w => v = (.bool true : Value)), (fun v w => v = (.bool true : Value)), (fun v w => v = (.bool true : Value)), (fun v w => v = (.int .i64 (tAt L k) : Value)), (fun v w => v = (.int .i64 (tAt L k) : Value)), (fun v w => v = (.bool true : Value)), (fun v w => v = (.bool true : Value)), (fun v w => v = (.bool true : Value)), (fun v w => v = (.bool (tHas L k) : Value)), (fun v w => v = (.bool (tHas L k) : Value)), (fun v w => v = (.bool true : Value)), (fun v w => v = (.bool true : Value)), (fun v w => v = (.bool true : Value))] rfl (by kernel_rfl) (by kernel_rfl) (fun w => Below.refl w.heap.size w) (fun _ _ hr => Reg.mono_cons (fun _ h => h) (Reg.mono_cons (fun _ h => h) (Reg.mono_cons (fun v ⟨A, c, e, h1, h2⟩ => ⟨A, c, e, h1, Kd.C_below h2 hr⟩) (Reg.mono_cons (fun _ h => h) (Reg.mono_cons (fun _ h => h) (Reg.mono_cons (fun v ⟨A, c, e, h1, h2⟩ => ⟨A, c, e, h1, Kd.C_below h2 hr⟩) (Reg.mono_cons (fun _ h => h) (Reg.mono_cons (fun _ h => h) (Reg.mono_cons (fun _ h => h) (Reg.mono_cons (fun v ⟨A, c, e, h1, h2⟩ => ⟨A, c, e, h1, Kd.C_below h2 hr⟩) (Reg.mono_cons (fun _ h => h) (Reg.mono_cons (fun v ⟨A, c, e, h1, h2⟩ => ⟨A, c, e, h1, Kd.C_below h2 hr⟩) (Reg.mono_cons (fun _ h => h) (Reg.mono_cons (fun _ h => h) (Reg.mono_cons (fun _ h => h) (Reg.mono_cons (fun _ h => h) (Reg.mono_cons (fun _ h => h) (Reg.mono_cons (fun _ h => h) (Reg.mono_cons (fun _ h => h) (Reg.mono_cons (fun _ h => h) (Reg.mono_cons (fun _ h => h) (Reg.mono_cons (fun _ h => h) (Reg.mono_cons (fun _ h => h) (Reg.mono_cons (fun _ h => h) (Reg.mono_cons (fun _ h => h) (Reg.mono_cons (fun _ h => h) (Reg.mono_cons (fun _ h => h) (Reg.mono_cons (fun _ h => h) (Reg.mono_cons (fun _ h => h) (Reg.mono_cons (fun _ h => h) (Reg.mono_cons (fun _ h => h) (Reg.mono_cons (fun _ h => h) (Reg.mono_cons (fun _ h => h) (Reg.mono_nil)))))))))))))))))))))))))))))))))) ((Below.refl _ _).drew) ?hs ?he
  case hs =>
    intro xs0 xs hx0 hl0_ wr hG
    clear hx0
    obtain ⟨x0, xs1, rfl, hl1⟩ := Reg.len_succ hl0_
    obtain ⟨x1, xs2, rfl, hl2⟩ := Reg.len_succ hl1
    obtain ⟨x2, xs3, rfl, hl3⟩ := Reg.len_succ hl2
    obtain ⟨x3, xs4, rfl, hl4⟩ := Reg.len_succ hl3
    obtain ⟨x4, xs5, rfl, hl5⟩ := Reg.len_succ hl4
    obtain ⟨x5, xs6, rfl, hl6⟩ := Reg.len_succ hl5
    obtain ⟨x6, xs7, rfl, hl7⟩ := Reg.len_succ hl6
    obtain ⟨x7, xs8, rfl, hl8⟩ := Reg.len_succ hl7
    obtain ⟨x8, xs9, rfl, hl9⟩ := Reg.len_succ hl8
    obtain ⟨x9, xs10, rfl, hl10⟩ := Reg.len_succ hl9
    obtain ⟨x10, xs11, rfl, hl11⟩ := Reg.len_succ hl10
    obtain ⟨x11, xs12, rfl, hl12⟩ := Reg.len_succ hl11
    obtain ⟨x12, xs13, rfl, hl13⟩ := Reg.len_succ hl12
    obtain ⟨x13, xs14, rfl, hl14⟩ := Reg.len_succ hl13
    obtain ⟨x14, xs15, rfl, hl15⟩ := Reg.len_succ hl14
    obtain ⟨x15, xs16, rfl, hl16⟩ := Reg.len_succ hl15
    obtain ⟨x16, xs17, rfl, hl17⟩ := Reg.len_succ hl16
    obtain ⟨x17, xs18, rfl, hl18⟩ := Reg.len_succ hl17
    obtain ⟨x18, xs19, rfl, hl19⟩ := Reg.len_succ hl18
    obtain ⟨x19, xs20, rfl, hl20⟩ := Reg.len_succ hl19
    obtain ⟨x20, xs21, rfl, hl21⟩ := Reg.len_succ hl20
    obtain ⟨x21, xs22, rfl, hl22⟩ := Reg.len_succ hl21
    obtain ⟨x22, xs23, rfl, hl23⟩ := Reg.len_succ hl22
    obtain ⟨x23, xs24, rfl, hl24⟩ := Reg.len_succ hl23
    obtain ⟨x24, xs25, rfl, hl25⟩ := Reg.len_succ hl24
    obtain ⟨x25, xs26, rfl, hl26⟩ := Reg.len_succ hl25
    obtain ⟨x26, xs27, rfl, hl27⟩ := Reg.len_succ hl26
    obtain ⟨x27, xs28, rfl, hl28⟩ := Reg.len_succ hl27
    obtain ⟨x28, xs29, rfl, hl29⟩ := Reg.len_succ hl28
    obtain ⟨x29, xs30, rfl, hl30⟩ := Reg.len_succ hl29
    obtain ⟨x30, xs31, rfl, hl31⟩ := Reg.len_succ hl30
    obtain ⟨x31, xs32, rfl, hl32⟩ := Reg.len_succ hl31
    obtain ⟨x32, xs33, rfl, hl33⟩ := Reg.len_succ hl32
    obtain rfl := List.eq_nil_of_length_eq_zero hl33
    clear hl0_ hl1 hl2 hl3 hl4 hl5 hl6 hl7 hl8 hl9 hl10 hl11 hl12 hl13 hl14 hl15 hl16 hl17 hl18 hl19 hl20 hl21 hl22 hl23 hl24 hl25 hl26 hl27 hl28 hl29 hl30 hl31 hl32 hl33
    simp only [Reg.putL, Act.put, List.setIfInBounds_toArray, List.set_cons_succ, List.set_cons_zero]
    have ht' := hT.below hG; have hc' := Kd.C_below hC hG; have c5' := (hG.cell (World.block_lt_of_cell? wa _ c5)).trans c5
    refine ⟨fun hf _ => ?_, ?_⟩
    · clear hf
      refine .inl ⟨by rfl, ?_⟩
      simp only [Reg.ung]
      go_wp2
      exact ⟨_, rfl, hG, (fun w => Below.refl w.heap.size w) _, rfl⟩
    refine ⟨fun hf _ => ?_, ?_⟩
    · clear hf
      refine .inl ⟨by rfl, ?_⟩
      simp only [Reg.ung]
      go_wp2
      exact ⟨_, rfl, hG, (fun w => Below.refl w.heap.size w) _, rfl⟩
    refine ⟨fun hf _ => ?_, ?_⟩
    · obtain ⟨hq0, hq1, -⟩ := hf
      obtain rfl : x0 = _ := hq0
      obtain rfl : x1 = _ := hq1
      refine .inl ⟨by rfl, ?_⟩
      simp only [Reg.ung]
      go_wp2_with ((go_at_call 18; refine (due_any g b L now _ ht' hS hLn).mono ?_; rintro e w' ⟨v, rfl, hr, hb⟩)); exact ⟨_, rfl, below_then hG hG.size hb, hb, rrow hr⟩
    refine ⟨fun hf _ => ?_, ?_⟩
    · clear hf
      refine .inl ⟨by rfl, ?_⟩
      simp only [Reg.ung]
      go_wp2
      exact ⟨_, rfl, hG, (fun w => Below.refl w.heap.size w) _, rfl⟩
    refine ⟨fun hf _ => ?_, ?_⟩
    · clear hf
      refine .inl ⟨by rfl, ?_⟩
      simp only [Reg.ung]
      go_wp2
      exact ⟨_, rfl, hG, (fun w => Below.refl w.heap.size w) _, rfl⟩
    refine ⟨fun hf _ => ?_, ?_⟩
    · obtain ⟨hq0, hq1, -, -⟩ := hf
      obtain rfl : x3 = _ := hq0
      obtain rfl : x4 = _ := hq1
      refine .inl ⟨by rfl, ?_⟩
      simp only [Reg.ung]
      go_wp2_with ((go_at_call 28; refine (rdue_any A c L now _ hc' hcap hLn).mono ?_; rintro e w' ⟨v, rfl, hr, hb⟩)); exact ⟨_, rfl, below_then hG hG.size hb, hb, rrow hr⟩
    refine ⟨fun hf _ => ?_, ?_⟩
    · obtain ⟨hq0, hq1, -, -⟩ := hf
      replace hq0 : ∃ A c, x2 = .slice A (dueL L now).length c ∧ (dueL L now).length ≤ c ∧ Kd.string.C wr A (dueL L now).length (dueL L now) := hq0
      replace hq1 : ∃ A c, x5 = .slice A (dueL L now).length c ∧ (dueL L now).length ≤ c ∧ Kd.string.C wr A (dueL L now).length (dueL L now) := hq1
      refine .inl ⟨by rfl, ?_⟩
      simp only [Reg.ung]
      obtain ⟨A1, q1, rfl, l1, r1⟩ := hq0; obtain ⟨A2, q2, rfl, l2, r2⟩ := hq1; go_wp2_with ((go_at_call 27; refine (texts_any A1 q1 _ A2 q2 _ _ r1 l1 r2 l2 (dueL_le now hLn)).mono ?_; rintro e w' ⟨rfl, hb⟩)); exact ⟨_, rfl, below_then hG hG.size hb, hb, by simp⟩
    refine ⟨fun hf _ => ?_, ?_⟩
    · obtain ⟨hq0, -, -⟩ := hf
      obtain rfl : x6 = _ := hq0
      refine .inl ⟨by rfl, ?_⟩
      simp only [Reg.ung]
      go_wp2
      exact ⟨_, rfl, hG, (fun w => Below.refl w.heap.size w) _, rfl⟩
    refine ⟨fun hf _ => ?_, ?_⟩
    · obtain ⟨hq0, -⟩ := hf
      obtain rfl : x7 = _ := hq0
      refine .inl ⟨by rfl, ?_⟩
      simp only [Reg.ung]
      go_wp2
      exact ⟨_, rfl, hG, (fun w => Below.refl w.heap.size w) _, rfl⟩
    refine ⟨fun hf _ => ?_, ?_⟩
    · obtain ⟨hq0, hq1, -, -⟩ := hf
      obtain rfl : x8 = _ := hq0
      obtain rfl : x7 = _ := hq1
      refine .inl ⟨by rfl, ?_⟩
      simp only [Reg.ung]
      go_wp2_with ((go_at_call 18; refine (due_any g b L 1099511627776 _ ht' hS hLn).mono ?_; rintro e w' ⟨v, rfl, hr, hb⟩)); exact ⟨_, rfl, below_then hG hG.size hb, hb, rrow hr⟩
    refine ⟨fun hf _ => ?_, ?_⟩
    · obtain ⟨hq0, -⟩ := hf
      obtain rfl : x7 = _ := hq0
      refine .inl ⟨by rfl, ?_⟩
      simp only [Reg.ung]
      go_wp2
      exact ⟨_, rfl, hG, (fun w => Below.refl w.heap.size w) _, rfl⟩
    refine ⟨fun hf _ => ?_, ?_⟩
    · obtain ⟨hq0, -, hq2, -⟩ := hf
      obtain rfl : x10 = _ := hq0
      obtain rfl : x7 = _ := hq2
      refine .inl ⟨by rfl, ?_⟩
      simp only [Reg.ung]
      go_wp2_with ((go_at_call 28; refine (rdue_any A c L 1099511627776 _ hc' hcap hLn).mono ?_; rintro e w' ⟨v, rfl, hr, hb⟩)); exact ⟨_, rfl, below_then hG hG.size hb, hb, rrow hr⟩
    refine ⟨fun hf _ => ?_, ?_⟩
    · obtain ⟨hq0, hq1, -, hq3, -⟩ := hf
      replace hq0 : ∃ A c, x9 = .slice A (dueL L 1099511627776).length c ∧ (dueL L 1099511627776).length ≤ c ∧ Kd.string.C wr A (dueL L 1099511627776).length (dueL L 1099511627776) := hq0
      replace hq1 : ∃ A c, x11 = .slice A (dueL L 1099511627776).length c ∧ (dueL L 1099511627776).length ≤ c ∧ Kd.string.C wr A (dueL L 1099511627776).length (dueL L 1099511627776) := hq1
      obtain rfl : x7 = _ := hq3
      refine .inl ⟨by rfl, ?_⟩
      simp only [Reg.ung]
      obtain ⟨A1, q1, rfl, l1, r1⟩ := hq0; obtain ⟨A2, q2, rfl, l2, r2⟩ := hq1; go_wp2_with ((go_at_call 27; refine (texts_any A1 q1 _ A2 q2 _ _ r1 l1 r2 l2 (dueL_le 1099511627776 hLn)).mono ?_; rintro e w' ⟨rfl, hb⟩)); exact ⟨_, rfl, below_then hG hG.size hb, hb, by simp⟩
    refine ⟨fun hf _ => ?_, ?_⟩
    · obtain ⟨hq0, hq1, -⟩ := hf
      obtain rfl : x7 = _ := hq0
      obtain rfl : x12 = _ := hq1
      refine .inl ⟨by rfl, ?_⟩
      simp only [Reg.ung]
      go_wp2
      exact ⟨_, rfl, hG, (fun w => Below.refl w.heap.size w) _, rfl⟩
    refine ⟨fun hf _ => ?_, ?_⟩
    · obtain ⟨hq0, -, -⟩ := hf
      obtain rfl : x13 = _ := hq0
      refine .inl ⟨by rfl, ?_⟩
      simp only [Reg.ung]
      go_wp2
      exact ⟨_, rfl, hG, (fun w => Below.refl w.heap.size w) _, rfl⟩
    refine ⟨fun hf _ => ?_, ?_⟩
    · obtain ⟨hq0, -⟩ := hf
      obtain rfl : x14 = _ := hq0
      refine .inl ⟨by rfl, ?_⟩
      simp only [Reg.ung]
      go_wp2
      exact ⟨_, rfl, hG, (fun w => Below.refl w.heap.size w) _, rfl⟩
    refine ⟨fun hf _ => ?_, ?_⟩
    · obtain ⟨hq0, hq1, -, -⟩ := hf
      obtain rfl : x15 = _ := hq0
      obtain rfl : x14 = _ := hq1
      refine .inl ⟨by rfl, ?_⟩
      simp only [Reg.ung]
      go_wp2_with ((go_at_call 13; refine (len_any g b L _ ht').mono ?_; rintro e w' ⟨rfl, rfl⟩)); exact ⟨_, rfl, hG, Below.refl _ _, rfl⟩
    refine ⟨fun hf _ => ?_, ?_⟩
    · obtain ⟨hq0, -⟩ := hf
      obtain rfl : x14 = _ := hq0
      refine .inl ⟨by rfl, ?_⟩
      simp only [Reg.ung]
      go_wp2
      exact ⟨_, rfl, hG, (fun w => Below.refl w.heap.size w) _, rfl⟩
    refine ⟨fun hf _ => ?_, ?_⟩
    · obtain ⟨hq0, hq1, -⟩ := hf
      obtain rfl : x17 = _ := hq0
      obtain rfl : x14 = _ := hq1
      refine .inl ⟨by rfl, ?_⟩
      simp only [Reg.ung]
      go_wp2
      exact ⟨_, rfl, hG, (fun w => Below.refl w.heap.size w) _, rfl⟩
    refine ⟨fun hf _ => ?_, ?_⟩
    · obtain ⟨hq0, hq1, -⟩ := hf
      obtain rfl : x18 = _ := hq0
      obtain rfl : x14 = _ := hq1
      refine .inl ⟨by rfl, ?_⟩
      simp only [Reg.ung]
      go_wp2
      exact ⟨_, rfl, hG, (fun w => Below.refl w.heap.size w) _, rfl⟩
    refine ⟨fun hf _ => ?_, ?_⟩
    · obtain ⟨hq0, hq1, hq2, -⟩ := hf
      obtain rfl : x16 = _ := hq0
      obtain rfl : x19 = _ := hq1
      obtain rfl : x14 = _ := hq2
      refine .inl ⟨by rfl, ?_⟩
      simp only [Reg.ung]
      go_wp2
      exact ⟨_, rfl, hG, (fun w => Below.refl w.heap.size w) _, rfl⟩
    refine ⟨fun hf _ => ?_, ?_⟩
    · obtain ⟨hq0, hq1, -⟩ := hf
      obtain rfl : x14 = _ := hq0
      obtain rfl : x20 = _ := hq1
      refine .inl ⟨by rfl, ?_⟩
      simp only [Reg.ung]
      go_wp2
      exact ⟨_, rfl, hG, (fun w => Below.refl w.heap.size w) _, rfl⟩
    refine ⟨fun hf _ => ?_, ?_⟩
    · obtain ⟨hq0, -, -⟩ := hf
      obtain rfl : x21 = _ := hq0
      refine .inl ⟨by rfl, ?_⟩
      simp only [Reg.ung]
      go_wp2
      exact ⟨_, rfl, hG, (fun w => Below.refl w.heap.size w) _, rfl⟩
    refine ⟨fun hf _ => ?_, ?_⟩
    · obtain ⟨hq0, -⟩ := hf
      obtain rfl : x22 = _ := hq0
      refine .inl ⟨by rfl, ?_⟩
      simp only [Reg.ung]
      go_wp2
      exact ⟨_, rfl, hG, (fun w => Below.refl w.heap.size w) _, rfl⟩
    refine ⟨fun hf _ => ?_, ?_⟩
    · obtain ⟨hq0, -⟩ := hf
      obtain rfl : x22 = _ := hq0
      refine .inl ⟨by rfl, ?_⟩
      simp only [Reg.ung]
      go_wp2
      exact ⟨_, rfl, hG, (fun w => Below.refl w.heap.size w) _, rfl⟩
    refine ⟨fun hf _ => ?_, ?_⟩
    · obtain ⟨hq0, hq1, hq2, -⟩ := hf
      obtain rfl : x23 = _ := hq0
      obtain rfl : x24 = _ := hq1
      obtain rfl : x22 = _ := hq2
      refine .inl ⟨by rfl, ?_⟩
      simp only [Reg.ung]
      go_wp2
      exact ⟨_, rfl, hG, (fun w => Below.refl w.heap.size w) _, rfl⟩
    refine ⟨fun hf _ => ?_, ?_⟩
    · obtain ⟨hq0, hq1, -⟩ := hf
      obtain rfl : x22 = _ := hq0
      obtain rfl : x25 = _ := hq1
      refine .inl ⟨by rfl, ?_⟩
      simp only [Reg.ung]
      go_wp2
      exact ⟨_, rfl, hG, (fun w => Below.refl w.heap.size w) _, rfl⟩
    refine ⟨fun hf _ => ?_, ?_⟩
    · obtain ⟨hq0, -, -⟩ := hf
      obtain rfl : x26 = _ := hq0
      refine .inl ⟨by rfl, ?_⟩
      simp only [Reg.ung]
      go_wp2
      exact ⟨_, rfl, hG, (fun w => Below.refl w.heap.size w) _, rfl⟩
    refine ⟨fun hf _ => ?_, ?_⟩
    · obtain ⟨hq0, -⟩ := hf
      obtain rfl : x27 = _ := hq0
      refine .inl ⟨by rfl, ?_⟩
      simp only [Reg.ung]
      go_wp2
      exact ⟨_, rfl, hG, (fun w => Below.refl w.heap.size w) _, rfl⟩
    refine ⟨fun hf _ => ?_, ?_⟩
    · obtain ⟨hq0, -⟩ := hf
      obtain rfl : x27 = _ := hq0
      refine .inl ⟨by rfl, ?_⟩
      simp only [Reg.ung]
      go_wp2
      exact ⟨_, rfl, hG, (fun w => Below.refl w.heap.size w) _, rfl⟩
    refine ⟨fun hf _ => ?_, ?_⟩
    · obtain ⟨hq0, hq1, hq2, -⟩ := hf
      obtain rfl : x28 = _ := hq0
      obtain rfl : x29 = _ := hq1
      obtain rfl : x27 = _ := hq2
      refine .inl ⟨by rfl, ?_⟩
      simp only [Reg.ung]
      go_wp2
      exact ⟨_, rfl, hG, (fun w => Below.refl w.heap.size w) _, rfl⟩
    refine ⟨fun hf _ => ?_, ?_⟩
    · obtain ⟨hq0, hq1, -⟩ := hf
      obtain rfl : x27 = _ := hq0
      obtain rfl : x30 = _ := hq1
      refine .inl ⟨by rfl, ?_⟩
      simp only [Reg.ung]
      go_wp2
      exact ⟨_, rfl, hG, (fun w => Below.refl w.heap.size w) _, rfl⟩
    refine ⟨fun hf _ => ?_, ?_⟩
    · obtain ⟨hq0, -, -, -, -, -, -, -, -, -, -, -, -, -, -, -, -, -, -, -, -, -, -, -, -, -, -, -, -, -, -, -, -, -, -⟩ := hf
      obtain rfl : x31 = _ := hq0
      refine .inl ⟨by rfl, ?_⟩
      simp only [Reg.ung]
      go_wp2
      exact ⟨_, rfl, hG, (fun w => Below.refl w.heap.size w) _, rfl⟩
    exact trivial
  case he =>
    intro xs hl0_ wr hG hf
    obtain ⟨x0, xs1, rfl, hl1⟩ := Reg.len_succ hl0_
    obtain ⟨x1, xs2, rfl, hl2⟩ := Reg.len_succ hl1
    obtain ⟨x2, xs3, rfl, hl3⟩ := Reg.len_succ hl2
    obtain ⟨x3, xs4, rfl, hl4⟩ := Reg.len_succ hl3
    obtain ⟨x4, xs5, rfl, hl5⟩ := Reg.len_succ hl4
    obtain ⟨x5, xs6, rfl, hl6⟩ := Reg.len_succ hl5
    obtain ⟨x6, xs7, rfl, hl7⟩ := Reg.len_succ hl6
    obtain ⟨x7, xs8, rfl, hl8⟩ := Reg.len_succ hl7
    obtain ⟨x8, xs9, rfl, hl9⟩ := Reg.len_succ hl8
    obtain ⟨x9, xs10, rfl, hl10⟩ := Reg.len_succ hl9
    obtain ⟨x10, xs11, rfl, hl11⟩ := Reg.len_succ hl10
    obtain ⟨x11, xs12, rfl, hl12⟩ := Reg.len_succ hl11
    obtain ⟨x12, xs13, rfl, hl13⟩ := Reg.len_succ hl12
    obtain ⟨x13, xs14, rfl, hl14⟩ := Reg.len_succ hl13
    obtain ⟨x14, xs15, rfl, hl15⟩ := Reg.len_succ hl14
    obtain ⟨x15, xs16, rfl, hl16⟩ := Reg.len_succ hl15
    obtain ⟨x16, xs17, rfl, hl17⟩ := Reg.len_succ hl16
    obtain ⟨x17, xs18, rfl, hl18⟩ := Reg.len_succ hl17
    obtain ⟨x18, xs19, rfl, hl19⟩ := Reg.len_succ hl18
    obtain ⟨x19, xs20, rfl, hl20⟩ := Reg.len_succ hl19
    obtain ⟨x20, xs21, rfl, hl21⟩ := Reg.len_succ hl20
    obtain ⟨x21, xs22, rfl, hl22⟩ := Reg.len_succ hl21
    obtain ⟨x22, xs23, rfl, hl23⟩ := Reg.len_succ hl22
    obtain ⟨x23, xs24, rfl, hl24⟩ := Reg.len_succ hl23
    obtain ⟨x24, xs25, rfl, hl25⟩ := Reg.len_succ hl24
    obtain ⟨x25, xs26, rfl, hl26⟩ := Reg.len_succ hl25
    obtain ⟨x26, xs27, rfl, hl27⟩ := Reg.len_succ hl26
    obtain ⟨x27, xs28, rfl, hl28⟩ := Reg.len_succ hl27
    obtain ⟨x28, xs29, rfl, hl29⟩ := Reg.len_succ hl28
    obtain ⟨x29, xs30, rfl, hl30⟩ := Reg.len_succ hl29
    obtain ⟨x30, xs31, rfl, hl31⟩ := Reg.len_succ hl30
    obtain ⟨x31, xs32, rfl, hl32⟩ := Reg.len_succ hl31
    obtain ⟨x32, xs33, rfl, hl33⟩ := Reg.len_succ hl32
    obtain rfl := List.eq_nil_of_length_eq_zero hl33
    clear hl0_ hl1 hl2 hl3 hl4 hl5 hl6 hl7 hl8 hl9 hl10 hl11 hl12 hl13 hl14 hl15 hl16 hl17 hl18 hl19 hl20 hl21 hl22 hl23 hl24 hl25 hl26 hl27 hl28 hl29 hl30 hl31 hl32 hl33
    obtain ⟨hq0, hq1, hq2, hq3, hq4, hq5, hq6, hq7, hq8, hq9, hq10, hq11, hq12, hq13, hq14, hq15, hq16, hq17, hq18, hq19, hq20, hq21, hq22, hq23, hq24, hq25, hq26, hq27, hq28, hq29, hq30, hq31, hq32, -⟩ := hf
    obtain rfl : x0 = _ := hq0
    obtain rfl : x1 = _ := hq1
    replace hq2 : ∃ A c, x2 = .slice A (dueL L now).length c ∧ (dueL L now).length ≤ c ∧ Kd.string.C wr A (dueL L now).length (dueL L now) := hq2
    obtain rfl : x3 = _ := hq3
    obtain rfl : x4 = _ := hq4
    replace hq5 : ∃ A c, x5 = .slice A (dueL L now).length c ∧ (dueL L now).length ≤ c ∧ Kd.string.C wr A (dueL L now).length (dueL L now) := hq5
    obtain rfl : x6 = _ := hq6
    obtain rfl : x7 = _ := hq7
    obtain rfl : x8 = _ := hq8
    replace hq9 : ∃ A c, x9 = .slice A (dueL L 1099511627776).length c ∧ (dueL L 1099511627776).length ≤ c ∧ Kd.string.C wr A (dueL L 1099511627776).length (dueL L 1099511627776) := hq9
    obtain rfl : x10 = _ := hq10
    replace hq11 : ∃ A c, x11 = .slice A (dueL L 1099511627776).length c ∧ (dueL L 1099511627776).length ≤ c ∧ Kd.string.C wr A (dueL L 1099511627776).length (dueL L 1099511627776) := hq11
    obtain rfl : x12 = _ := hq12
    obtain rfl : x13 = _ := hq13
    obtain rfl : x14 = _ := hq14
    obtain rfl : x15 = _ := hq15
    obtain rfl : x16 = _ := hq16
    obtain rfl : x17 = _ := hq17
    obtain rfl : x18 = _ := hq18
    obtain rfl : x19 = _ := hq19
    obtain rfl : x20 = _ := hq20
    obtain rfl : x21 = _ := hq21
    obtain rfl : x22 = _ := hq22
    obtain rfl : x23 = _ := hq23
    obtain rfl : x24 = _ := hq24
    obtain rfl : x25 = _ := hq25
    obtain rfl : x26 = _ := hq26
    obtain rfl : x27 = _ := hq27
    obtain rfl : x28 = _ := hq28
    obtain rfl : x29 = _ := hq29
    obtain rfl : x30 = _ := hq30
    obtain rfl : x31 = _ := hq31
    obtain rfl : x32 = _ := hq32
    simp only [Reg.putL, Act.put, List.setIfInBounds_toArray, List.set_cons_succ, List.set_cons_zero]
    go_wp2; go_ret; exact ⟨rfl, below_then HWa HWa.size hG⟩

end Go.Proofs.Ytbocdfpgjkjilaa.T
