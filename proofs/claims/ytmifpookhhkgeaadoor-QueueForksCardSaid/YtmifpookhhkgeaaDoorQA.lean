/- The order of items, its contract with what it lays; SortFunc, Clone and IndexFunc of items. -/
import Derived.Test.YtmifpookhhkgeaaDoorReg
import Derived.Test.YtmifpookhhkgeaaDoorSortG
import Derived.Test.YtmifpookhhkgeaaDoorLay
import Derived.Test.YtmifpookhhkgeaaDoorP2
set_option linter.unusedVariables false
set_option linter.unusedSimpArgs false
namespace Go.Proofs.YtmifpookhhkgeaaDoor.Q
open Go.RowKit Go.Shelf Go.Lib Go.Sort Go.Proofs.YtmifpookhhkgeaaDoorW.PrintWords Go.Proofs.YtmifpookhhkgeaaDoor.P
theorem hmix : Tryd.prog.follows .mixedOrders = true := by kernel_rfl
/-- Behind the other world: draws, and blocks that are new. -/
def Gr (w w' : World) : Prop := ∃ q os, w' = grow (w.drewN q) os
theorem Gr.refl (w : World) : Gr w w := ⟨0, #[], by rw [grow_empty]; rfl⟩
theorem Gr.trans {a b c : World} (h : Gr a b) (k : Gr b c) : Gr a c := by
  obtain ⟨q, os, rfl⟩ := h
  obtain ⟨r, os', rfl⟩ := k
  exact ⟨q + r, os ++ os', by show grow (grow ((a.drewN q).drewN r) os) os' = _; rw [grow_grow, World.drewN_drewN]⟩
theorem Gr.alloc {a b : World} (h : Gr a b) (o : Obj) : Gr a (b.alloc o) := h.trans ⟨0, #[o], by rw [alloc_eq_grow]; rfl⟩
theorem Gr.drewN (w : World) (n : Nat) : Gr w (w.drewN n) := ⟨n, #[], by rw [grow_empty]⟩
theorem Gr.drew1 (w : World) : Gr w w.drew := Gr.drewN w 1
theorem Gr.blk {w w' : World} (h : Gr w w') {g : Nat} {o : Obj} (hb : w.heap[g]? = some o) : w'.heap[g]? = some o := by
  obtain ⟨q, os, rfl⟩ := h
  rw [Go.Sort.heap_grow_old _ _ (by exact blk_lt hb)]
  exact hb
theorem Gr.below {w w' : World} (h : Gr w w') : Below w.heap.size w w' := by
  obtain ⟨q, os, rfl⟩ := h
  exact ⟨rfl, rfl, rfl, by simp [grow], fun k hk => heap_grow_old (w.drewN q) os hk⟩
theorem Gr.cell {w w' : World} (h : Gr w w') {a : Addr} {v : Value} (hv : w.cell? a = some v) : w'.cell? a = some v := (h.below.cell (World.block_lt_of_cell? w _ hv)).trans hv
def cmpI (a b : Int) : Int := if a < b then -1 else if a > b then 1 else 0
def orI (a b : Int) : Int := if a = 0 then b else a
def ordI (x y : S47) : Int := orI (cmpI x.f1 y.f1) (cmpI y.f2 x.f2)
theorem compare_any (a b : Int) (w : World) : Calls Tryd.prog 35 #[.int .i64 a, .int .i64 b] w fun e w' => e = .returned (.int .i64 (cmpI a b)) ∧ Gr w w' := by
  have hf : cmp_Compare_int.f a b = some (cmpI a b) := by
    unfold cmp_Compare_int.f cmp_isNaN_int.f cmpI
    simp only [Option.bind_some]
    by_cases h : a < b
    · simp [h]
    · by_cases h2 : a > b <;> simp [h, h2]
  refine (cmp_Compare_int.calls a b _ w hf).mono ?_
  rintro e w' ⟨rfl, hd⟩
  obtain ⟨m, rfl⟩ := hd.out
  exact ⟨rfl, Gr.drewN _ _⟩
theorem or_any (a b : Int) (g : Nat) (w : World) (h : w.heap[g]? = some (.cells #[.int .i64 a, .int .i64 b] 3 (0, 0))) : Calls Tryd.prog 34 #[.slice (some ⟨g, 0, none⟩) 2 2] w fun e w' => e = .returned (.int .i64 (orI a b)) ∧ Gr w w' := by
  have hC : Kd.C (Kd.int .i64) w (some ⟨g, 0, none⟩) [a, b].length [a, b] := ⟨rfl, by simp, fun _ => ⟨⟨g, 0, none⟩, rfl, fun j p hj => by
    rcases j with _ | _ | j
    · obtain rfl : a = p := by simpa using hj
      exact ⟨_, rfl, rfl, fun i u hu => by
        rcases i with _ | i
        · obtain rfl := Option.some.inj hu; exact (blk_cell h 0).trans rfl
        · simp at hu⟩
    · obtain rfl : b = p := by simpa using hj
      exact ⟨_, rfl, rfl, fun i u hu => by
        rcases i with _ | i
        · obtain rfl := Option.some.inj hu; exact (blk_cell h 1).trans rfl
        · simp at hu⟩
    · simp at hj⟩⟩
  have hf : cmp_Or_int.f 5 [a, b] = some (orI a b) := by
    unfold orI
    simp [cmp_Or_int.f, cmp_Or_int.l0, Go.Proofs.YtmifpookhhkgeaaDoorW.PrintWords.rd, wrap64]
    by_cases h0 : a = 0
    · by_cases h1 : b = 0 <;> simp [h0, h1]
    · simp [h0]
  refine (cmp_Or_int.calls 5 _ 2 [a, b] _ w hC (by simp) hf).mono ?_
  rintro e w' ⟨rfl, hd⟩
  obtain ⟨m, rfl⟩ := hd.out
  exact ⟨rfl, Gr.drewN _ _⟩
def enc47 (x : S47) : List Value := [.string x.f0.f0, .int .i64 x.f0.f1, .int .u16 x.f0.f2, .string x.f0.f3, .int .i64 x.f0.f4, .int .i64 x.f1, .int .i64 x.f2]
set_option maxHeartbeats 2000000 in
theorem order_any (x y : S47) (w : World) : Calls Tryd.prog 27 #[.agg (enc47 x).toArray, .agg (enc47 y).toArray] w fun e w' => e = .returned (.int .i64 (ordI x y)) ∧ Gr w w' := by
  unfold enc47
  go_enter Tryd.func27, Tryd.ntmps27
  go_wp2_with (fail)
  obtain ⟨wa, hwa⟩ : ∃ wa, wa = (w.alloc (.cells #[.string x.f0.f0, .int .i64 x.f0.f1, .int .u16 x.f0.f2, .string x.f0.f3, .int .i64 x.f0.f4, .int .i64 x.f1, .int .i64 x.f2] 47)).alloc (.cells #[.string y.f0.f0, .int .i64 y.f0.f1, .int .u16 y.f0.f2, .string y.f0.f3, .int .i64 y.f0.f4, .int .i64 y.f1, .int .i64 y.f2] 47) := ⟨_, rfl⟩
  obtain ⟨ba, hba⟩ : ∃ ba, ba = w.heap.size := ⟨_, rfl⟩
  have b0 : wa.heap[ba]? = some (.cells #[.string x.f0.f0, .int .i64 x.f0.f1, .int .u16 x.f0.f2, .string x.f0.f3, .int .i64 x.f0.f4, .int .i64 x.f1, .int .i64 x.f2] 47 (0, 0)) := by rw [hwa, hba]; exact blk_alloc (blk_new w _) _
  have b1 : wa.heap[ba + 1]? = some (.cells #[.string y.f0.f0, .int .i64 y.f0.f1, .int .u16 y.f0.f2, .string y.f0.f3, .int .i64 y.f0.f4, .int .i64 y.f1, .int .i64 y.f2] 47 (0, 0)) := by
    rw [hwa, hba]
    have := blk_new (w.alloc (.cells #[.string x.f0.f0, .int .i64 x.f0.f1, .int .u16 x.f0.f2, .string x.f0.f3, .int .i64 x.f0.f4, .int .i64 x.f1, .int .i64 x.f2] 47)) (.cells #[.string y.f0.f0, .int .i64 y.f0.f1, .int .u16 y.f0.f2, .string y.f0.f3, .int .i64 y.f0.f4, .int .i64 y.f1, .int .i64 y.f2] 47)
    simpa using this
  have HGA := Aside0.mk (show Gr w wa by rw [hwa]; exact ((Gr.refl w).alloc _).alloc _)
  have A0 : wa.cell? ⟨ba, 5, none⟩ = some (.int .i64 x.f1) := (blk_cell b0 5).trans rfl
  have A1 : wa.cell? ⟨ba, 6, none⟩ = some (.int .i64 x.f2) := (blk_cell b0 6).trans rfl
  have C0 : wa.cell? ⟨ba + 1, 5, none⟩ = some (.int .i64 y.f1) := (blk_cell b1 5).trans rfl
  have C1 : wa.cell? ⟨ba + 1, 6, none⟩ = some (.int .i64 y.f2) := (blk_cell b1 6).trans rfl
  rw [← hwa, ← hba]
  clear hwa hba b0 b1
  refine Reg.region_list hmix [some 5, some 6, some 7, some 8, some 9, some 10, some 11, some 12, some 13, some 14, some 15, some 16, some 4] [[], [0], [], [2], [1, 3], [], [5], [], [7], [6, 8, 4], [4, 9], [10, 9], [11, 11, 0, 1, 2, 3, 4, 5, 6, 7, 8, 9, 10, 11]] (fun w => Gr wa w) (fun w w' => Gr w w') [(fun v w => v = (.pointer (some ⟨ba, 5, none⟩) : Value)), (fun v w => v = (.int .i64 x.f1 : Value)), (fun v w => v = (.pointer (some ⟨ba + 1, 5, none⟩) : Value)), (fun v w => v = (.int .i64 y.f1 : Value)), (fun v w => v = (.int .i64 (cmpI x.f1 y.f1) : Value)), (fun v w => v = (.pointer (some ⟨ba + 1, 6, none⟩) : Value)), (fun v w => v = (.int .i64 y.f2 : Value)), (fun v w => v = (.pointer (some ⟨ba, 6, none⟩) : Value)), (fun v w => v = (.int .i64 x.f2 : Value)), (fun v w => v = (.int .i64 (cmpI y.f2 x.f2) : Value)), (fun v w => ∃ b, v = .slice (some ⟨b, 0, none⟩) 2 2 ∧ w.heap[b]? = some (.cells #[.int .i64 (cmpI x.f1 y.f1), .int .i64 (cmpI y.f2 x.f2)] 3 (0, 0))), (fun v w => v = (.int .i64 (ordI x y) : Value)), (fun v w => v = (.int .i64 (ordI x y) : Value))] rfl (by kernel_rfl) (by kernel_rfl) (fun w => Gr.refl w) (fun _ _ hr => Reg.mono_cons (fun _ h => h) (Reg.mono_cons (fun _ h => h) (Reg.mono_cons (fun _ h => h) (Reg.mono_cons (fun _ h => h) (Reg.mono_cons (fun _ h => h) (Reg.mono_cons (fun _ h => h) (Reg.mono_cons (fun _ h => h) (Reg.mono_cons (fun _ h => h) (Reg.mono_cons (fun _ h => h) (Reg.mono_cons (fun _ h => h) (Reg.mono_cons (fun _ ⟨b, h1, h2⟩ => ⟨b, h1, hr.blk h2⟩) (Reg.mono_cons (fun _ h => h) (Reg.mono_cons (fun _ h => h) (Reg.mono_nil)))))))))))))) (Gr.drew1 _) ?hs ?he
  case hs =>
    intro xs0 xs hx0 hl0_ wr hG
    clear hx0
    obtain ⟨x0, xs1, rfl, hl1⟩ := Reg.len_succ hl0_
    obtain ⟨x1, xs2, rfl, hl2⟩ := Reg.len_succ hl1
    obtain ⟨x2, xs3, rfl, hl3⟩ := Reg.len_succ hl2
    obtain ⟨x3, xs4, rfl, hl4⟩ := Reg.len_succ hl3
    obtain ⟨x4, xs5, rfl, hl5⟩ := Reg.len_succ hl4
    obtain ⟨x5, xs6, rfl, hl6⟩ := Reg.len_succ hl5
    obtain ⟨x6, xs7, rfl, hl7⟩ := Reg.len_succ hl6
    obtain ⟨x7, xs8, rfl, hl8⟩ := Reg.len_succ hl7
    obtain ⟨x8, xs9, rfl, hl9⟩ := Reg.len_succ hl8
    obtain ⟨x9, xs10, rfl, hl10⟩ := Reg.len_succ hl9
    obtain ⟨x10, xs11, rfl, hl11⟩ := Reg.len_succ hl10
    obtain ⟨x11, xs12, rfl, hl12⟩ := Reg.len_succ hl11
    obtain ⟨x12, xs13, rfl, hl13⟩ := Reg.len_succ hl12
    obtain rfl := List.eq_nil_of_length_eq_zero hl13
    clear hl0_ hl1 hl2 hl3 hl4 hl5 hl6 hl7 hl8 hl9 hl10 hl11 hl12 hl13
    simp only [Reg.putL, Act.put, List.setIfInBounds_toArray, List.set_cons_succ, List.set_cons_zero]
    have a0 := hG.cell A0; have a1 := hG.cell A1; have c0 := hG.cell C0; have c1 := hG.cell C1
    refine ⟨fun hf _ => ?_, ?_⟩
    · clear hf
      refine .inl ⟨by rfl, ?_⟩
      simp only [Reg.ung]
      go_wp2
      exact ⟨_, rfl, hG, (fun w => Gr.refl w) _, rfl⟩
    refine ⟨fun hf _ => ?_, ?_⟩
    · obtain ⟨hq0, -⟩ := hf
      obtain rfl : x0 = _ := hq0
      refine .inl ⟨by rfl, ?_⟩
      simp only [Reg.ung]
      go_wp2
      exact ⟨_, rfl, hG, (fun w => Gr.refl w) _, rfl⟩
    refine ⟨fun hf _ => ?_, ?_⟩
    · clear hf
      refine .inl ⟨by rfl, ?_⟩
      simp only [Reg.ung]
      go_wp2
      exact ⟨_, rfl, hG, (fun w => Gr.refl w) _, rfl⟩
    refine ⟨fun hf _ => ?_, ?_⟩
    · obtain ⟨hq0, -⟩ := hf
      obtain rfl : x2 = _ := hq0
      refine .inl ⟨by rfl, ?_⟩
      simp only [Reg.ung]
      go_wp2
      exact ⟨_, rfl, hG, (fun w => Gr.refl w) _, rfl⟩
    refine ⟨fun hf _ => ?_, ?_⟩
    · obtain ⟨hq0, hq1, -⟩ := hf
      obtain rfl : x1 = _ := hq0
      obtain rfl : x3 = _ := hq1
      refine .inl ⟨by rfl, ?_⟩
      simp only [Reg.ung]
      go_wp2_with ((go_at_call 35; refine (compare_any _ _ _).mono ?_; rintro e w' ⟨rfl, hb⟩)); exact ⟨_, rfl, hG.trans hb, hb, rfl⟩
    refine ⟨fun hf _ => ?_, ?_⟩
    · clear hf
      refine .inl ⟨by rfl, ?_⟩
      simp only [Reg.ung]
      go_wp2
      exact ⟨_, rfl, hG, (fun w => Gr.refl w) _, rfl⟩
    refine ⟨fun hf _ => ?_, ?_⟩
    · obtain ⟨hq0, -⟩ := hf
      obtain rfl : x5 = _ := hq0
      refine .inl ⟨by rfl, ?_⟩
      simp only [Reg.ung]
      go_wp2
      exact ⟨_, rfl, hG, (fun w => Gr.refl w) _, rfl⟩
    refine ⟨fun hf _ => ?_, ?_⟩
    · clear hf
      refine .inl ⟨by rfl, ?_⟩
      simp only [Reg.ung]
      go_wp2
      exact ⟨_, rfl, hG, (fun w => Gr.refl w) _, rfl⟩
    refine ⟨fun hf _ => ?_, ?_⟩
    · obtain ⟨hq0, -⟩ := hf
      obtain rfl : x7 = _ := hq0
      refine .inl ⟨by rfl, ?_⟩
      simp only [Reg.ung]
      go_wp2
      exact ⟨_, rfl, hG, (fun w => Gr.refl w) _, rfl⟩
    refine ⟨fun hf _ => ?_, ?_⟩
    · obtain ⟨hq0, hq1, -, -⟩ := hf
      obtain rfl : x6 = _ := hq0
      obtain rfl : x8 = _ := hq1
      refine .inl ⟨by rfl, ?_⟩
      simp only [Reg.ung]
      go_wp2_with ((go_at_call 35; refine (compare_any _ _ _).mono ?_; rintro e w' ⟨rfl, hb⟩)); exact ⟨_, rfl, hG.trans hb, hb, rfl⟩
    refine ⟨fun hf _ => ?_, ?_⟩
    · obtain ⟨hq0, hq1, -⟩ := hf
      obtain rfl : x4 = _ := hq0
      obtain rfl : x9 = _ := hq1
      refine .inl ⟨by rfl, ?_⟩
      simp only [Reg.ung]
      go_wp2; exact ⟨_, rfl, hG.alloc _, (Gr.refl _).alloc _, _, rfl, heap_alloc_new _ _⟩
    refine ⟨fun hf _ => ?_, ?_⟩
    · obtain ⟨hq0, -, -⟩ := hf
      replace hq0 : ∃ b, x10 = .slice (some ⟨b, 0, none⟩) 2 2 ∧ wr.heap[b]? = some (.cells #[.int .i64 (cmpI x.f1 y.f1), .int .i64 (cmpI y.f2 x.f2)] 3 (0, 0)) := hq0
      refine .inl ⟨by rfl, ?_⟩
      simp only [Reg.ung]
      obtain ⟨b, rfl, hb⟩ := hq0; go_wp2_with ((go_at_call 34; refine (or_any _ _ _ _ hb).mono ?_; rintro e w' ⟨rfl, hb⟩)); exact ⟨_, rfl, hG.trans hb, hb, rfl⟩
    refine ⟨fun hf _ => ?_, ?_⟩
    · obtain ⟨hq0, -, -, -, -, -, -, -, -, -, -, -, -, -, -⟩ := hf
      obtain rfl : x11 = _ := hq0
      refine .inl ⟨by rfl, ?_⟩
      simp only [Reg.ung]
      go_wp2
      exact ⟨_, rfl, hG, (fun w => Gr.refl w) _, rfl⟩
    exact trivial
  case he =>
    intro xs hl0_ wr hG hf
    obtain ⟨x0, xs1, rfl, hl1⟩ := Reg.len_succ hl0_
    obtain ⟨x1, xs2, rfl, hl2⟩ := Reg.len_succ hl1
    obtain ⟨x2, xs3, rfl, hl3⟩ := Reg.len_succ hl2
    obtain ⟨x3, xs4, rfl, hl4⟩ := Reg.len_succ hl3
    obtain ⟨x4, xs5, rfl, hl5⟩ := Reg.len_succ hl4
    obtain ⟨x5, xs6, rfl, hl6⟩ := Reg.len_succ hl5
    obtain ⟨x6, xs7, rfl, hl7⟩ := Reg.len_succ hl6
    obtain ⟨x7, xs8, rfl, hl8⟩ := Reg.len_succ hl7
    obtain ⟨x8, xs9, rfl, hl9⟩ := Reg.len_succ hl8
    obtain ⟨x9, xs10, rfl, hl10⟩ := Reg.len_succ hl9
    obtain ⟨x10, xs11, rfl, hl11⟩ := Reg.len_succ hl10
    obtain ⟨x11, xs12, rfl, hl12⟩ := Reg.len_succ hl11
    obtain ⟨x12, xs13, rfl, hl13⟩ := Reg.len_succ hl12
    obtain rfl := List.eq_nil_of_length_eq_zero hl13
    clear hl0_ hl1 hl2 hl3 hl4 hl5 hl6 hl7 hl8 hl9 hl10 hl11 hl12 hl13
    obtain ⟨hq0, hq1, hq2, hq3, hq4, hq5, hq6, hq7, hq8, hq9, hq10, hq11, hq12, -⟩ := hf
    obtain rfl : x0 = _ := hq0
    obtain rfl : x1 = _ := hq1
    obtain rfl : x2 = _ := hq2
    obtain rfl : x3 = _ := hq3
    obtain rfl : x4 = _ := hq4
    obtain rfl : x5 = _ := hq5
    obtain rfl : x6 = _ := hq6
    obtain rfl : x7 = _ := hq7
    obtain rfl : x8 = _ := hq8
    obtain rfl : x9 = _ := hq9
    replace hq10 : ∃ b, x10 = .slice (some ⟨b, 0, none⟩) 2 2 ∧ wr.heap[b]? = some (.cells #[.int .i64 (cmpI x.f1 y.f1), .int .i64 (cmpI y.f2 x.f2)] 3 (0, 0)) := hq10
    obtain rfl : x11 = _ := hq11
    obtain rfl : x12 = _ := hq12
    simp only [Reg.putL, Act.put, List.setIfInBounds_toArray, List.set_cons_succ, List.set_cons_zero]
    go_wp2_with (fail)
    go_ret
    exact ⟨rfl, HGA.out.trans hG⟩
end Go.Proofs.YtmifpookhhkgeaaDoor.Q
