/- same: both queues have the same; the walk of it. -/
import Derived.Test.YtmifpookhhkgeaaDoorQY
import Derived.Test.YtmifpookhhkgeaaDoorQW
set_option linter.unusedVariables false
set_option linter.unusedSimpArgs false
namespace Go.Proofs.YtmifpookhhkgeaaDoor.Q
open Go.RowKit Go.Lib Go.Proofs.YtmifpookhhkgeaaDoorW.PrintWords Go.Proofs.YtmifpookhhkgeaaDoorW.PrintMore Go.Proofs.YtmifpookhhkgeaaDoorW.PrintLast Go.Proofs.YtmifpookhhkgeaaDoor.P Go.Proofs.YtmifpookhhkgeaaDoor.G
theorem eqA69 (d : Nat) (w : World) (x0 y0 : ByteArray) (x1 y1 : Int) (x2 y2 : Int) (x3 y3 : ByteArray) (x4 y4 : Int) (x5 y5 : Int) (x6 y6 : Int) :
    (Op.equalIn (d + 3) 69 (.agg #[.string x0, .int .i64 x1, .int .u16 x2, .string x3, .int .i64 x4, .int .i64 x5, .int .i64 x6]) (.agg #[.string y0, .int .i64 y1, .int .u16 y2, .string y3, .int .i64 y4, .int .i64 y5, .int .i64 y6])).run Tryd.prog w = .ok ((x0.toList == y0.toList && (x1 == y1 && (x2 == y2 && (x3.toList == y3.toList && (x4 == y4))))) && (x5 == y5 && (x6 == y6))) w := by
  refine eqA_of Tryd.underlying69 (by kernel_rfl) ?_
  refine eqf_cons (by rfl) (by go_simp) (by go_simp) (eqA27 (d + 0) w _ _ _ _ _ _ _ _ _ _) ?_
  refine eqf_cons (by rfl) (by go_simp; rfl) (by go_simp; rfl) (by go_simp) ?_
  exact eqf_last (by rfl) (by go_simp; rfl) (by go_simp; rfl) (by go_simp)
theorem rd69_map (l : List S47) (j : Nat) (h : j < l.length) : rd_T69 (List.map cv l) (j : Int) = cv (rd_T47 l (j : Int)) := by
  unfold rd_T69 rd_T47
  simp [h]
theorem at_R47 {w : World} {base rb n c : Nat} {ok : Nat → Prop} {xs : List S47} (h : Kd.R k47 47 w base ok (.slice (some ⟨rb, 0, none⟩) n c) xs) (j : Nat) (hj : j < n) (x : S47) (hx : rd_T47 xs (j : Int) = x) :
    w.cell? ⟨rb, j * 7, none⟩ = some (.string x.f0.f0) ∧ w.cell? ⟨rb, j * 7 + 1, none⟩ = some (.int .i64 x.f0.f1) ∧ w.cell? ⟨rb, j * 7 + 2, none⟩ = some (.int .u16 x.f0.f2) ∧ w.cell? ⟨rb, j * 7 + 3, none⟩ = some (.string x.f0.f3) ∧ w.cell? ⟨rb, j * 7 + 4, none⟩ = some (.int .i64 x.f0.f4) ∧ w.cell? ⟨rb, j * 7 + 5, none⟩ = some (.int .i64 x.f1) ∧ w.cell? ⟨rb, j * 7 + 6, none⟩ = some (.int .i64 x.f2) := by
  obtain ⟨cc, hcl, hM, hcc, _⟩ := Kd.R_elem h z47 (j : Int) (by omega) (by omega)
  have hc := k47_openM hM
  have hrd : xs.getD (j : Int).toNat z47 = x := hx
  rw [hrd] at hc
  rw [Int.toNat_natCast] at hcc
  subst hc
  exact ⟨hcc 0 _ rfl, hcc 1 _ rfl, hcc 2 _ rfl, hcc 3 _ rfl, hcc 4 _ rfl, hcc 5 _ rfl, hcc 6 _ rfl⟩
theorem rd47_set_ne (l : List S47) (i j : Nat) (y : S47) (h : i ≠ j) : rd_T47 (l.set j y) (i : Int) = rd_T47 l (i : Int) := by
  unfold rd_T47
  simp [List.getElem?_set_ne (Ne.symm h)]
structure Sq (W0 w : World) (g : Nat) (v : Value) (l L : List S47) (came lost : Int) (N : Nat) : Prop where
  q : Qv W0.heap.size w g v l came lost
  inv : Inv l L came lost N
  low : Below W0.heap.size W0 w
theorem Sq.below {W0 w w' : World} {g : Nat} {v : Value} {l L : List S47} {came lost : Int} {N : Nat} (h : Sq W0 w g v l L came lost N) (hb : Below w.heap.size w w') : Sq W0 w' g v l L came lost N :=
  ⟨h.q.below hb, h.inv, below_then h.low h.low.size hb⟩
theorem bump_store {ops : Array Oper} {rest : List Oper} {o : Oper} {a : Act} {Q : Exit → Act → World → Prop} {W0 W : World} {rb n c i : Nat} {lc : List S47} (y : S47) (z : Int) (p x : Operand) (hN : o.dst = none) (hgd : o.guard = none) (ho : o.op = .store 3 p x)
    (haddr : a.eval p = .pointer (some ⟨rb, i * 7 + 5, none⟩)) (hx : a.eval x = .int .i64 z) (HO : Kd.R k47 47 W W0.heap.size (fun _ => True) (.slice (some ⟨rb, 0, none⟩) n c) lc) (hi : i < n) (hy : rd_T47 lc (i : Int) = y) (HB : Below W0.heap.size W0 W)
    (h : ∀ w1, Kd.R k47 47 w1 W0.heap.size (fun _ => True) (.slice (some ⟨rb, 0, none⟩) n c) (lc.set i ⟨y.f0, z, y.f2⟩) → Below W0.heap.size W0 w1 → wpList Tryd.prog ops Q rest a w1) : wpList Tryd.prog ops Q (o :: rest) a W := by
  obtain ⟨cc, hcl, hM, hcc, hcf⟩ := Kd.R_elem HO z47 (i : Int) (by omega) (by omega)
  have hsz : k47.sz = 7 := rfl
  have hcc2 := k47_openM hM
  have hrd : lc.getD (i : Int).toNat z47 = y := hy
  rw [hrd] at hcc2
  refine Kd.R_store k47 (w0 := W0) W0.heap.size hN hgd 3 p x ho 47 (g := rb) (n := n) (cap := c) (o' := i * 7 + 5) (i : Int) 5 lc ⟨y.f0, z, y.f2⟩ (.int .i64 z) [.int .i64 z] cc (fun _ => True) (fun _ => False) haddr (by rw [Int.toNat_natCast, hsz]) hx (by simp [Value.cells]) (by kernel_rfl) (fun q hq => by
    simp at hq
    rw [hq]; rfl) HO (by omega) (by omega) hcl hcc (by rw [hsz]; simp) (by rw [hcc2]; exact k47_mkM _ _ _ ⟨y.f0, z, y.f2⟩) (fun _ hk => hk.elim) HB ?_
  intro w1 h1 h2 h3
  rw [Int.toNat_natCast] at h1
  exact h w1 h1 h2
attribute [local go_sem high] eqA27 eqA69
set_option maxHeartbeats 8000000 in
set_option maxRecDepth 100000 in
theorem same_core {W0 w : World} {g n0 c0 N : Nat} {v : Value} {A0 : Option Addr} {l L : List S47} {came lo : Int} (h : Sq W0 w g v l L came lo N) (hC0 : Kd.C k69 w A0 n0 (List.map cv L)) (hc0 : n0 ≤ c0) :
    Calls Tryd.prog 18 #[.pointer (some ⟨g, 0, none⟩), .agg #[.slice A0 n0 c0, .int .i64 came, .int .i64 lo]] w fun e w' => e = .returned (.bool true) ∧ Below w.heap.size w w' := by
  have hm : n0 = L.length := by rw [← hC0.1, List.length_map]
  have HS := Aside0.mk h
  have HM := Aside0.mk hm
  have HC := Aside0.mk hC0
  have hm32 : n0 ≤ 32 := by rw [hm]; exact h.inv.len
  clear h hC0 hm
  go_enter Tryd.func18, Tryd.ntmps18
  go_wp2_with (fail)
  obtain ⟨bx, hbx⟩ : ∃ bx, bx = w.heap.size := ⟨_, rfl⟩
  obtain ⟨w1, hw1⟩ : ∃ w1, w1 = w.alloc (.cells #[.slice A0 n0 c0, .int .i64 came, .int .i64 lo] 38) := ⟨_, rfl⟩
  have HBX := Aside0.mk (show w1.heap[bx]? = some (.cells #[.slice A0 n0 c0, .int .i64 came, .int .i64 lo] 38 (0, 0)) by rw [hw1, hbx]; exact heap_alloc_new w _)
  have HB1 := Aside0.mk (show Below w.heap.size w w1 by rw [hw1]; exact below_alloc (Below.refl _ _) _)
  rw [← hw1, ← hbx]
  clear hw1 hbx
  have HS1 := Aside0.mk (HS.out.below HB1.out)
  have HC1 := Aside0.mk (Kd.C_below HC.out HB1.out)
  have hll : l.length ≤ 32 := by rw [HS.out.inv.perm.length_eq]; exact HS.out.inv.len
  refine (list_any W0.heap.size g v l came lo w1 HS1.out.q (by omega)).mono ?_
  rintro e w5 ⟨v2, l', rfl, hp, hso, hr2, hb5⟩
  obtain rfl := HS1.out.inv.sorted hp hso
  clear hp hso
  obtain ⟨A2, c2, h2, hc2, hC2⟩ := Kd.R_reads hr2
  rw [← HM.out] at h2
  subst h2
  have HR2 := Aside0.mk hr2
  have HB5 := Aside0.mk hb5
  have HS5 := Aside0.mk (HS1.out.below hb5)
  clear hr2 hb5 hc2 hC2
  have hlen : l.length = n0 := by rw [HS.out.inv.perm.length_eq, HM.out]
  obtain ⟨wd, hwd⟩ : ∃ wd, wd = w5.drew := ⟨_, rfl⟩
  have HWD := Aside0.mk hwd
  have hBd : Below w5.heap.size w5 wd := by rw [hwd]; exact (Below.refl _ _).drew
  have HBD := Aside0.mk hBd
  have hbk := (hBd.block _ (blk_lt ((HB5.out.block _ (blk_lt HBX.out)).trans HBX.out))).trans ((HB5.out.block _ (blk_lt HBX.out)).trans HBX.out)
  have cz := (blk_cell hbk 0).trans rfl
  have cy := (blk_cell hbk 1).trans rfl
  have cx := (blk_cell hbk 2).trans rfl
  have HSD := Aside0.mk (HS5.out.below hBd)
  have HLEN := Aside0.mk (show Calls Tryd.prog 12 #[.pointer (some ⟨g, 0, none⟩)] wd (fun e w' => e = .returned (.int .i64 (n0 : Int)) ∧ w' = wd) by rw [← hlen]; exact len_any W0.heap.size g v l came lo wd HSD.out.q)
  have HLOST := Aside0.mk (lost_any W0.heap.size g v l came lo wd HSD.out.q)
  clear hwd hBd hbk hlen hll
  obtain ⟨m, hm⟩ : ∃ m, m = n0 := ⟨_, rfl⟩
  subst hm
  go_wp2_with (fail)
  refine Reg.region_list hmix [some 9, some 10, some 11, some 12, some 13, some 14, some 15, some 16, some 17, some 18, some 19, some 20, some 21, some 22, some 23, some 24, some 25, some 26, some 27, some 28, some 29] [[], [0], [], [2], [3], [1, 4], [5], [6], [7, 6, 6], [6], [9, 6], [10, 6], [8, 11, 6], [6, 12], [13, 8], [14], [15, 14, 14], [14], [17, 14], [16, 18, 14], [14, 19]] (fun w => Aside0 (w = wd)) (fun w w' => Aside0 (w' = w)) [(fun v w => v = (.slice A2 m c2 : Value)), (fun v w => v = (.int .i64 (m : Int) : Value)), (fun v w => v = (.pointer (some ⟨bx, 0, none⟩) : Value)), (fun v w => v = (.slice A0 m c0 : Value)), (fun v w => v = (.int .i64 (m : Int) : Value)), (fun v w => v = (.bool false : Value)), (fun v w => v = (.bool false : Value)), (fun v w => v = (.pointer (some ⟨g, 0, none⟩) : Value)), (fun v w => v = (.int .i64 (m : Int) : Value)), (fun v w => v = (.pointer (some ⟨bx, 0, none⟩) : Value)), (fun v w => v = (.slice A0 m c0 : Value)), (fun v w => v = (.int .i64 (m : Int) : Value)), (fun v w => v = (.bool false : Value)), (fun v w => v = (.bool false : Value)), (fun v w => v = (.bool false : Value)), (fun v w => v = (.pointer (some ⟨g, 0, none⟩) : Value)), (fun v w => v = (.int .i64 lo : Value)), (fun v w => v = (.pointer (some ⟨bx, 2, none⟩) : Value)), (fun v w => v = (.int .i64 lo : Value)), (fun v w => v = (.bool false : Value)), (fun v w => v = (.bool false : Value))] rfl (by kernel_rfl) (by kernel_rfl) (fun _ => ⟨rfl⟩) (fun _ _ hr => Reg.mono_cons (fun _ h => h) (Reg.mono_cons (fun _ h => h) (Reg.mono_cons (fun _ h => h) (Reg.mono_cons (fun _ h => h) (Reg.mono_cons (fun _ h => h) (Reg.mono_cons (fun _ h => h) (Reg.mono_cons (fun _ h => h) (Reg.mono_cons (fun _ h => h) (Reg.mono_cons (fun _ h => h) (Reg.mono_cons (fun _ h => h) (Reg.mono_cons (fun _ h => h) (Reg.mono_cons (fun _ h => h) (Reg.mono_cons (fun _ h => h) (Reg.mono_cons (fun _ h => h) (Reg.mono_cons (fun _ h => h) (Reg.mono_cons (fun _ h => h) (Reg.mono_cons (fun _ h => h) (Reg.mono_cons (fun _ h => h) (Reg.mono_cons (fun _ h => h) (Reg.mono_cons (fun _ h => h) (Reg.mono_cons (fun _ h => h) (Reg.mono_nil)))))))))))))))))))))) (⟨HWD.out.symm⟩) ?hs ?he
  case hs =>
    intro xs0 xs hx0 hl0_ wr hG
    clear hx0
    obtain ⟨x0, xs1, rfl, hl1⟩ := Reg.len_succ hl0_
    obtain ⟨x1, xs2, rfl, hl2⟩ := Reg.len_succ hl1
    obtain ⟨x2, xs3, rfl, hl3⟩ := Reg.len_succ hl2
    obtain ⟨x3, xs4, rfl, hl4⟩ := Reg.len_succ hl3
    obtain ⟨x4, xs5, rfl, hl5⟩ := Reg.len_succ hl4
    obtain ⟨x5, xs6, rfl, hl6⟩ := Reg.len_succ hl5
    obtain ⟨x6, xs7, rfl, hl7⟩ := Reg.len_succ hl6
    obtain ⟨x7, xs8, rfl, hl8⟩ := Reg.len_succ hl7
    obtain ⟨x8, xs9, rfl, hl9⟩ := Reg.len_succ hl8
    obtain ⟨x9, xs10, rfl, hl10⟩ := Reg.len_succ hl9
    obtain ⟨x10, xs11, rfl, hl11⟩ := Reg.len_succ hl10
    obtain ⟨x11, xs12, rfl, hl12⟩ := Reg.len_succ hl11
    obtain ⟨x12, xs13, rfl, hl13⟩ := Reg.len_succ hl12
    obtain ⟨x13, xs14, rfl, hl14⟩ := Reg.len_succ hl13
    obtain ⟨x14, xs15, rfl, hl15⟩ := Reg.len_succ hl14
    obtain ⟨x15, xs16, rfl, hl16⟩ := Reg.len_succ hl15
    obtain ⟨x16, xs17, rfl, hl17⟩ := Reg.len_succ hl16
    obtain ⟨x17, xs18, rfl, hl18⟩ := Reg.len_succ hl17
    obtain ⟨x18, xs19, rfl, hl19⟩ := Reg.len_succ hl18
    obtain ⟨x19, xs20, rfl, hl20⟩ := Reg.len_succ hl19
    obtain ⟨x20, xs21, rfl, hl21⟩ := Reg.len_succ hl20
    obtain rfl := List.eq_nil_of_length_eq_zero hl21
    clear hl0_ hl1 hl2 hl3 hl4 hl5 hl6 hl7 hl8 hl9 hl10 hl11 hl12 hl13 hl14 hl15 hl16 hl17 hl18 hl19 hl20 hl21
    simp only [Reg.putL, Act.put, List.setIfInBounds_toArray, List.set_cons_succ, List.set_cons_zero]
    obtain rfl := hG.out
    refine ⟨fun hf _ => ?_, ?_⟩
    · clear hf
      refine .inl ⟨by rfl, ?_⟩
      simp only [Reg.ung]
      go_wp2
      first | exact ⟨_, rfl, hG, ⟨rfl⟩, rfl⟩ | exact ⟨_, rfl, ⟨rfl⟩, rfl⟩ | exact ⟨rfl, hG, ⟨rfl⟩, rfl⟩ | exact ⟨rfl, hG, ⟨rfl⟩⟩ | exact ⟨rfl, ⟨rfl⟩⟩
    refine ⟨fun hf _ => ?_, ?_⟩
    · obtain ⟨hq0, -⟩ := hf
      obtain rfl : x0 = _ := hq0
      refine .inl ⟨by rfl, ?_⟩
      simp only [Reg.ung]
      go_wp2
      first | exact ⟨_, rfl, hG, ⟨rfl⟩, rfl⟩ | exact ⟨_, rfl, ⟨rfl⟩, rfl⟩ | exact ⟨rfl, hG, ⟨rfl⟩, rfl⟩ | exact ⟨rfl, hG, ⟨rfl⟩⟩ | exact ⟨rfl, ⟨rfl⟩⟩
    refine ⟨fun hf _ => ?_, ?_⟩
    · clear hf
      refine .inl ⟨by rfl, ?_⟩
      simp only [Reg.ung]
      go_wp2
      first | exact ⟨_, rfl, hG, ⟨rfl⟩, rfl⟩ | exact ⟨_, rfl, ⟨rfl⟩, rfl⟩ | exact ⟨rfl, hG, ⟨rfl⟩, rfl⟩ | exact ⟨rfl, hG, ⟨rfl⟩⟩ | exact ⟨rfl, ⟨rfl⟩⟩
    refine ⟨fun hf _ => ?_, ?_⟩
    · obtain ⟨hq0, -⟩ := hf
      obtain rfl : x2 = _ := hq0
      refine .inl ⟨by rfl, ?_⟩
      simp only [Reg.ung]
      go_wp2
      first | exact ⟨_, rfl, hG, ⟨rfl⟩, rfl⟩ | exact ⟨_, rfl, ⟨rfl⟩, rfl⟩ | exact ⟨rfl, hG, ⟨rfl⟩, rfl⟩ | exact ⟨rfl, hG, ⟨rfl⟩⟩ | exact ⟨rfl, ⟨rfl⟩⟩
    refine ⟨fun hf _ => ?_, ?_⟩
    · obtain ⟨hq0, -⟩ := hf
      obtain rfl : x3 = _ := hq0
      refine .inl ⟨by rfl, ?_⟩
      simp only [Reg.ung]
      go_wp2
      first | exact ⟨_, rfl, hG, ⟨rfl⟩, rfl⟩ | exact ⟨_, rfl, ⟨rfl⟩, rfl⟩ | exact ⟨rfl, hG, ⟨rfl⟩, rfl⟩ | exact ⟨rfl, hG, ⟨rfl⟩⟩ | exact ⟨rfl, ⟨rfl⟩⟩
    refine ⟨fun hf _ => ?_, ?_⟩
    · obtain ⟨hq0, hq1, -⟩ := hf
      obtain rfl : x1 = _ := hq0
      obtain rfl : x4 = _ := hq1
      refine .inl ⟨by rfl, ?_⟩
      simp only [Reg.ung]
      go_wp2
      first | exact ⟨_, rfl, hG, ⟨rfl⟩, rfl⟩ | exact ⟨_, rfl, ⟨rfl⟩, rfl⟩ | exact ⟨rfl, hG, ⟨rfl⟩, rfl⟩ | exact ⟨rfl, hG, ⟨rfl⟩⟩ | exact ⟨rfl, ⟨rfl⟩⟩
    refine ⟨fun hf _ => ?_, ?_⟩
    · obtain ⟨hq0, -⟩ := hf
      obtain rfl : x5 = _ := hq0
      refine .inl ⟨by rfl, ?_⟩
      simp only [Reg.ung]
      go_wp2
      first | exact ⟨_, rfl, hG, ⟨rfl⟩, rfl⟩ | exact ⟨_, rfl, ⟨rfl⟩, rfl⟩ | exact ⟨rfl, hG, ⟨rfl⟩, rfl⟩ | exact ⟨rfl, hG, ⟨rfl⟩⟩ | exact ⟨rfl, ⟨rfl⟩⟩
    refine ⟨fun hf _ => ?_, ?_⟩
    · obtain ⟨hq0, -⟩ := hf
      obtain rfl : x6 = _ := hq0
      refine .inl ⟨by rfl, ?_⟩
      simp only [Reg.ung]
      go_wp2
      first | exact ⟨_, rfl, hG, ⟨rfl⟩, rfl⟩ | exact ⟨_, rfl, ⟨rfl⟩, rfl⟩ | exact ⟨rfl, hG, ⟨rfl⟩, rfl⟩ | exact ⟨rfl, hG, ⟨rfl⟩⟩ | exact ⟨rfl, ⟨rfl⟩⟩
    refine ⟨fun hf _ => ?_, ?_⟩
    · obtain ⟨hq0, hq1, -, -⟩ := hf
      obtain rfl : x7 = _ := hq0
      obtain rfl : x6 = _ := hq1
      refine .inl ⟨by rfl, ?_⟩
      simp only [Reg.ung]
      go_wp2_with ((go_at_call 12; refine (HLEN.out).mono ?_; rintro e w' ⟨rfl, rfl⟩)); exact ⟨_, rfl, ⟨rfl⟩, ⟨rfl⟩, rfl⟩
    refine ⟨fun hf _ => ?_, ?_⟩
    · obtain ⟨hq0, -⟩ := hf
      obtain rfl : x6 = _ := hq0
      refine .inl ⟨by rfl, ?_⟩
      simp only [Reg.ung]
      go_wp2
      first | exact ⟨_, rfl, hG, ⟨rfl⟩, rfl⟩ | exact ⟨_, rfl, ⟨rfl⟩, rfl⟩ | exact ⟨rfl, hG, ⟨rfl⟩, rfl⟩ | exact ⟨rfl, hG, ⟨rfl⟩⟩ | exact ⟨rfl, ⟨rfl⟩⟩
    refine ⟨fun hf _ => ?_, ?_⟩
    · obtain ⟨hq0, hq1, -⟩ := hf
      obtain rfl : x9 = _ := hq0
      obtain rfl : x6 = _ := hq1
      refine .inl ⟨by rfl, ?_⟩
      simp only [Reg.ung]
      go_wp2
      first | exact ⟨_, rfl, hG, ⟨rfl⟩, rfl⟩ | exact ⟨_, rfl, ⟨rfl⟩, rfl⟩ | exact ⟨rfl, hG, ⟨rfl⟩, rfl⟩ | exact ⟨rfl, hG, ⟨rfl⟩⟩ | exact ⟨rfl, ⟨rfl⟩⟩
    refine ⟨fun hf _ => ?_, ?_⟩
    · obtain ⟨hq0, hq1, -⟩ := hf
      obtain rfl : x10 = _ := hq0
      obtain rfl : x6 = _ := hq1
      refine .inl ⟨by rfl, ?_⟩
      simp only [Reg.ung]
      go_wp2
      first | exact ⟨_, rfl, hG, ⟨rfl⟩, rfl⟩ | exact ⟨_, rfl, ⟨rfl⟩, rfl⟩ | exact ⟨rfl, hG, ⟨rfl⟩, rfl⟩ | exact ⟨rfl, hG, ⟨rfl⟩⟩ | exact ⟨rfl, ⟨rfl⟩⟩
    refine ⟨fun hf _ => ?_, ?_⟩
    · obtain ⟨hq0, hq1, hq2, -⟩ := hf
      obtain rfl : x8 = _ := hq0
      obtain rfl : x11 = _ := hq1
      obtain rfl : x6 = _ := hq2
      refine .inl ⟨by rfl, ?_⟩
      simp only [Reg.ung]
      go_wp2
      first | exact ⟨_, rfl, hG, ⟨rfl⟩, rfl⟩ | exact ⟨_, rfl, ⟨rfl⟩, rfl⟩ | exact ⟨rfl, hG, ⟨rfl⟩, rfl⟩ | exact ⟨rfl, hG, ⟨rfl⟩⟩ | exact ⟨rfl, ⟨rfl⟩⟩
    refine ⟨fun hf _ => ?_, ?_⟩
    · obtain ⟨hq0, hq1, -⟩ := hf
      obtain rfl : x6 = _ := hq0
      obtain rfl : x12 = _ := hq1
      refine .inl ⟨by rfl, ?_⟩
      simp only [Reg.ung]
      go_wp2
      first | exact ⟨_, rfl, hG, ⟨rfl⟩, rfl⟩ | exact ⟨_, rfl, ⟨rfl⟩, rfl⟩ | exact ⟨rfl, hG, ⟨rfl⟩, rfl⟩ | exact ⟨rfl, hG, ⟨rfl⟩⟩ | exact ⟨rfl, ⟨rfl⟩⟩
    refine ⟨fun hf _ => ?_, ?_⟩
    · obtain ⟨hq0, -, -⟩ := hf
      obtain rfl : x13 = _ := hq0
      refine .inl ⟨by rfl, ?_⟩
      simp only [Reg.ung]
      go_wp2
      first | exact ⟨_, rfl, hG, ⟨rfl⟩, rfl⟩ | exact ⟨_, rfl, ⟨rfl⟩, rfl⟩ | exact ⟨rfl, hG, ⟨rfl⟩, rfl⟩ | exact ⟨rfl, hG, ⟨rfl⟩⟩ | exact ⟨rfl, ⟨rfl⟩⟩
    refine ⟨fun hf _ => ?_, ?_⟩
    · obtain ⟨hq0, -⟩ := hf
      obtain rfl : x14 = _ := hq0
      refine .inl ⟨by rfl, ?_⟩
      simp only [Reg.ung]
      go_wp2
      first | exact ⟨_, rfl, hG, ⟨rfl⟩, rfl⟩ | exact ⟨_, rfl, ⟨rfl⟩, rfl⟩ | exact ⟨rfl, hG, ⟨rfl⟩, rfl⟩ | exact ⟨rfl, hG, ⟨rfl⟩⟩ | exact ⟨rfl, ⟨rfl⟩⟩
    refine ⟨fun hf _ => ?_, ?_⟩
    · obtain ⟨hq0, hq1, -, -⟩ := hf
      obtain rfl : x15 = _ := hq0
      obtain rfl : x14 = _ := hq1
      refine .inl ⟨by rfl, ?_⟩
      simp only [Reg.ung]
      go_wp2_with ((go_at_call 13; refine (HLOST.out).mono ?_; rintro e w' ⟨rfl, rfl⟩)); exact ⟨_, rfl, ⟨rfl⟩, ⟨rfl⟩, rfl⟩
    refine ⟨fun hf _ => ?_, ?_⟩
    · obtain ⟨hq0, -⟩ := hf
      obtain rfl : x14 = _ := hq0
      refine .inl ⟨by rfl, ?_⟩
      simp only [Reg.ung]
      go_wp2
      first | exact ⟨_, rfl, hG, ⟨rfl⟩, rfl⟩ | exact ⟨_, rfl, ⟨rfl⟩, rfl⟩ | exact ⟨rfl, hG, ⟨rfl⟩, rfl⟩ | exact ⟨rfl, hG, ⟨rfl⟩⟩ | exact ⟨rfl, ⟨rfl⟩⟩
    refine ⟨fun hf _ => ?_, ?_⟩
    · obtain ⟨hq0, hq1, -⟩ := hf
      obtain rfl : x17 = _ := hq0
      obtain rfl : x14 = _ := hq1
      refine .inl ⟨by rfl, ?_⟩
      simp only [Reg.ung]
      go_wp2
      first | exact ⟨_, rfl, hG, ⟨rfl⟩, rfl⟩ | exact ⟨_, rfl, ⟨rfl⟩, rfl⟩ | exact ⟨rfl, hG, ⟨rfl⟩, rfl⟩ | exact ⟨rfl, hG, ⟨rfl⟩⟩ | exact ⟨rfl, ⟨rfl⟩⟩
    refine ⟨fun hf _ => ?_, ?_⟩
    · obtain ⟨hq0, hq1, hq2, -⟩ := hf
      obtain rfl : x16 = _ := hq0
      obtain rfl : x18 = _ := hq1
      obtain rfl : x14 = _ := hq2
      refine .inl ⟨by rfl, ?_⟩
      simp only [Reg.ung]
      go_wp2
      first | exact ⟨_, rfl, hG, ⟨rfl⟩, rfl⟩ | exact ⟨_, rfl, ⟨rfl⟩, rfl⟩ | exact ⟨rfl, hG, ⟨rfl⟩, rfl⟩ | exact ⟨rfl, hG, ⟨rfl⟩⟩ | exact ⟨rfl, ⟨rfl⟩⟩
    refine ⟨fun hf _ => ?_, ?_⟩
    · obtain ⟨hq0, hq1, -⟩ := hf
      obtain rfl : x14 = _ := hq0
      obtain rfl : x19 = _ := hq1
      refine .inl ⟨by rfl, ?_⟩
      simp only [Reg.ung]
      go_wp2
      first | exact ⟨_, rfl, hG, ⟨rfl⟩, rfl⟩ | exact ⟨_, rfl, ⟨rfl⟩, rfl⟩ | exact ⟨rfl, hG, ⟨rfl⟩, rfl⟩ | exact ⟨rfl, hG, ⟨rfl⟩⟩ | exact ⟨rfl, ⟨rfl⟩⟩
    exact trivial
  case he =>
    intro xs hl0_ wr hG hf
    obtain ⟨x0, xs1, rfl, hl1⟩ := Reg.len_succ hl0_
    obtain ⟨x1, xs2, rfl, hl2⟩ := Reg.len_succ hl1
    obtain ⟨x2, xs3, rfl, hl3⟩ := Reg.len_succ hl2
    obtain ⟨x3, xs4, rfl, hl4⟩ := Reg.len_succ hl3
    obtain ⟨x4, xs5, rfl, hl5⟩ := Reg.len_succ hl4
    obtain ⟨x5, xs6, rfl, hl6⟩ := Reg.len_succ hl5
    obtain ⟨x6, xs7, rfl, hl7⟩ := Reg.len_succ hl6
    obtain ⟨x7, xs8, rfl, hl8⟩ := Reg.len_succ hl7
    obtain ⟨x8, xs9, rfl, hl9⟩ := Reg.len_succ hl8
    obtain ⟨x9, xs10, rfl, hl10⟩ := Reg.len_succ hl9
    obtain ⟨x10, xs11, rfl, hl11⟩ := Reg.len_succ hl10
    obtain ⟨x11, xs12, rfl, hl12⟩ := Reg.len_succ hl11
    obtain ⟨x12, xs13, rfl, hl13⟩ := Reg.len_succ hl12
    obtain ⟨x13, xs14, rfl, hl14⟩ := Reg.len_succ hl13
    obtain ⟨x14, xs15, rfl, hl15⟩ := Reg.len_succ hl14
    obtain ⟨x15, xs16, rfl, hl16⟩ := Reg.len_succ hl15
    obtain ⟨x16, xs17, rfl, hl17⟩ := Reg.len_succ hl16
    obtain ⟨x17, xs18, rfl, hl18⟩ := Reg.len_succ hl17
    obtain ⟨x18, xs19, rfl, hl19⟩ := Reg.len_succ hl18
    obtain ⟨x19, xs20, rfl, hl20⟩ := Reg.len_succ hl19
    obtain ⟨x20, xs21, rfl, hl21⟩ := Reg.len_succ hl20
    obtain rfl := List.eq_nil_of_length_eq_zero hl21
    clear hl0_ hl1 hl2 hl3 hl4 hl5 hl6 hl7 hl8 hl9 hl10 hl11 hl12 hl13 hl14 hl15 hl16 hl17 hl18 hl19 hl20 hl21
    obtain ⟨hq0, hq1, hq2, hq3, hq4, hq5, hq6, hq7, hq8, hq9, hq10, hq11, hq12, hq13, hq14, hq15, hq16, hq17, hq18, hq19, hq20, -⟩ := hf
    obtain rfl : x0 = _ := hq0
    obtain rfl : x1 = _ := hq1
    obtain rfl : x2 = _ := hq2
    obtain rfl : x3 = _ := hq3
    obtain rfl : x4 = _ := hq4
    obtain rfl : x5 = _ := hq5
    obtain rfl : x6 = _ := hq6
    obtain rfl : x7 = _ := hq7
    obtain rfl : x8 = _ := hq8
    obtain rfl : x9 = _ := hq9
    obtain rfl : x10 = _ := hq10
    obtain rfl : x11 = _ := hq11
    obtain rfl : x12 = _ := hq12
    obtain rfl : x13 = _ := hq13
    obtain rfl : x14 = _ := hq14
    obtain rfl : x15 = _ := hq15
    obtain rfl : x16 = _ := hq16
    obtain rfl : x17 = _ := hq17
    obtain rfl : x18 = _ := hq18
    obtain rfl : x19 = _ := hq19
    obtain rfl : x20 = _ := hq20
    simp only [Reg.putL, Act.put, List.setIfInBounds_toArray, List.set_cons_succ, List.set_cons_zero]
    have HBD0 := Aside0.mk (show Below w5.heap.size w5 wr by rw [hG.out]; exact HBD.out)
    clear cz cy cx HLEN HLOST HSD HBD HWD hG
    go_wp2_with (fail)
    go_loopg [6] (m + 1) (fun kq v6 wr => ∃ (j : Nat) (lc : List S47), v6 = .int .i64 (j : Int) ∧ Aside0 (j ≤ m ∧ j + kq = m + 1) ∧ Aside0 (Below w1.heap.size w1 wr ∧ Kd.R k47 47 wr w1.heap.size (fun _ => True) (.slice A2 m c2) lc ∧ ∀ i, j ≤ i → i < m → rd_T47 lc (i : Int) = rd_T47 l' (i : Int)))
    case atStart => exact ⟨0, l', rfl, ⟨by omega⟩, ⟨below_then HB5.out HB5.out.size HBD0.out, Kd.R_below HR2.out HBD0.out, fun _ _ _ => rfl⟩⟩
    case round =>
      obtain ⟨j, lc, rfl, HJ, HI⟩ := hrel
      obtain ⟨hj0, hjk⟩ := HJ.out
      by_cases hlt : j < m
      · cases gk with
        | zero => exact absurd hjk (by omega)
        | succ k1 =>
          have hlt1 : decide ((j : Int) < (m : Int)) = true := decide_eq_true (by omega)
          have hlt2 : decide (j < m) = true := decide_eq_true hlt
          obtain ⟨wd, hwd⟩ : ∃ wd, wd = wr.drew := ⟨_, rfl⟩
          have HWD := Aside0.mk hwd
          have hBd : Below w1.heap.size w1 wd := by rw [hwd]; exact HI.out.1.drew
          have HBD := Aside0.mk hBd
          have hRd : Kd.R k47 47 wd w1.heap.size (fun _ => True) (.slice A2 m c2) lc := by rw [hwd]; exact Kd.R_drew HI.out.2.1
          have hml : m = lc.length := (Kd.R_reads' hRd).1
          obtain ⟨rb, cap, hfo, _⟩ := Kd.R_form hRd (by omega)
          obtain ⟨rfl, -, rfl⟩ : A2 = some ⟨rb, 0, none⟩ ∧ m = lc.length ∧ c2 = cap := by simpa using hfo
          obtain ⟨ad, hA0, g0, g1, g2, g3, g4, g5, g6⟩ := at_T69 (Kd.C_below HC1.out hBd) (j : Int) (by omega) (by have := HM.out; omega)
          subst hA0
          obtain ⟨x, hx⟩ : ∃ x, x = rd_T47 l' (j : Int) := ⟨_, rfl⟩
          have hxc : rd_T47 lc (j : Int) = x := by rw [hx]; exact HI.out.2.2 j (Nat.le_refl _) hlt
          obtain ⟨f0, f1, f2, f3, f4, f5, f6⟩ := at_R47 hRd j hlt x hxc
          have hxu : rd_T69 (List.map cv l') (j : Int) = cv x := by rw [hx]; exact rd69_map l' j (by have := HM.out; omega)
          rw [Int.toNat_natCast] at g0 g1 g2 g3 g4 g5 g6
          rw [hxu] at g0 g1 g2 g3 g4 g5 g6
          unfold cv at g0 g1 g2 g3 g4 g5 g6
          have hbk := (hBd.block _ (blk_lt HBX.out)).trans HBX.out
          have cz := (blk_cell hbk 0).trans rfl
          have HRD := Aside0.mk hRd
          have HXC := Aside0.mk hxc
          have HX := Aside0.mk hx
          clear hfo hxu hwd hBd hRd hbk hml hx hxc
          go_wp2_with (fail)
          refine Reg.region_list hmix [some 36, some 37, some 38, some 39, some 40, some 41, some 42, some 43, some 44, some 45] [[], [], [0, 1], [2], [], [4], [], [5, 6], [7], [3, 8]] (fun w => Aside0 (w = wd)) (fun w w' => Aside0 (w' = w)) [(fun v w => v = (.slice (some ⟨rb, 0, none⟩) m c2 : Value)), (fun v w => v = (.int .i64 (j : Int) : Value)), (fun v w => v = (.pointer (some ⟨rb, j * 7, none⟩) : Value)), (fun v w => v = (.agg #[.string x.f0.f0, .int .i64 x.f0.f1, .int .u16 x.f0.f2, .string x.f0.f3, .int .i64 x.f0.f4, .int .i64 x.f1, .int .i64 x.f2] : Value)), (fun v w => v = (.pointer (some ⟨bx, 0, none⟩) : Value)), (fun v w => v = (.slice (some ad) m c0 : Value)), (fun v w => v = (.int .i64 (j : Int) : Value)), (fun v w => v = (.pointer (some (ad.add (j * 7))) : Value)), (fun v w => v = (.agg #[.string x.f0.f0, .int .i64 x.f0.f1, .int .u16 x.f0.f2, .string x.f0.f3, .int .i64 x.f0.f4, .int .i64 x.f1, .int .i64 x.f2] : Value)), (fun v w => v = (.bool false : Value))] rfl (by kernel_rfl) (by kernel_rfl) (fun _ => ⟨rfl⟩) (fun _ _ hr => Reg.mono_cons (fun _ h => h) (Reg.mono_cons (fun _ h => h) (Reg.mono_cons (fun _ h => h) (Reg.mono_cons (fun _ h => h) (Reg.mono_cons (fun _ h => h) (Reg.mono_cons (fun _ h => h) (Reg.mono_cons (fun _ h => h) (Reg.mono_cons (fun _ h => h) (Reg.mono_cons (fun _ h => h) (Reg.mono_cons (fun _ h => h) (Reg.mono_nil))))))))))) (⟨HWD.out.symm⟩) ?hs ?he
          case hs =>
            intro xs0 xs hx0 hl0_ wr hG
            clear hx0
            obtain ⟨x0, xs1, rfl, hl1⟩ := Reg.len_succ hl0_
            obtain ⟨x1, xs2, rfl, hl2⟩ := Reg.len_succ hl1
            obtain ⟨x2, xs3, rfl, hl3⟩ := Reg.len_succ hl2
            obtain ⟨x3, xs4, rfl, hl4⟩ := Reg.len_succ hl3
            obtain ⟨x4, xs5, rfl, hl5⟩ := Reg.len_succ hl4
            obtain ⟨x5, xs6, rfl, hl6⟩ := Reg.len_succ hl5
            obtain ⟨x6, xs7, rfl, hl7⟩ := Reg.len_succ hl6
            obtain ⟨x7, xs8, rfl, hl8⟩ := Reg.len_succ hl7
            obtain ⟨x8, xs9, rfl, hl9⟩ := Reg.len_succ hl8
            obtain ⟨x9, xs10, rfl, hl10⟩ := Reg.len_succ hl9
            obtain rfl := List.eq_nil_of_length_eq_zero hl10
            clear hl0_ hl1 hl2 hl3 hl4 hl5 hl6 hl7 hl8 hl9 hl10
            simp only [Reg.putL, Act.put, List.setIfInBounds_toArray, List.set_cons_succ, List.set_cons_zero]
            obtain rfl := hG.out
            refine ⟨fun hf _ => ?_, ?_⟩
            · clear hf
              refine .inl ⟨by rfl, ?_⟩
              simp only [Reg.ung]
              go_wp2
              first | exact ⟨_, rfl, hG, ⟨rfl⟩, rfl⟩ | exact ⟨_, rfl, ⟨rfl⟩, rfl⟩ | exact ⟨rfl, hG, ⟨rfl⟩, rfl⟩ | exact ⟨rfl, hG, ⟨rfl⟩⟩ | exact ⟨rfl, ⟨rfl⟩⟩
            refine ⟨fun hf _ => ?_, ?_⟩
            · clear hf
              refine .inl ⟨by rfl, ?_⟩
              simp only [Reg.ung]
              go_wp2
              first | exact ⟨_, rfl, hG, ⟨rfl⟩, rfl⟩ | exact ⟨_, rfl, ⟨rfl⟩, rfl⟩ | exact ⟨rfl, hG, ⟨rfl⟩, rfl⟩ | exact ⟨rfl, hG, ⟨rfl⟩⟩ | exact ⟨rfl, ⟨rfl⟩⟩
            refine ⟨fun hf _ => ?_, ?_⟩
            · obtain ⟨hq0, hq1, -⟩ := hf
              obtain rfl : x0 = _ := hq0
              obtain rfl : x1 = _ := hq1
              refine .inl ⟨by rfl, ?_⟩
              simp only [Reg.ung]
              go_wp2
              first | exact ⟨_, rfl, hG, ⟨rfl⟩, rfl⟩ | exact ⟨_, rfl, ⟨rfl⟩, rfl⟩ | exact ⟨rfl, hG, ⟨rfl⟩, rfl⟩ | exact ⟨rfl, hG, ⟨rfl⟩⟩ | exact ⟨rfl, ⟨rfl⟩⟩
            refine ⟨fun hf _ => ?_, ?_⟩
            · obtain ⟨hq0, -⟩ := hf
              obtain rfl : x2 = _ := hq0
              refine .inl ⟨by rfl, ?_⟩
              simp only [Reg.ung]
              go_wp2
              first | exact ⟨_, rfl, hG, ⟨rfl⟩, rfl⟩ | exact ⟨_, rfl, ⟨rfl⟩, rfl⟩ | exact ⟨rfl, hG, ⟨rfl⟩, rfl⟩ | exact ⟨rfl, hG, ⟨rfl⟩⟩ | exact ⟨rfl, ⟨rfl⟩⟩
            refine ⟨fun hf _ => ?_, ?_⟩
            · clear hf
              refine .inl ⟨by rfl, ?_⟩
              simp only [Reg.ung]
              go_wp2
              first | exact ⟨_, rfl, hG, ⟨rfl⟩, rfl⟩ | exact ⟨_, rfl, ⟨rfl⟩, rfl⟩ | exact ⟨rfl, hG, ⟨rfl⟩, rfl⟩ | exact ⟨rfl, hG, ⟨rfl⟩⟩ | exact ⟨rfl, ⟨rfl⟩⟩
            refine ⟨fun hf _ => ?_, ?_⟩
            · obtain ⟨hq0, -⟩ := hf
              obtain rfl : x4 = _ := hq0
              refine .inl ⟨by rfl, ?_⟩
              simp only [Reg.ung]
              go_wp2
              first | exact ⟨_, rfl, hG, ⟨rfl⟩, rfl⟩ | exact ⟨_, rfl, ⟨rfl⟩, rfl⟩ | exact ⟨rfl, hG, ⟨rfl⟩, rfl⟩ | exact ⟨rfl, hG, ⟨rfl⟩⟩ | exact ⟨rfl, ⟨rfl⟩⟩
            refine ⟨fun hf _ => ?_, ?_⟩
            · clear hf
              refine .inl ⟨by rfl, ?_⟩
              simp only [Reg.ung]
              go_wp2
              first | exact ⟨_, rfl, hG, ⟨rfl⟩, rfl⟩ | exact ⟨_, rfl, ⟨rfl⟩, rfl⟩ | exact ⟨rfl, hG, ⟨rfl⟩, rfl⟩ | exact ⟨rfl, hG, ⟨rfl⟩⟩ | exact ⟨rfl, ⟨rfl⟩⟩
            refine ⟨fun hf _ => ?_, ?_⟩
            · obtain ⟨hq0, hq1, -⟩ := hf
              obtain rfl : x5 = _ := hq0
              obtain rfl : x6 = _ := hq1
              refine .inl ⟨by rfl, ?_⟩
              simp only [Reg.ung]
              go_wp2
              first | exact ⟨_, rfl, hG, ⟨rfl⟩, rfl⟩ | exact ⟨_, rfl, ⟨rfl⟩, rfl⟩ | exact ⟨rfl, hG, ⟨rfl⟩, rfl⟩ | exact ⟨rfl, hG, ⟨rfl⟩⟩ | exact ⟨rfl, ⟨rfl⟩⟩
            refine ⟨fun hf _ => ?_, ?_⟩
            · obtain ⟨hq0, -⟩ := hf
              obtain rfl : x7 = _ := hq0
              refine .inl ⟨by rfl, ?_⟩
              simp only [Reg.ung]
              go_wp2
              first | exact ⟨_, rfl, hG, ⟨rfl⟩, rfl⟩ | exact ⟨_, rfl, ⟨rfl⟩, rfl⟩ | exact ⟨rfl, hG, ⟨rfl⟩, rfl⟩ | exact ⟨rfl, hG, ⟨rfl⟩⟩ | exact ⟨rfl, ⟨rfl⟩⟩
            refine ⟨fun hf _ => ?_, ?_⟩
            · obtain ⟨hq0, hq1, -⟩ := hf
              obtain rfl : x3 = _ := hq0
              obtain rfl : x8 = _ := hq1
              refine .inl ⟨by rfl, ?_⟩
              simp only [Reg.ung]
              go_wp2
              first | exact ⟨_, rfl, hG, ⟨rfl⟩, rfl⟩ | exact ⟨_, rfl, ⟨rfl⟩, rfl⟩ | exact ⟨rfl, hG, ⟨rfl⟩, rfl⟩ | exact ⟨rfl, hG, ⟨rfl⟩⟩ | exact ⟨rfl, ⟨rfl⟩⟩
            exact trivial
          case he =>
            intro xs hl0_ wr hG hf
            obtain ⟨x0, xs1, rfl, hl1⟩ := Reg.len_succ hl0_
            obtain ⟨x1, xs2, rfl, hl2⟩ := Reg.len_succ hl1
            obtain ⟨x2, xs3, rfl, hl3⟩ := Reg.len_succ hl2
            obtain ⟨x3, xs4, rfl, hl4⟩ := Reg.len_succ hl3
            obtain ⟨x4, xs5, rfl, hl5⟩ := Reg.len_succ hl4
            obtain ⟨x5, xs6, rfl, hl6⟩ := Reg.len_succ hl5
            obtain ⟨x6, xs7, rfl, hl7⟩ := Reg.len_succ hl6
            obtain ⟨x7, xs8, rfl, hl8⟩ := Reg.len_succ hl7
            obtain ⟨x8, xs9, rfl, hl9⟩ := Reg.len_succ hl8
            obtain ⟨x9, xs10, rfl, hl10⟩ := Reg.len_succ hl9
            obtain rfl := List.eq_nil_of_length_eq_zero hl10
            clear hl0_ hl1 hl2 hl3 hl4 hl5 hl6 hl7 hl8 hl9 hl10
            obtain ⟨hq0, hq1, hq2, hq3, hq4, hq5, hq6, hq7, hq8, hq9, -⟩ := hf
            obtain rfl : x0 = _ := hq0
            obtain rfl : x1 = _ := hq1
            obtain rfl : x2 = _ := hq2
            obtain rfl : x3 = _ := hq3
            obtain rfl : x4 = _ := hq4
            obtain rfl : x5 = _ := hq5
            obtain rfl : x6 = _ := hq6
            obtain rfl : x7 = _ := hq7
            obtain rfl : x8 = _ := hq8
            obtain rfl : x9 = _ := hq9
            simp only [Reg.putL, Act.put, List.setIfInBounds_toArray, List.set_cons_succ, List.set_cons_zero]
            obtain rfl := hG.out
            clear g0 g1 g2 g3 g4 g5 g6 cz f0 f1 f2 f3 f4 f6
            go_wp2_with ((refine gate_ (.store 3 (.tmp 53) (.tmp 51)) rfl ?_; refine bump_store (W0 := w1) x (wrap64 (x.f1 + 1)) (.tmp 53) (.tmp 51) rfl rfl rfl rfl rfl HRD.out hlt HXC.out HBD.out ?_; intro w6 h1 h2; have H1 := Aside0.mk h1; have H2 := Aside0.mk h2; clear h1 h2 f5))
            go_roundg k1
            case measure => omega
            case rel => exact ⟨j + 1, _, by first | rfl | simp | (simp; unfold wrap64; omega), ⟨by omega⟩, ⟨H2.out, H1.out, fun i h1 h2 => by rw [rd47_set_ne _ _ _ _ (by omega)]; exact HI.out.2.2 i (by omega) h2⟩⟩
      · have hlt1 : decide ((j : Int) < (m : Int)) = false := decide_eq_false (by omega)
        have hlt2 : decide (j < m) = false := decide_eq_false hlt
        have HB7 := Aside0.mk HI.out.1
        clear HJ HI hj0 hjk hlt
        go_wp2_with (fail)
        obtain ⟨wc, hwc⟩ : ∃ wc, wc = wr := ⟨_, rfl⟩
        subst hwc
        by_cases hm0 : m = 0
        · subst hm0
          obtain ⟨wd, hwd⟩ : ∃ wd, wd = wc.drew := ⟨_, rfl⟩
          have HWD := Aside0.mk hwd
          have HBD := Aside0.mk (show Below w1.heap.size w1 wd by rw [hwd]; exact HB7.out.drew)
          clear hwd
          refine Reg.region_list hmix [some 54, some 55, some 56, some 57, some 58, some 59, some 60, some 61, some 62, some 63, some 64, some 65, some 66, some 67, some 68, some 69, some 4] [[], [0], [1], [2], [3], [4, 3, 3], [5, 3], [6, 3], [7, 3], [3], [9, 3], [10, 3], [11, 3], [12, 3], [8, 13, 3], [3, 14], [15, 5, 0, 1, 2, 3, 4, 5, 6, 7, 8, 9, 10, 11, 12, 13, 14, 15]] (fun w => Aside0 (w = wd)) (fun w w' => Aside0 (w' = w)) [(fun v w => v = (.slice A2 0 c2 : Value)), (fun v w => v = (.int .i64 0 : Value)), (fun v w => v = (.bool true : Value)), (fun v w => v = (.bool true : Value)), (fun v w => v = (undef : Value)), (fun v w => v = (undef : Value)), (fun v w => v = (undef : Value)), (fun v w => v = (undef : Value)), (fun v w => v = (undef : Value)), (fun v w => v = (undef : Value)), (fun v w => v = (undef : Value)), (fun v w => v = (undef : Value)), (fun v w => v = (undef : Value)), (fun v w => v = (undef : Value)), (fun v w => v = (undef : Value)), (fun v w => v = (.bool true : Value)), (fun v w => v = (.bool true : Value))] rfl (by kernel_rfl) (by kernel_rfl) (fun _ => ⟨rfl⟩) (fun _ _ hr => Reg.mono_cons (fun _ h => h) (Reg.mono_cons (fun _ h => h) (Reg.mono_cons (fun _ h => h) (Reg.mono_cons (fun _ h => h) (Reg.mono_cons (fun _ h => h) (Reg.mono_cons (fun _ h => h) (Reg.mono_cons (fun _ h => h) (Reg.mono_cons (fun _ h => h) (Reg.mono_cons (fun _ h => h) (Reg.mono_cons (fun _ h => h) (Reg.mono_cons (fun _ h => h) (Reg.mono_cons (fun _ h => h) (Reg.mono_cons (fun _ h => h) (Reg.mono_cons (fun _ h => h) (Reg.mono_cons (fun _ h => h) (Reg.mono_cons (fun _ h => h) (Reg.mono_cons (fun _ h => h) (Reg.mono_nil)))))))))))))))))) (⟨HWD.out.symm⟩) ?hs ?he
          case hs =>
            intro xs0 xs hx0 hl0_ wr hG
            clear hx0
            obtain ⟨x0, xs1, rfl, hl1⟩ := Reg.len_succ hl0_
            obtain ⟨x1, xs2, rfl, hl2⟩ := Reg.len_succ hl1
            obtain ⟨x2, xs3, rfl, hl3⟩ := Reg.len_succ hl2
            obtain ⟨x3, xs4, rfl, hl4⟩ := Reg.len_succ hl3
            obtain ⟨x4, xs5, rfl, hl5⟩ := Reg.len_succ hl4
            obtain ⟨x5, xs6, rfl, hl6⟩ := Reg.len_succ hl5
            obtain ⟨x6, xs7, rfl, hl7⟩ := Reg.len_succ hl6
            obtain ⟨x7, xs8, rfl, hl8⟩ := Reg.len_succ hl7
            obtain ⟨x8, xs9, rfl, hl9⟩ := Reg.len_succ hl8
            obtain ⟨x9, xs10, rfl, hl10⟩ := Reg.len_succ hl9
            obtain ⟨x10, xs11, rfl, hl11⟩ := Reg.len_succ hl10
            obtain ⟨x11, xs12, rfl, hl12⟩ := Reg.len_succ hl11
            obtain ⟨x12, xs13, rfl, hl13⟩ := Reg.len_succ hl12
            obtain ⟨x13, xs14, rfl, hl14⟩ := Reg.len_succ hl13
            obtain ⟨x14, xs15, rfl, hl15⟩ := Reg.len_succ hl14
            obtain ⟨x15, xs16, rfl, hl16⟩ := Reg.len_succ hl15
            obtain ⟨x16, xs17, rfl, hl17⟩ := Reg.len_succ hl16
            obtain rfl := List.eq_nil_of_length_eq_zero hl17
            clear hl0_ hl1 hl2 hl3 hl4 hl5 hl6 hl7 hl8 hl9 hl10 hl11 hl12 hl13 hl14 hl15 hl16 hl17
            simp only [Reg.putL, Act.put, List.setIfInBounds_toArray, List.set_cons_succ, List.set_cons_zero]
            obtain rfl := hG.out
            refine ⟨fun hf _ => ?_, ?_⟩
            · clear hf
              refine .inl ⟨by rfl, ?_⟩
              simp only [Reg.ung]
              go_wp2
              first | exact ⟨_, rfl, hG, ⟨rfl⟩, rfl⟩ | exact ⟨_, rfl, ⟨rfl⟩, rfl⟩ | exact ⟨rfl, hG, ⟨rfl⟩, rfl⟩ | exact ⟨rfl, hG, ⟨rfl⟩⟩ | exact ⟨rfl, ⟨rfl⟩⟩
            refine ⟨fun hf _ => ?_, ?_⟩
            · obtain ⟨hq0, -⟩ := hf
              obtain rfl : x0 = _ := hq0
              refine .inl ⟨by rfl, ?_⟩
              simp only [Reg.ung]
              go_wp2
              first | exact ⟨_, rfl, hG, ⟨rfl⟩, rfl⟩ | exact ⟨_, rfl, ⟨rfl⟩, rfl⟩ | exact ⟨rfl, hG, ⟨rfl⟩, rfl⟩ | exact ⟨rfl, hG, ⟨rfl⟩⟩ | exact ⟨rfl, ⟨rfl⟩⟩
            refine ⟨fun hf _ => ?_, ?_⟩
            · obtain ⟨hq0, -⟩ := hf
              obtain rfl : x1 = _ := hq0
              refine .inl ⟨by rfl, ?_⟩
              simp only [Reg.ung]
              go_wp2
              first | exact ⟨_, rfl, hG, ⟨rfl⟩, rfl⟩ | exact ⟨_, rfl, ⟨rfl⟩, rfl⟩ | exact ⟨rfl, hG, ⟨rfl⟩, rfl⟩ | exact ⟨rfl, hG, ⟨rfl⟩⟩ | exact ⟨rfl, ⟨rfl⟩⟩
            refine ⟨fun hf _ => ?_, ?_⟩
            · obtain ⟨hq0, -⟩ := hf
              obtain rfl : x2 = _ := hq0
              refine .inl ⟨by rfl, ?_⟩
              simp only [Reg.ung]
              go_wp2
              first | exact ⟨_, rfl, hG, ⟨rfl⟩, rfl⟩ | exact ⟨_, rfl, ⟨rfl⟩, rfl⟩ | exact ⟨rfl, hG, ⟨rfl⟩, rfl⟩ | exact ⟨rfl, hG, ⟨rfl⟩⟩ | exact ⟨rfl, ⟨rfl⟩⟩
            refine ⟨fun hf _ => ?_, ?_⟩
            · obtain ⟨hq0, -⟩ := hf
              obtain rfl : x3 = _ := hq0
              exact .inr ⟨by rfl, rfl⟩
            refine ⟨fun hf _ => ?_, ?_⟩
            · obtain ⟨hq0, hq1, -, -⟩ := hf
              obtain rfl : x4 = _ := hq0
              obtain rfl : x3 = _ := hq1
              exact .inr ⟨by rfl, rfl⟩
            refine ⟨fun hf _ => ?_, ?_⟩
            · obtain ⟨hq0, hq1, -⟩ := hf
              obtain rfl : x5 = _ := hq0
              obtain rfl : x3 = _ := hq1
              exact .inr ⟨by rfl, rfl⟩
            refine ⟨fun hf _ => ?_, ?_⟩
            · obtain ⟨hq0, hq1, -⟩ := hf
              obtain rfl : x6 = _ := hq0
              obtain rfl : x3 = _ := hq1
              exact .inr ⟨by rfl, rfl⟩
            refine ⟨fun hf _ => ?_, ?_⟩
            · obtain ⟨hq0, hq1, -⟩ := hf
              obtain rfl : x7 = _ := hq0
              obtain rfl : x3 = _ := hq1
              exact .inr ⟨by rfl, rfl⟩
            refine ⟨fun hf _ => ?_, ?_⟩
            · obtain ⟨hq0, -⟩ := hf
              obtain rfl : x3 = _ := hq0
              exact .inr ⟨by rfl, rfl⟩
            refine ⟨fun hf _ => ?_, ?_⟩
            · obtain ⟨hq0, hq1, -⟩ := hf
              obtain rfl : x9 = _ := hq0
              obtain rfl : x3 = _ := hq1
              exact .inr ⟨by rfl, rfl⟩
            refine ⟨fun hf _ => ?_, ?_⟩
            · obtain ⟨hq0, hq1, -⟩ := hf
              obtain rfl : x10 = _ := hq0
              obtain rfl : x3 = _ := hq1
              exact .inr ⟨by rfl, rfl⟩
            refine ⟨fun hf _ => ?_, ?_⟩
            · obtain ⟨hq0, hq1, -⟩ := hf
              obtain rfl : x11 = _ := hq0
              obtain rfl : x3 = _ := hq1
              exact .inr ⟨by rfl, rfl⟩
            refine ⟨fun hf _ => ?_, ?_⟩
            · obtain ⟨hq0, hq1, -⟩ := hf
              obtain rfl : x12 = _ := hq0
              obtain rfl : x3 = _ := hq1
              exact .inr ⟨by rfl, rfl⟩
            refine ⟨fun hf _ => ?_, ?_⟩
            · obtain ⟨hq0, hq1, hq2, -⟩ := hf
              obtain rfl : x8 = _ := hq0
              obtain rfl : x13 = _ := hq1
              obtain rfl : x3 = _ := hq2
              exact .inr ⟨by rfl, rfl⟩
            refine ⟨fun hf _ => ?_, ?_⟩
            · obtain ⟨hq0, hq1, -⟩ := hf
              obtain rfl : x3 = _ := hq0
              obtain rfl : x14 = _ := hq1
              refine .inl ⟨by rfl, ?_⟩
              simp only [Reg.ung]
              go_wp2
              first | exact ⟨_, rfl, hG, ⟨rfl⟩, rfl⟩ | exact ⟨_, rfl, ⟨rfl⟩, rfl⟩ | exact ⟨rfl, hG, ⟨rfl⟩, rfl⟩ | exact ⟨rfl, hG, ⟨rfl⟩⟩ | exact ⟨rfl, ⟨rfl⟩⟩
            refine ⟨fun hf _ => ?_, ?_⟩
            · obtain ⟨hq0, -, -, -, -, -, -, -, -, -, -, -, -, -, -, -, -, -, -⟩ := hf
              obtain rfl : x15 = _ := hq0
              refine .inl ⟨by rfl, ?_⟩
              simp only [Reg.ung]
              go_wp2
              first | exact ⟨_, rfl, hG, ⟨rfl⟩, rfl⟩ | exact ⟨_, rfl, ⟨rfl⟩, rfl⟩ | exact ⟨rfl, hG, ⟨rfl⟩, rfl⟩ | exact ⟨rfl, hG, ⟨rfl⟩⟩ | exact ⟨rfl, ⟨rfl⟩⟩
            exact trivial
          case he =>
            intro xs hl0_ wr hG hf
            obtain ⟨x0, xs1, rfl, hl1⟩ := Reg.len_succ hl0_
            obtain ⟨x1, xs2, rfl, hl2⟩ := Reg.len_succ hl1
            obtain ⟨x2, xs3, rfl, hl3⟩ := Reg.len_succ hl2
            obtain ⟨x3, xs4, rfl, hl4⟩ := Reg.len_succ hl3
            obtain ⟨x4, xs5, rfl, hl5⟩ := Reg.len_succ hl4
            obtain ⟨x5, xs6, rfl, hl6⟩ := Reg.len_succ hl5
            obtain ⟨x6, xs7, rfl, hl7⟩ := Reg.len_succ hl6
            obtain ⟨x7, xs8, rfl, hl8⟩ := Reg.len_succ hl7
            obtain ⟨x8, xs9, rfl, hl9⟩ := Reg.len_succ hl8
            obtain ⟨x9, xs10, rfl, hl10⟩ := Reg.len_succ hl9
            obtain ⟨x10, xs11, rfl, hl11⟩ := Reg.len_succ hl10
            obtain ⟨x11, xs12, rfl, hl12⟩ := Reg.len_succ hl11
            obtain ⟨x12, xs13, rfl, hl13⟩ := Reg.len_succ hl12
            obtain ⟨x13, xs14, rfl, hl14⟩ := Reg.len_succ hl13
            obtain ⟨x14, xs15, rfl, hl15⟩ := Reg.len_succ hl14
            obtain ⟨x15, xs16, rfl, hl16⟩ := Reg.len_succ hl15
            obtain ⟨x16, xs17, rfl, hl17⟩ := Reg.len_succ hl16
            obtain rfl := List.eq_nil_of_length_eq_zero hl17
            clear hl0_ hl1 hl2 hl3 hl4 hl5 hl6 hl7 hl8 hl9 hl10 hl11 hl12 hl13 hl14 hl15 hl16 hl17
            obtain ⟨hq0, hq1, hq2, hq3, hq4, hq5, hq6, hq7, hq8, hq9, hq10, hq11, hq12, hq13, hq14, hq15, hq16, -⟩ := hf
            obtain rfl : x0 = _ := hq0
            obtain rfl : x1 = _ := hq1
            obtain rfl : x2 = _ := hq2
            obtain rfl : x3 = _ := hq3
            obtain rfl : x4 = _ := hq4
            obtain rfl : x5 = _ := hq5
            obtain rfl : x6 = _ := hq6
            obtain rfl : x7 = _ := hq7
            obtain rfl : x8 = _ := hq8
            obtain rfl : x9 = _ := hq9
            obtain rfl : x10 = _ := hq10
            obtain rfl : x11 = _ := hq11
            obtain rfl : x12 = _ := hq12
            obtain rfl : x13 = _ := hq13
            obtain rfl : x14 = _ := hq14
            obtain rfl : x15 = _ := hq15
            obtain rfl : x16 = _ := hq16
            simp only [Reg.putL, Act.put, List.setIfInBounds_toArray, List.set_cons_succ, List.set_cons_zero]
            obtain rfl := hG.out
            go_wp2_with (fail)
            go_ret
            exact ⟨rfl, below_then HB1.out HB1.out.size HBD.out⟩
        · have hbm : ((m : Int) == 0) = false := beq_eq_false_iff_ne.2 (by omega)
          have hbm2 : decide ((m : Int) = 0) = false := decide_eq_false (by omega)
          have hbm3 : (m == 0) = false := beq_eq_false_iff_ne.2 hm0
          have HM0 := Aside0.mk hm0
          obtain ⟨s0, hs0⟩ : ∃ s0, s0 = (rd_T47 l' 0).f1 := ⟨_, rfl⟩
          have HS0 := Aside0.mk hs0.symm
          have HSC := Aside0.mk (HS1.out.below HB7.out)
          have HLI := Aside0.mk (show ∀ W, Below wc.heap.size wc W → Calls Tryd.prog 16 #[.pointer (some ⟨g, 0, none⟩)] W (fun e w' => ∃ v2, e = .returned v2 ∧ Kd.R k47 47 w' wc.heap.size (fun _ => True) v2 l' ∧ Below W.heap.size W w') by
            intro W hW
            have hq := HSC.out.below hW
            refine (list_any W0.heap.size g v l came lo W hq.q (by rw [hq.inv.perm.length_eq]; have := hq.inv.len; omega)).mono ?_
            rintro e w5 ⟨v2, l2, rfl, hp, hso, hr2, hb5⟩
            obtain rfl := hq.inv.sorted hp hso
            exact ⟨v2, rfl, Kd.R_lower hr2 hW.size, hb5⟩)
          obtain ⟨ad0, hA0, _, _, _, _, _, U0, _⟩ := at_T69 (Kd.C_below HC1.out HB7.out) (0 : Int) (by omega) (by omega)
          subst hA0
          have B0 := (blk_cell ((HB7.out.block _ (blk_lt HBX.out)).trans HBX.out) 0).trans rfl
          rw [show rd_T69 (List.map cv l') 0 = cv (rd_T47 l' 0) from rd69_map l' 0 (by have := HM.out; omega)] at U0
          unfold cv at U0
          rw [← hs0] at U0
          replace U0 : wc.cell? ⟨ad0.block, ad0.off + 5, none⟩ = some (.int .i64 s0) := by simpa [Addr.add] using U0
          have hm1 : 0 < m := by omega
          clear hm0 hs0
          refine Reg.region_list hmix [some 54, some 55, some 56, some 57, some 58, some 59, some 60, some 61, some 62, some 63, some 64, some 65, some 66, some 67, some 68, some 69, some 4] [[], [0], [1], [2], [3], [4, 3, 3], [5, 3], [6, 3], [7, 3], [3], [9, 3], [10, 3], [11, 3], [12, 3], [8, 13, 3], [3, 14], [15, 5, 0, 1, 2, 3, 4, 5, 6, 7, 8, 9, 10, 11, 12, 13, 14, 15]] (fun w => Below wc.heap.size wc w) (fun w w' => Below w.heap.size w w') [(fun v w => v = (.slice A2 m c2 : Value)), (fun v w => v = (.int .i64 (m : Int) : Value)), (fun v w => v = (.bool false : Value)), (fun v w => v = (.bool false : Value)), (fun v w => v = (.pointer (some ⟨g, 0, none⟩) : Value)), (fun v w => Kd.R k47 47 w wc.heap.size (fun _ => True) v l'), (fun v w => ∃ ad, v = .pointer (some ad) ∧ w.cell? ⟨ad.block, ad.off + 5, none⟩ = some (.int .i64 s0)), (fun v w => ∃ ad, v = .pointer (some ad) ∧ w.cell? ad = some (.int .i64 s0)), (fun v w => v = (.int .i64 s0 : Value)), (fun v w => v = (.pointer (some ⟨bx, 0, none⟩) : Value)), (fun v w => v = (.slice (some ad0) m c0 : Value)), (fun v w => v = (.pointer (some ad0) : Value)), (fun v w => v = (.pointer (some ⟨ad0.block, ad0.off + 5, none⟩) : Value)), (fun v w => v = (.int .i64 s0 : Value)), (fun v w => v = (.bool true : Value)), (fun v w => v = (.bool true : Value)), (fun v w => v = (.bool true : Value))] rfl (by kernel_rfl) (by kernel_rfl) (fun w => Below.refl w.heap.size w) (fun _ _ hr => Reg.mono_cons (fun _ h => h) (Reg.mono_cons (fun _ h => h) (Reg.mono_cons (fun _ h => h) (Reg.mono_cons (fun _ h => h) (Reg.mono_cons (fun _ h => h) (Reg.mono_cons (fun _ h => Kd.R_below h hr) (Reg.mono_cons (fun _ ⟨ad, h1, h2⟩ => ⟨ad, h1, (hr.cell (World.block_lt_of_cell? _ _ h2)).trans h2⟩) (Reg.mono_cons (fun _ ⟨ad, h1, h2⟩ => ⟨ad, h1, (hr.cell (World.block_lt_of_cell? _ _ h2)).trans h2⟩) (Reg.mono_cons (fun _ h => h) (Reg.mono_cons (fun _ h => h) (Reg.mono_cons (fun _ h => h) (Reg.mono_cons (fun _ h => h) (Reg.mono_cons (fun _ h => h) (Reg.mono_cons (fun _ h => h) (Reg.mono_cons (fun _ h => h) (Reg.mono_cons (fun _ h => h) (Reg.mono_cons (fun _ h => h) (Reg.mono_nil)))))))))))))))))) ((Below.refl _ _).drew) ?hs ?he
          case hs =>
            intro xs0 xs hx0 hl0_ wr hG
            clear hx0
            obtain ⟨x0, xs1, rfl, hl1⟩ := Reg.len_succ hl0_
            obtain ⟨x1, xs2, rfl, hl2⟩ := Reg.len_succ hl1
            obtain ⟨x2, xs3, rfl, hl3⟩ := Reg.len_succ hl2
            obtain ⟨x3, xs4, rfl, hl4⟩ := Reg.len_succ hl3
            obtain ⟨x4, xs5, rfl, hl5⟩ := Reg.len_succ hl4
            obtain ⟨x5, xs6, rfl, hl6⟩ := Reg.len_succ hl5
            obtain ⟨x6, xs7, rfl, hl7⟩ := Reg.len_succ hl6
            obtain ⟨x7, xs8, rfl, hl8⟩ := Reg.len_succ hl7
            obtain ⟨x8, xs9, rfl, hl9⟩ := Reg.len_succ hl8
            obtain ⟨x9, xs10, rfl, hl10⟩ := Reg.len_succ hl9
            obtain ⟨x10, xs11, rfl, hl11⟩ := Reg.len_succ hl10
            obtain ⟨x11, xs12, rfl, hl12⟩ := Reg.len_succ hl11
            obtain ⟨x12, xs13, rfl, hl13⟩ := Reg.len_succ hl12
            obtain ⟨x13, xs14, rfl, hl14⟩ := Reg.len_succ hl13
            obtain ⟨x14, xs15, rfl, hl15⟩ := Reg.len_succ hl14
            obtain ⟨x15, xs16, rfl, hl16⟩ := Reg.len_succ hl15
            obtain ⟨x16, xs17, rfl, hl17⟩ := Reg.len_succ hl16
            obtain rfl := List.eq_nil_of_length_eq_zero hl17
            clear hl0_ hl1 hl2 hl3 hl4 hl5 hl6 hl7 hl8 hl9 hl10 hl11 hl12 hl13 hl14 hl15 hl16 hl17
            simp only [Reg.putL, Act.put, List.setIfInBounds_toArray, List.set_cons_succ, List.set_cons_zero]
            have b0 := (hG.cell (World.block_lt_of_cell? wc _ B0)).trans B0; have u0 := (hG.cell (World.block_lt_of_cell? wc _ U0)).trans U0
            refine ⟨fun hf _ => ?_, ?_⟩
            · clear hf
              refine .inl ⟨by rfl, ?_⟩
              simp only [Reg.ung]
              go_wp2
              exact ⟨_, rfl, hG, (fun w => Below.refl w.heap.size w) _, rfl⟩
            refine ⟨fun hf _ => ?_, ?_⟩
            · obtain ⟨hq0, -⟩ := hf
              obtain rfl : x0 = _ := hq0
              refine .inl ⟨by rfl, ?_⟩
              simp only [Reg.ung]
              go_wp2
              exact ⟨_, rfl, hG, (fun w => Below.refl w.heap.size w) _, rfl⟩
            refine ⟨fun hf _ => ?_, ?_⟩
            · obtain ⟨hq0, -⟩ := hf
              obtain rfl : x1 = _ := hq0
              refine .inl ⟨by rfl, ?_⟩
              simp only [Reg.ung]
              go_wp2
              exact ⟨_, rfl, hG, (fun w => Below.refl w.heap.size w) _, rfl⟩
            refine ⟨fun hf _ => ?_, ?_⟩
            · obtain ⟨hq0, -⟩ := hf
              obtain rfl : x2 = _ := hq0
              refine .inl ⟨by rfl, ?_⟩
              simp only [Reg.ung]
              go_wp2
              exact ⟨_, rfl, hG, (fun w => Below.refl w.heap.size w) _, rfl⟩
            refine ⟨fun hf _ => ?_, ?_⟩
            · obtain ⟨hq0, -⟩ := hf
              obtain rfl : x3 = _ := hq0
              refine .inl ⟨by rfl, ?_⟩
              simp only [Reg.ung]
              go_wp2
              exact ⟨_, rfl, hG, (fun w => Below.refl w.heap.size w) _, rfl⟩
            refine ⟨fun hf _ => ?_, ?_⟩
            · obtain ⟨hq0, hq1, -, -⟩ := hf
              obtain rfl : x4 = _ := hq0
              obtain rfl : x3 = _ := hq1
              refine .inl ⟨by rfl, ?_⟩
              simp only [Reg.ung]
              go_wp2_with ((go_at_call 16; refine (HLI.out _ hG).mono ?_; rintro e w' ⟨v2, rfl, hr2, hb2⟩)); exact ⟨_, rfl, below_then hG hG.size hb2, hb2, hr2⟩
            refine ⟨fun hf _ => ?_, ?_⟩
            · obtain ⟨hq0, hq1, -⟩ := hf
              replace hq0 : Kd.R k47 47 wr wc.heap.size (fun _ => True) x5 l' := hq0
              obtain rfl : x3 = _ := hq1
              refine .inl ⟨by rfl, ?_⟩
              simp only [Reg.ung]
              obtain ⟨A3, c3, rfl, hc3, hC3⟩ := Kd.R_reads hq0; obtain ⟨ad3, rfl, _, _, _, _, _, f5, _⟩ := at_T47 hC3 (0 : Int) (by omega) (by have := HM0.out; have := HM.out; omega); rw [HS0.out] at f5; have HC3 := Aside0.mk hc3; have HLP := Aside0.mk (show 0 < l'.length by have := HM0.out; have := HM.out; omega); obtain ⟨nl, hnl⟩ : ∃ nl, nl = l'.length := ⟨_, rfl⟩; rw [← hnl] at HLP HC3 ⊢; have hlp := HLP.out; clear hq0 hC3 hc3 hnl; go_wp2; exact ⟨_, rfl, hG, Below.refl _ _, _, rfl, by simpa [Addr.add] using f5⟩
            refine ⟨fun hf _ => ?_, ?_⟩
            · obtain ⟨hq0, hq1, -⟩ := hf
              replace hq0 : ∃ ad, x6 = .pointer (some ad) ∧ wr.cell? ⟨ad.block, ad.off + 5, none⟩ = some (.int .i64 s0) := hq0
              obtain rfl : x3 = _ := hq1
              refine .inl ⟨by rfl, ?_⟩
              simp only [Reg.ung]
              obtain ⟨ad3, rfl, f5⟩ := hq0; go_wp2; exact ⟨_, rfl, hG, Below.refl _ _, _, rfl, f5⟩
            refine ⟨fun hf _ => ?_, ?_⟩
            · obtain ⟨hq0, hq1, -⟩ := hf
              replace hq0 : ∃ ad, x7 = .pointer (some ad) ∧ wr.cell? ad = some (.int .i64 s0) := hq0
              obtain rfl : x3 = _ := hq1
              refine .inl ⟨by rfl, ?_⟩
              simp only [Reg.ung]
              obtain ⟨ad3, rfl, f5⟩ := hq0; go_wp2; exact ⟨_, rfl, hG, Below.refl _ _, rfl⟩
            refine ⟨fun hf _ => ?_, ?_⟩
            · obtain ⟨hq0, -⟩ := hf
              obtain rfl : x3 = _ := hq0
              refine .inl ⟨by rfl, ?_⟩
              simp only [Reg.ung]
              go_wp2
              exact ⟨_, rfl, hG, (fun w => Below.refl w.heap.size w) _, rfl⟩
            refine ⟨fun hf _ => ?_, ?_⟩
            · obtain ⟨hq0, hq1, -⟩ := hf
              obtain rfl : x9 = _ := hq0
              obtain rfl : x3 = _ := hq1
              refine .inl ⟨by rfl, ?_⟩
              simp only [Reg.ung]
              go_wp2
              exact ⟨_, rfl, hG, (fun w => Below.refl w.heap.size w) _, rfl⟩
            refine ⟨fun hf _ => ?_, ?_⟩
            · obtain ⟨hq0, hq1, -⟩ := hf
              obtain rfl : x10 = _ := hq0
              obtain rfl : x3 = _ := hq1
              refine .inl ⟨by rfl, ?_⟩
              simp only [Reg.ung]
              go_wp2
              exact ⟨_, rfl, hG, (fun w => Below.refl w.heap.size w) _, rfl⟩
            refine ⟨fun hf _ => ?_, ?_⟩
            · obtain ⟨hq0, hq1, -⟩ := hf
              obtain rfl : x11 = _ := hq0
              obtain rfl : x3 = _ := hq1
              refine .inl ⟨by rfl, ?_⟩
              simp only [Reg.ung]
              go_wp2
              exact ⟨_, rfl, hG, (fun w => Below.refl w.heap.size w) _, rfl⟩
            refine ⟨fun hf _ => ?_, ?_⟩
            · obtain ⟨hq0, hq1, -⟩ := hf
              obtain rfl : x12 = _ := hq0
              obtain rfl : x3 = _ := hq1
              refine .inl ⟨by rfl, ?_⟩
              simp only [Reg.ung]
              go_wp2
              exact ⟨_, rfl, hG, (fun w => Below.refl w.heap.size w) _, rfl⟩
            refine ⟨fun hf _ => ?_, ?_⟩
            · obtain ⟨hq0, hq1, hq2, -⟩ := hf
              obtain rfl : x8 = _ := hq0
              obtain rfl : x13 = _ := hq1
              obtain rfl : x3 = _ := hq2
              refine .inl ⟨by rfl, ?_⟩
              simp only [Reg.ung]
              go_wp2
              exact ⟨_, rfl, hG, (fun w => Below.refl w.heap.size w) _, rfl⟩
            refine ⟨fun hf _ => ?_, ?_⟩
            · obtain ⟨hq0, hq1, -⟩ := hf
              obtain rfl : x3 = _ := hq0
              obtain rfl : x14 = _ := hq1
              refine .inl ⟨by rfl, ?_⟩
              simp only [Reg.ung]
              go_wp2
              exact ⟨_, rfl, hG, (fun w => Below.refl w.heap.size w) _, rfl⟩
            refine ⟨fun hf _ => ?_, ?_⟩
            · obtain ⟨hq0, -, -, -, -, -, -, -, -, -, -, -, -, -, -, -, -, -, -⟩ := hf
              obtain rfl : x15 = _ := hq0
              refine .inl ⟨by rfl, ?_⟩
              simp only [Reg.ung]
              go_wp2
              exact ⟨_, rfl, hG, (fun w => Below.refl w.heap.size w) _, rfl⟩
            exact trivial
          case he =>
            intro xs hl0_ wr hG hf
            obtain ⟨x0, xs1, rfl, hl1⟩ := Reg.len_succ hl0_
            obtain ⟨x1, xs2, rfl, hl2⟩ := Reg.len_succ hl1
            obtain ⟨x2, xs3, rfl, hl3⟩ := Reg.len_succ hl2
            obtain ⟨x3, xs4, rfl, hl4⟩ := Reg.len_succ hl3
            obtain ⟨x4, xs5, rfl, hl5⟩ := Reg.len_succ hl4
            obtain ⟨x5, xs6, rfl, hl6⟩ := Reg.len_succ hl5
            obtain ⟨x6, xs7, rfl, hl7⟩ := Reg.len_succ hl6
            obtain ⟨x7, xs8, rfl, hl8⟩ := Reg.len_succ hl7
            obtain ⟨x8, xs9, rfl, hl9⟩ := Reg.len_succ hl8
            obtain ⟨x9, xs10, rfl, hl10⟩ := Reg.len_succ hl9
            obtain ⟨x10, xs11, rfl, hl11⟩ := Reg.len_succ hl10
            obtain ⟨x11, xs12, rfl, hl12⟩ := Reg.len_succ hl11
            obtain ⟨x12, xs13, rfl, hl13⟩ := Reg.len_succ hl12
            obtain ⟨x13, xs14, rfl, hl14⟩ := Reg.len_succ hl13
            obtain ⟨x14, xs15, rfl, hl15⟩ := Reg.len_succ hl14
            obtain ⟨x15, xs16, rfl, hl16⟩ := Reg.len_succ hl15
            obtain ⟨x16, xs17, rfl, hl17⟩ := Reg.len_succ hl16
            obtain rfl := List.eq_nil_of_length_eq_zero hl17
            clear hl0_ hl1 hl2 hl3 hl4 hl5 hl6 hl7 hl8 hl9 hl10 hl11 hl12 hl13 hl14 hl15 hl16 hl17
            obtain ⟨hq0, hq1, hq2, hq3, hq4, hq5, hq6, hq7, hq8, hq9, hq10, hq11, hq12, hq13, hq14, hq15, hq16, -⟩ := hf
            obtain rfl : x0 = _ := hq0
            obtain rfl : x1 = _ := hq1
            obtain rfl : x2 = _ := hq2
            obtain rfl : x3 = _ := hq3
            obtain rfl : x4 = _ := hq4
            replace hq5 : Kd.R k47 47 wr wc.heap.size (fun _ => True) x5 l' := hq5
            replace hq6 : ∃ ad, x6 = .pointer (some ad) ∧ wr.cell? ⟨ad.block, ad.off + 5, none⟩ = some (.int .i64 s0) := hq6
            replace hq7 : ∃ ad, x7 = .pointer (some ad) ∧ wr.cell? ad = some (.int .i64 s0) := hq7
            obtain rfl : x8 = _ := hq8
            obtain rfl : x9 = _ := hq9
            obtain rfl : x10 = _ := hq10
            obtain rfl : x11 = _ := hq11
            obtain rfl : x12 = _ := hq12
            obtain rfl : x13 = _ := hq13
            obtain rfl : x14 = _ := hq14
            obtain rfl : x15 = _ := hq15
            obtain rfl : x16 = _ := hq16
            simp only [Reg.putL, Act.put, List.setIfInBounds_toArray, List.set_cons_succ, List.set_cons_zero]
            clear hq5 hq6 hq7
            have HBE := Aside0.mk hG
            clear hG B0 U0
            go_wp2_with (fail)
            go_ret
            exact ⟨rfl, below_then HB1.out HB1.out.size (below_then HB7.out HB7.out.size HBE.out)⟩
end Go.Proofs.YtmifpookhhkgeaaDoor.Q
