/- The document's List: a row that is full (whatever its mark) or the call's own. -/
import Derived.Test.YtmifpookhhkgeaaDoorP0
import Derived.Test.YtmifpookhhkgeaaDoorTabS
import Derived.ArgAppend
import Derived.Lib.SlBytesConst
set_option linter.unusedVariables false
set_option linter.unusedSimpArgs false
namespace Go.Proofs.YtmifpookhhkgeaaDoor.G
open Go.RowKit Go.Lib Go.Proofs.YtmifpookhhkgeaaDoorW.PrintWords Go.Proofs.YtmifpookhhkgeaaDoorW.PrintLast Go.Proofs.YtmifpookhhkgeaaDoorW.PrintMore Go.Proofs.YtmifpookhhkgeaaDoor.P
/-- Bytes that are the call's own, or fill their row. -/
def MR (w : World) (base : Nat) (v : Value) (xs : List Int) : Prop :=
  Kd.R (Kd.int .u8) 5 w base (fun _ => True) v xs ∨ ∃ g mk, v = .slice (some ⟨g, 0, none⟩) xs.length xs.length ∧ base ≤ g ∧ w.heap[g]? = some (.cells (encs (Value.int .u8) xs).toArray 5 mk)
theorem info5M : ∃ i0 : TypeInfo, Tryd.prog.info? 5 = some i0 ∧ i0.zero = some (.int .u8 0) ∧ i0.size = 1 ∧ i0.bytes = 1 := by
  have h := info5
  cases hi : Tryd.prog.info? 5 with
  | none => rw [hi] at h; cases h
  | some i0 =>
    rw [hi] at h
    simp only [Option.map_some, Option.some.injEq, Prod.mk.injEq] at h
    exact ⟨i0, rfl, h.1, h.2.1, h.2.2⟩
theorem MR_cell {W : World} {g : Nat} {xs : List Int} {mk : Nat × Nat} (hb : W.heap[g]? = some (.cells (encs (Value.int .u8) xs).toArray 5 mk)) (j : Nat) (u : Value) (hu : (encs (Value.int .u8) xs)[j]? = some u) : W.cell? ((⟨g, 0, none⟩ : Addr).add j) = some u := by
  have e : (⟨g, 0, none⟩ : Addr).add j = ⟨g, j, none⟩ := Go.Proofs.YtmifpookhhkgeaaDoorW.PrintWords.add_plain _ _
  rw [e]
  simp [World.cell?, hb, hu]
theorem full_run {W : World} {base g m c : Nat} {mk : Nat × Nat} {ty : TypeId} {xs ys : List Int} {A : Option Addr} (hg : base ≤ g) (hb : W.heap[g]? = some (.cells (encs (Value.int .u8) xs).toArray 5 mk))
    (HR : Kd.C (Kd.int .u8) W A m ys) (hl : xs.length + m ≤ 140737488355328) (hbase : base ≤ W.heap.size) :
    ∃ v1 w1, (Builtin.append_ #[29, 29] ty #[.slice (some ⟨g, 0, none⟩) xs.length xs.length, .slice A m c]).run Tryd.prog W = .ok v1 w1 ∧ MR w1 base v1 (xs ++ ys) ∧ W.grownBy w1 none ∧ (0 < m → Kd.R (Kd.int .u8) 5 w1 base (fun _ => True) v1 (xs ++ ys)) := by
  obtain ⟨i0, hi, hz0, hz1, hz2⟩ := info5M
  have hm : ys.length = m := HR.1
  rcases Nat.eq_zero_or_pos m with h0 | h0
  · subst h0
    obtain rfl : ys = [] := List.eq_nil_of_length_eq_zero hm
    refine ⟨_, W, ?_, .inr ⟨g, mk, by rw [List.append_nil], hg, by rw [List.append_nil]; exact hb⟩, World.grownBy.refl W _, fun h => absurd h (by omega)⟩
    cases A with
    | none => simp [Builtin.append_, run_underlying Tryd.underlying29, sizeOf, typeInfo, hi, Builtin.lenOf, Builtin.firstCells, storeCells]
    | some ad =>
      have hf := run_firstCells_some (P := Tryd.prog) W i0.size 0 ad 0 c [] (by simp) (by simp)
      simp [Builtin.append_, run_underlying Tryd.underlying29, sizeOf, typeInfo, hi, Builtin.lenOf, hf, storeCells]
  · obtain ⟨ad, rfl, _⟩ := HR.2.2 h0
    have hRI := Kd.reads_of_C (enc := Value.int .u8) (d := (0 : Int)) (h1 := fun _ => rfl) HR
    obtain ⟨ad', e, hc⟩ := hRI.2.2 h0
    injection e with e
    subst e
    have hnews : ∀ j u, (encs (Value.int .u8) ys)[j]? = some u → W.cell? (ad.add j) = some u := by
      intro j u hu
      have hj : j < m := by have := (List.getElem?_eq_some_iff.1 hu).1; simpa [encs, hm] using this
      rw [hc j hj, ← hu]
      simp [encs, hm, hj]
    obtain ⟨v', w', h1, h2, h3⟩ := run_append_arg_grows (P := Tryd.prog) W 29 ty 5 i0 (.int .u8 0) 1 1 Tryd.underlying29 hi hz0 hz1 hz2 rfl (by omega) ⟨g, 0, none⟩ xs.length xs.length (encs (Value.int .u8) xs) (by simp [encs]) (MR_cell hb) ad m c (encs (Value.int .u8) ys) (by simp [encs, hm]) hnews (by omega) (by simp only [maxLen]; omega) (by omega)
    have hR : Kd.R (Kd.int .u8) 5 w' base (fun _ => True) v' (xs ++ ys) := by
      refine Kd.R_lower (base := W.heap.size) (Kd.R_of_own ?_ (fun _ _ => trivial)) hbase
      have e1 : (xs ++ ys).length = xs.length + m := by simp [hm]
      rw [e1]
      have e2 : encs (Value.int .u8) (xs ++ ys) = encs (Value.int .u8) xs ++ encs (Value.int .u8) ys := by simp [encs]
      rw [e2]
      exact h2
    exact ⟨v', w', h1, .inl hR, h3, fun _ => hR⟩
section
variable {ops : Array Oper} {rest : List Oper} {o : Oper} {a : Act} {Q : Exit → Act → World → Prop}
set_option maxRecDepth 100000 in
theorem MR_append_rows {w0 W : World} (base : Nat) (hgd : o.guard = none) (s x : Operand)
    (ho : o.op = .call { callee := .builtin .append, args := #[s, x], argTypes := #[29, 29] })
    (v : Value) (xs ys : List Int) (A : Option Addr) (m c : Nat) (hs : a.eval s = v) (hx : a.eval x = .slice A m c)
    (HO : MR W base v xs) (HR : Kd.C (Kd.int .u8) W A m ys) (HB : Below base w0 W) (hbase : base ≤ W.heap.size) (hl : xs.length + m ≤ 140737488355328)
    (h : ∀ v1 w1, MR w1 base v1 (xs ++ ys) → Below base w0 w1 → wpList Tryd.prog ops Q rest (a.put o.dst v1) w1) :
    wpList Tryd.prog ops Q (o :: rest) a W := by
  rcases HO with HO | ⟨g, mk, rfl, hg, hb⟩
  · exact Kd.R_append_rows (Kd.int .u8) (w0 := w0) base hgd s x 29 5 (.int .u8 0) 1 ho Tryd.underlying29 info5 rfl (by decide) (by omega) v xs ys A m c (fun _ => True) (fun _ => False) hs hx HO HR (fun _ _ h => h) (fun _ h => h.elim) (fun _ _ => trivial) HB hbase (by omega) (fun v1 w1 h1 h2 _ _ => h v1 w1 (.inl h1) h2)
  · obtain ⟨v1, w1, hr1, h1, hgr, _⟩ := full_run (ty := o.type) (c := c) hg hb HR hl hbase
    refine wpList_plain hgd fun K hK => ?_
    unfold Oper.wp execOp
    simp only [ho, resolve, invoke, builtin, Sem.run_bind, Sem.run_pure, Result.andThen_ok, List.map_toArray, List.map_cons, List.map_nil, hs, hx, hr1]
    exact hK _ _ (h v1 w1 h1 (HB.grown hgr hbase (by intro k hk; cases hk)))
set_option maxRecDepth 100000 in
theorem MR_append {w0 W : World} (base : Nat) (hgd : o.guard = none) (s x : Operand)
    (ho : o.op = .call { callee := .builtin .append, args := #[s, x], argTypes := #[29, 29] })
    (v : Value) (xs : List Int) (p : Int) (hs : a.eval s = v) (hx : a.eval x = .slice (some ⟨W.heap.size, 0, none⟩) 1 1)
    (HO : MR W base v xs) (HB : Below base w0 W) (hbase : base ≤ W.heap.size) (hl : xs.length + 1 ≤ 140737488355328)
    (h : ∀ v1 w1, Kd.R (Kd.int .u8) 5 w1 base (fun _ => True) v1 (xs ++ [p]) → Below base w0 w1 → wpList Tryd.prog ops Q rest (a.put o.dst v1) w1) :
    wpList Tryd.prog ops Q (o :: rest) a (W.alloc (.cells #[.int .u8 p] 5)) := by
  rcases HO with HO | ⟨g, mk, rfl, hg, hb⟩
  · exact Kd.R_append (Kd.int .u8) (w0 := w0) base hgd s x 29 5 (.int .u8 0) 1 ho Tryd.underlying29 info5 rfl (by decide) (by omega) v xs p [.int .u8 p] (fun _ => True) (fun _ => False) hs hx rfl (fun _ h => h.elim) (fun _ _ => trivial) HO HB hbase (by omega) (fun v1 w1 h1 h2 _ _ => h v1 w1 h1 h2)
  · have hgl : g < W.heap.size := (Array.getElem?_eq_some_iff.1 hb).1
    have hb' : (W.alloc (.cells #[.int .u8 p] 5)).heap[g]? = some (.cells (encs (Value.int .u8) xs).toArray 5 mk) := by rw [heap_alloc_old _ _ hgl]; exact hb
    have hbase' : base ≤ (W.alloc (.cells #[.int .u8 p] 5)).heap.size := Nat.le_trans hbase (below_alloc (Below.refl _ W) _).size
    have HR : Kd.C (Kd.int .u8) (W.alloc (.cells #[.int .u8 p] 5)) (some ⟨W.heap.size, 0, none⟩) 1 [p] := by
      refine Kd.C_of_reads (enc := Value.int .u8) (d := (0 : Int)) (h1 := fun _ => rfl) ⟨rfl, by omega, fun _ => ⟨_, rfl, fun j hj => ?_⟩⟩
      obtain rfl : j = 0 := by omega
      rw [Go.Proofs.YtmifpookhhkgeaaDoorW.PrintWords.add_plain]
      show World.cell? _ _ = some _
      unfold World.cell?
      rw [heap_alloc_new W (.cells #[.int .u8 p] 5)]
      rfl
    obtain ⟨v1, w1, hr1, _, hgr, hR⟩ := full_run (ty := o.type) (c := 1) hg hb' HR hl hbase'
    refine wpList_plain hgd fun K hK => ?_
    unfold Oper.wp execOp
    simp only [ho, resolve, invoke, builtin, Sem.run_bind, Sem.run_pure, Result.andThen_ok, List.map_toArray, List.map_cons, List.map_nil, hs, hx, hr1]
    exact hK _ _ (h v1 w1 (hR (by omega)) ((HB.alloc hbase _).grown hgr hbase' (by intro k hk; cases hk)))
end
def rd_LB (xs : List (List Int)) (i : Int) : (List Int) := xs.getD i.toNat ([] : List Int)
theorem at_LB {w : World} {A : Option Addr} {n : Nat} {xs : List (List Int)} (h : Kd.C (Kd.slice 5 (Kd.int .u8)) w A n xs) (i : Int) (h0 : 0 ≤ i) (h1 : i < n) : ∃ ad A0 c0, A = some ad ∧ w.cell? (ad.add i.toNat) = some (.slice A0 (rd_LB xs i).length c0) ∧ (rd_LB xs i).length ≤ c0 ∧ Kd.C (Kd.int .u8) w A0 (rd_LB xs i).length (rd_LB xs i) := by
  obtain ⟨ad, c, e, _, hK, hc0⟩ := Kd.C_get h ([] : List Int) i h0 h1
  have hc : ∀ j u, c[j]? = some u → w.cell? (ad.add (i.toNat * 1 + j)) = some u := hc0
  obtain ⟨A0, c0, rfl, l0, g0⟩ := hK
  exact ⟨ad, A0, c0, e, by have hq := hc 0 _ rfl; rwa [Nat.mul_one, Nat.add_zero] at hq, l0, g0⟩
def sumLen (ps : List (List Int)) : Nat := (ps.map (·.length)).sum
theorem sumLen_take (ps : List (List Int)) (j : Nat) (hj : j < ps.length) : sumLen (ps.take (j + 1)) = sumLen (ps.take j) + ps[j].length := by
  unfold sumLen
  rw [List.take_add_one, List.getElem?_eq_getElem hj]
  rw [List.map_append, List.sum_append]
  simp
theorem sumLen_le (ps : List (List Int)) (j : Nat) : sumLen (ps.take j) ≤ sumLen ps := by
  conv => rhs; rw [← List.take_append_drop j ps]
  unfold sumLen
  rw [List.map_append, List.sum_append]
  omega
theorem flat_take (ps : List (List Int)) (j : Nat) (hj : j < ps.length) : (ps.take (j + 1)).flatten = (ps.take j).flatten ++ ps[j] := by
  rw [List.take_add_one, List.getElem?_eq_getElem hj, List.flatten_append]
  simp
theorem flat_len' (ps : List (List Int)) : ps.flatten.length = sumLen ps := by
  induction ps with
  | nil => rfl
  | cons p t ih => simp [sumLen, List.length_flatten]
def listB (ps : List (List Int)) : List Int := 108 :: ps.flatten ++ [101]
def WListG.f (l0 : List (List Int)) : Option (List Int) := if l0.length ≤ 1000000000 ∧ sumLen l0 < 140737488355327 then some (listB l0) else none
set_option maxHeartbeats 4000000 in
set_option maxRecDepth 100000 in
theorem wlist_any (A0 : Option Addr) (c0 : Nat) (l0 : List (List Int)) (w : World) (hr0 : Kd.C (Kd.slice 5 (Kd.int .u8)) w A0 l0.length l0) (hn : l0.length ≤ 1000000000) (hs : sumLen l0 < 140737488355327) :
    Calls Tryd.prog 59 #[.slice A0 l0.length c0] w fun e w' => ∃ v0_ : Value, e = .returned (v0_) ∧ Kd.R (Kd.int .u8) 5 w' w.heap.size (fun _ => True) v0_ (listB l0) ∧ Below w.heap.size w w' := by
  have kcv := run_convert_bytes_const (P := Tryd.prog) w 29 5 #[.int .u8 108] 1 1 Tryd.underlying29 Tryd.underlying5
  have HR0 := Aside0.mk hr0
  have HN := Aside0.mk hn
  have HS := Aside0.mk hs
  obtain ⟨n, hnn⟩ : ∃ n, n = l0.length := ⟨_, rfl⟩
  have HNN := Aside0.mk hnn
  rw [← hnn]
  clear hr0 hn hs hnn
  go_enter Tryd.func59, Tryd.ntmps59
  go_wp2_with (fail)
  go_loopg [3, 4] n (fun kq v3 v4 wr => ∃ (j : Nat), v4 = .int .i64 (j : Int) ∧ Aside0 (j + kq = n) ∧ Aside0 (MR wr w.heap.size v3 (108 :: (l0.take j).flatten)) ∧ Aside0 (Below w.heap.size w wr))
  case atStart =>
    refine ⟨0, rfl, ⟨by omega⟩, ⟨.inr ⟨w.heap.size, (1, 2), rfl, Nat.le_refl _, ?_⟩⟩, ⟨below_alloc (Below.refl _ _) _⟩⟩
    exact heap_alloc_new w _
  case round =>
    clear kcv
    obtain ⟨j, rfl, HJ, HM, HB⟩ := hrel
    have hacc : (108 :: (l0.take j).flatten).length = 1 + sumLen (l0.take j) := by rw [List.length_cons, flat_len']; omega
    have hsl := sumLen_le l0 j
    have HACC := Aside0.mk (show (108 :: (l0.take j).flatten).length + 1 ≤ 140737488355328 by have := HS.out; omega)
    by_cases hj : j < n
    · obtain ⟨k1, rfl⟩ : ∃ k1, gk = k1 + 1 := ⟨gk - 1, by have := HJ.out; omega⟩
      have hj' : j < l0.length := by rw [← HNN.out]; exact hj
      have hst := sumLen_take l0 j hj'
      have hsl1 := sumLen_le l0 (j + 1)
      obtain ⟨ad, A1, c1, e1, hx, hl, hi⟩ := at_LB HR0.out (j : Int) (by omega) (by omega)
      cases e1
      rw [Int.toNat_natCast] at hx
      have hrd : rd_LB l0 (j : Int) = l0[j] := by simp [rd_LB, hj']
      rw [hrd] at hx hl hi
      replace hx := (HB.out.cell (World.block_lt_of_cell? w _ hx)).trans hx
      have HI := Aside0.mk (Kd.C_below hi HB.out)
      have hjn : decide ((j : Int) < (n : Int)) = true := by simp; omega
      have hjn2 : decide (j < n) = true := by simp; omega
      have HLL := Aside0.mk (show (108 :: (l0.take j).flatten).length + l0[j].length ≤ 140737488355328 by have := HS.out; omega)
      have HFL := Aside0.mk (show 108 :: (l0.take (j + 1)).flatten = (108 :: (l0.take j).flatten) ++ l0[j] by
        rw [flat_take l0 j hj']; rfl)
      have HJL := Aside0.mk hj
      have ew : wrap64 ((j : Int) + 1) = ((j + 1 : Nat) : Int) := by have := HN.out; rw [← HNN.out] at this; unfold wrap64; omega
      obtain ⟨p, hp⟩ : ∃ p, p = l0[j] := ⟨_, rfl⟩
      rw [← hp] at hx HI HLL HFL
      clear hacc hsl hst hsl1 hl hi hrd hp hj'
      go_wp2_with ((with_reducible refine gate_builtin (b := .append) (xs := #[.tmp 13, .tmp 17]) rfl ?_); at_builtin; refine MR_append_rows (w0 := w) w.heap.size rfl (.tmp 13) (.tmp 17) rfl u3 (108 :: (l0.take j).flatten) p A1 p.length c1 rfl rfl HM.out HI.out HB.out HB.out.size HLL.out ?_; intro v1 w1 ho hb; rw [← HFL.out] at ho; have HM1 := Aside0.mk ho; have HB1 := Aside0.mk hb; clear ho hb HM HB)
      go_roundg k1
      case measure => omega
      case rel => exact ⟨j + 1, by rw [← ew], ⟨by have := HJ.out; omega⟩, HM1, HB1⟩
    · have hjn : decide ((j : Int) < (n : Int)) = false := by simp; omega
      have hjn2 : decide (j < n) = false := by simp; omega
      have HLB := Aside0.mk (show listB l0 = (108 :: (l0.take j).flatten) ++ [101] by
        rw [List.take_of_length_le (by rw [← HNN.out]; omega)]; rfl)
      clear hacc hsl hj
      go_wp2_with ((with_reducible refine gate_builtin (b := .append) (xs := #[.tmp 19, .tmp 20]) rfl ?_); at_builtin; refine MR_append (w0 := w) w.heap.size rfl (.tmp 19) (.tmp 20) rfl u3 (108 :: (l0.take j).flatten) 101 rfl rfl HM.out HB.out HB.out.size HACC.out ?_; intro v1 w1 ho hb; rw [← HLB.out] at ho)
      go_ret
      exact ⟨_, rfl, ho, hb⟩
theorem WListG.calls (A0 : Option Addr) (c0 : Nat) (l0 : List (List Int)) (r : List Int) (w : World) (hr0 : Kd.C (Kd.slice 5 (Kd.int .u8)) w A0 l0.length l0) (hc0 : l0.length ≤ c0) (h : WListG.f l0 = some r) :
    Calls Tryd.prog 59 #[.slice A0 l0.length c0] w fun e w' => ∃ v0_ : Value, e = .returned (v0_) ∧ Kd.R (Kd.int .u8) 5 w' w.heap.size (fun _ => True) v0_ r ∧ Below w.heap.size w w' := by
  unfold WListG.f at h
  by_cases hs : l0.length ≤ 1000000000 ∧ sumLen l0 < 140737488355327
  · rw [if_pos hs] at h
    obtain rfl := Option.some.inj h
    exact wlist_any A0 c0 l0 w hr0 hs.1 hs.2
  · rw [if_neg hs] at h; cases h
end Go.Proofs.YtmifpookhhkgeaaDoor.G
