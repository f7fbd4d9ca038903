/- The document's reader, by value: Byte, More. -/
import Derived.Test.YtjgommaikaeobaaGreatDoorRF
import Derived.Test.YtjgommaikaeobaaGreatDoorWU
import Derived.Test.YtjgommaikaeobaaGreatDoorReg
import Derived.Test.YtjgommaikaeobaaGreatDoorP0
set_option linter.unusedVariables false
set_option linter.unusedSimpArgs false
namespace Go.Proofs.YtjgommaikaeobaaGreatDoor.G
open Go.RowKit Go.Shelf Go.Lib Go.Proofs.YtjgommaikaeobaaGreatDoorW.PrintWords Go.Proofs.YtjgommaikaeobaaGreatDoorW.PrintMore Go.Proofs.YtjgommaikaeobaaGreatDoor.P Go.Proofs.YtjgommaikaeobaaGreatDoor.RD
/-- A reader's value. -/
def RV (bb : Nat) (w : World) (v : Value) (bs : List Int) (e : Int) : Prop :=
  ∃ A c, v = .agg #[.slice A bs.length c, .int .i64 e] ∧ Kd.C (Kd.int .u8) w A bs.length bs ∧ bs.length ≤ c ∧ ∀ ad, A = some ad → ad.block = bb
theorem addr_cut {A A' : Option Addr} {c m bb : Nat} (h : A' = if c = m then A else A.map (·.add m)) (hb : ∀ ad, A = some ad → ad.block = bb) : ∀ ad, A' = some ad → ad.block = bb := by
  intro ad had
  rw [h] at had
  split at had
  · exact hb ad had
  · cases A with
    | none => cases had
    | some a => simp only [Option.map_some, Option.some.injEq] at had; subst had; have e1 : (a.add m).block = a.block := by unfold Addr.add; split <;> rfl
                rw [e1]; exact hb a rfl
theorem RV.below {bb : Nat} {w w' : World} {v : Value} {bs : List Int} {e : Int} (h : RV bb w v bs e) (hb : Below w.heap.size w w') : RV bb w' v bs e := by
  obtain ⟨A, c, hv, hC, hc, hbb⟩ := h
  exact ⟨A, c, hv, Kd.C_below hC hb, hc, hbb⟩
/-- A reader's cell, stored whole. -/
theorem put2 {W : World} {g : Nat} {a b x y : Value} (hb : W.heap[g]? = some (.cells #[a, b] 42 (0, 0))) : ((W.setCell ⟨g, 0, none⟩ x).setCell ⟨g, 1, none⟩ y).heap[g]? = some (.cells #[x, y] 42 (0, 0)) := by
  have h1 := blk_put hb 0 x (cs' := #[x, b]) rfl
  exact blk_put h1 1 y rfl
theorem below_put2 {w W : World} {g : Nat} {x y : Value} (hb : Below w.heap.size w W) (hg : w.heap.size ≤ g) : Below w.heap.size w ((W.setCell ⟨g, 0, none⟩ x).setCell ⟨g, 1, none⟩ y) := below_set (below_set hb hg) hg
theorem new2 (w : World) (o o' : Obj) : ((w.alloc o).alloc o').heap[w.heap.size + 1]? = some o' := by
  have := heap_alloc_new (w.alloc o) o'
  simpa using this
theorem stop_any (e : Int) (w : World) : Calls Tryz.prog 36 #[.int .i64 e] w fun en w' => en = .returned (.agg #[.slice none 0 0, .int .i64 e]) ∧ Below w.heap.size w w' := by
  go_enter Tryz.func36, Tryz.ntmps36
  go_wp2_with (fail)
  refine bodyPost_ret (results_cell_row rfl _ _ w.heap.size 42 #[.slice none 0 0, .int .i64 e] (0, 0) _ rfl ?_ Tryz.underlying42 rfl (by kernel_rfl)) rfl ?_
  · exact heap_alloc_new w _
  exact ⟨by trivial, by repeat (first | exact Below.refl _ _ | apply below_alloc)⟩
set_option maxRecDepth 100000 in
set_option maxHeartbeats 2000000 in
theorem byte_any (bb : Nat) (c0 : Int) (v : Value) (bs : List Int) (e : Int) (w : World) (h : RV bb w v bs e) : Calls Tryz.prog 19 #[v, .int .u8 c0] w fun en w' => ∃ v', en = .returned v' ∧ RV bb w' v' (skipF c0 bs e).1 (skipF c0 bs e).2 ∧ Below w.heap.size w w' := by
  obtain ⟨A, c, rfl, hC, hc, hbb⟩ := h
  have HBB := Aside0.mk hbb
  clear hbb
  have HC := Aside0.mk hC
  have HCC := Aside0.mk hc
  by_cases he : e = 0
  · subst he
    cases bs with
    | nil =>
      have hst := Aside0.mk (fun W => stop_any 3 W)
      clear hC hc
      go_enter Tryz.func19, Tryz.ntmps19
      go_wp2_with (fail)
      refine (hst.out _).mono ?_
      rintro en w3 ⟨rfl, hb3⟩
      have hB3 := below_then (below_alloc (below_alloc (Below.refl _ w) (.cells #[.slice A 0 c, .int .i64 0] 42)) (.cells #[.slice none 0 0, .int .i64 0] 42)) (below_alloc (below_alloc (Below.refl _ w) _) _).size hb3
      have hbk : w3.heap[w.heap.size + 1]? = some (.cells #[.slice none 0 0, .int .i64 0] 42 (0, 0)) := by
        rw [hb3.block _ (by simp)]
        have := heap_alloc_new (w.alloc (.cells #[.slice A 0 c, .int .i64 0] 42)) (.cells #[.slice none 0 0, .int .i64 0] 42)
        simpa using this
      have HB3 := Aside0.mk hB3
      have HBK := Aside0.mk hbk
      have q0 : w3.cell? ⟨w.heap.size + 1, 0, none⟩ = some (.slice none 0 0) := (blk_cell hbk 0).trans rfl
      have q1 : w3.cell? ⟨w.heap.size + 1, 1, none⟩ = some (.int .i64 0) := (blk_cell hbk 1).trans rfl
      have f0 : w3.frozen? ⟨w.heap.size + 1, 0, none⟩ = false := blk_frozen hbk 0
      have f1 : w3.frozen? ⟨w.heap.size + 1, 1, none⟩ = false := blk_frozen hbk 1
      clear hb3 hB3 hbk hst
      go_wp2_with (fail)
      refine bodyPost_ret (results_cell_row rfl _ _ (w.heap.size + 1) 42 #[.slice none 0 0, .int .i64 3] (0, 0) _ rfl (put2 HBK.out) Tryz.underlying42 rfl (by kernel_rfl)) rfl ?_
      exact ⟨_, rfl, ⟨none, 0, rfl, Kd.C_nil _ _, Nat.le_refl _, fun _ h => by cases h⟩, below_put2 HB3.out (by omega)⟩
    | cons b t =>
      obtain ⟨ad, rfl, hcell⟩ := head_cell hC
      obtain ⟨A', hA', hrun⟩ := cut_bytes (some ad) (t.length + 1) c 1 (by omega)
      simp only [Int.natCast_one, Nat.add_sub_cancel] at hrun
      have hcell2 : ∀ o o' : Obj, ((w.alloc o).alloc o').cell? ad = some (.int .u8 b) := fun o o' => by
        have h1 := hcell
        exact (below_alloc (below_alloc (Below.refl _ w) o) o').cell (World.block_lt_of_cell? w _ h1) |>.trans h1
      have hlt := World.block_lt_of_cell? w _ hcell
      by_cases hw : b = c0
      · subst hw
        have hbb : (b != b) = false := by simp
        have HA' := Aside0.mk hA'
        have HD := Aside0.mk (Kd.C_drop hC (m := 1) (by simp only [List.length_cons]; omega) hc)
        clear hC hc hA' hlt
        go_enter Tryz.func19, Tryz.ntmps19
        go_wp2_with (fail)
        refine bodyPost_ret (results_cell_row rfl _ _ (w.heap.size + 1) 42 #[.slice A' t.length (c - 1), .int .i64 0] (0, 0) _ rfl (new2 _ _ _) Tryz.underlying42 rfl (by kernel_rfl)) rfl ?_
        unfold skipF
        rw [if_neg (by simp)]
        simp only [if_pos]
        have hd := HD.out
        rw [show 1 * (Kd.int .u8).sz = 1 from rfl, ← HA'.out] at hd
        refine ⟨_, rfl, ⟨A', c - 1, rfl, ?_, by have := HCC.out; simp only [List.length_cons] at this; omega, addr_cut HA'.out HBB.out⟩, below_alloc (below_alloc (Below.refl _ w) _) _⟩
        exact Kd.C_alloc (Kd.C_alloc hd _) _
      · have hbw : (b != c0) = true := bne_iff_ne.2 hw
        have HW := Aside0.mk hw
        have hst := Aside0.mk (fun W => stop_any 4 W)
        clear hC hc hA' hlt hrun hw
        go_enter Tryz.func19, Tryz.ntmps19
        go_wp2_with (fail)
        refine (hst.out _).mono ?_
        rintro en w3 ⟨rfl, hb3⟩
        have hB3 := below_then (below_alloc (below_alloc (Below.refl _ w) (.cells #[.slice (some ad) (t.length + 1) c, .int .i64 0] 42)) (.cells #[.slice none 0 0, .int .i64 0] 42)) (below_alloc (below_alloc (Below.refl _ w) _) _).size hb3
        have hbk : w3.heap[w.heap.size + 1]? = some (.cells #[.slice none 0 0, .int .i64 0] 42 (0, 0)) := by
          rw [hb3.block _ (by simp)]
          have := heap_alloc_new (w.alloc (.cells #[.slice (some ad) (t.length + 1) c, .int .i64 0] 42)) (.cells #[.slice none 0 0, .int .i64 0] 42)
          simpa using this
        have HB3 := Aside0.mk hB3
        have HBK := Aside0.mk hbk
        have q0 : w3.cell? ⟨w.heap.size + 1, 0, none⟩ = some (.slice none 0 0) := (blk_cell hbk 0).trans rfl
        have q1 : w3.cell? ⟨w.heap.size + 1, 1, none⟩ = some (.int .i64 0) := (blk_cell hbk 1).trans rfl
        have f0 : w3.frozen? ⟨w.heap.size + 1, 0, none⟩ = false := blk_frozen hbk 0
        have f1 : w3.frozen? ⟨w.heap.size + 1, 1, none⟩ = false := blk_frozen hbk 1
        clear hb3 hB3 hbk hst
        go_wp2_with (fail)
        refine bodyPost_ret (results_cell_row rfl _ _ (w.heap.size + 1) 42 #[.slice none 0 0, .int .i64 4] (0, 0) _ rfl (put2 HBK.out) Tryz.underlying42 rfl (by kernel_rfl)) rfl ?_
        unfold skipF
        rw [if_neg (by simp)]
        simp only [if_neg HW.out]
        exact ⟨_, rfl, ⟨none, 0, rfl, Kd.C_nil _ _, Nat.le_refl _, fun _ h => by cases h⟩, below_put2 HB3.out (by omega)⟩
  · have HE := Aside0.mk he
    have he1 : (e != 0) = true := bne_iff_ne.2 he
    obtain ⟨n, hn⟩ : ∃ n, n = bs.length := ⟨_, rfl⟩
    have HN := Aside0.mk hn
    rw [← hn]
    clear hC hc he hn
    go_enter Tryz.func19, Tryz.ntmps19
    go_wp2_with (fail)
    refine bodyPost_ret (results_cell_row rfl _ _ (w.heap.size + 1) 42 #[.slice A n c, .int .i64 e] (0, 0) _ rfl (new2 _ _ _) Tryz.underlying42 rfl (by kernel_rfl)) rfl ?_
    unfold skipF
    rw [if_pos HE.out]
    refine ⟨_, rfl, ⟨A, c, by rw [HN.out], Kd.C_alloc (Kd.C_alloc HC.out _) _, HCC.out, HBB.out⟩, below_alloc (below_alloc (Below.refl _ w) _) _⟩
/-! ### More -/
def wmoreF (bs : List Int) (e : Int) : Bool := e == 0 && moreF bs
set_option maxHeartbeats 1000000 in
theorem wmore_any (bb : Nat) (v : Value) (bs : List Int) (e : Int) (w : World) (h : RV bb w v bs e) : Calls Tryz.prog 20 #[v] w fun en w' => en = .returned (.bool (wmoreF bs e)) ∧ Below w.heap.size w w' := by
  obtain ⟨A, c, rfl, hC, hc, hbb⟩ := h
  have HBB := Aside0.mk hbb
  clear hbb
  by_cases he : e = 0
  · subst he
    cases bs with
    | nil =>
      clear hC hc
      go_enter Tryz.func20, Tryz.ntmps20
      go_wp2_with (fail)
      go_ret
      exact ⟨rfl, below_alloc (Below.refl _ w) _⟩
    | cons b t =>
      obtain ⟨ad, rfl, hcell⟩ := head_cell hC
      have hcell2 : ∀ o : Obj, (w.alloc o).cell? ad = some (.int .u8 b) := fun o => ((below_alloc (Below.refl _ w) o).cell (World.block_lt_of_cell? w _ hcell)).trans hcell
      have g1 : decide ((t.length : Int) + 1 > 0) = true := by simp
      have g2 : decide (0 < (t.length : Int) + 1) = true := by simp
      have g3 : decide (0 < t.length + 1) = true := by simp
      have hlt := World.block_lt_of_cell? w _ hcell
      clear hC hc
      go_enter Tryz.func20, Tryz.ntmps20
      go_wp2_with (fail)
      go_ret
      exact ⟨rfl, below_alloc (Below.refl _ w) _⟩
  · have he1 : (e == 0) = false := beq_eq_false_iff_ne.2 he
    obtain ⟨n, hn⟩ : ∃ n, n = bs.length := ⟨_, rfl⟩
    rw [← hn]
    have HX := Aside0.mk (show wmoreF bs e = false by unfold wmoreF; rw [he1]; rfl)
    clear hC hc he hn
    go_enter Tryz.func20, Tryz.ntmps20
    go_wp2_with (fail)
    go_ret
    exact ⟨by rw [HX.out]; rfl, below_alloc (Below.refl _ w) _⟩
/-! ### Text -/
theorem results_cell_tmp_row {P : Program} {fn : Func} {p u : Tmp} {ty : TypeId} (h : fn.results = #[.cell p ty, .tmp u]) (tmps : Array Value) (w : World) (g : Nat) (t : TypeId) (cs : Array Value) (fr : Nat × Nat) (d : TypeDesc)
    (hp : tmps.getD p undef = .pointer (some ⟨g, 0, none⟩)) (hg : w.heap[g]? = some (.cells cs t fr))
    (hu : P.underlying ty = some d) (hd : (match d with | .struct _ | .array _ _ => true | _ => false) = true) (hi : (P.info? ty).map (·.size) = some cs.size) :
    (results fn tmps).run P w = .ok (.tuple #[.agg cs, tmps.getD u undef]) w := by
  have hp' : tmps[p]?.getD undef = .pointer (some ⟨g, 0, none⟩) := by simpa using hp
  simp [results, h, hp', asAddr, run_loadVar_row w g t ty cs fr d hg hu hd hi]
/-- The walk's world: the reader's cell, and the result's. -/
structure TS (w W : World) (v : Value) (e : Int) : Prop where
  b : Below w.heap.size w W
  c0 : W.heap[w.heap.size]? = some (.cells #[v, .int .i64 e] 42 (0, 0))
  c1 : W.heap[w.heap.size + 1]? = some (.cells #[.slice none 0 0, .int .i64 0] 42 (0, 0))
theorem TS.size {w W : World} {v : Value} {e : Int} (h : TS w W v e) : w.heap.size + 1 < W.heap.size := blk_lt h.c1
theorem TS.step {w W W' : World} {v : Value} {e : Int} (h : TS w W v e) (hb : Below W.heap.size W W') : TS w W' v e :=
  ⟨below_then h.b h.b.size hb, (hb.block _ (by have := h.size; omega)).trans h.c0, (hb.block _ h.size).trans h.c1⟩
theorem TS.drew {w W : World} {v : Value} {e : Int} (h : TS w W v e) (n : Nat) : TS w (W.drewN n) v e := h.step (Drawn0.below ⟨⟨n, rfl⟩⟩)
theorem TS.enter (w : World) (v : Value) (e : Int) : TS w ((w.alloc (.cells #[v, .int .i64 e] 42)).alloc (.cells #[.slice none 0 0, .int .i64 0] 42)) v e := by
  refine ⟨below_alloc (below_alloc (Below.refl _ w) _) _, ?_, new2 w _ _⟩
  rw [(below_alloc (Below.refl _ (w.alloc (.cells #[v, .int .i64 e] 42))) (.cells #[.slice none 0 0, .int .i64 0] 42)).block _ (by simp)]
  exact heap_alloc_new w _
theorem TS.facts {w W : World} {v : Value} {e : Int} (h : TS w W v e) : (W.cell? ⟨w.heap.size, 0, none⟩ = some v ∧ W.cell? ⟨w.heap.size, 1, none⟩ = some (.int .i64 e)) ∧ (W.cell? ⟨w.heap.size + 1, 0, none⟩ = some (.slice none 0 0) ∧ W.cell? ⟨w.heap.size + 1, 1, none⟩ = some (.int .i64 0)) ∧ (W.frozen? ⟨w.heap.size + 1, 0, none⟩ = false ∧ W.frozen? ⟨w.heap.size + 1, 1, none⟩ = false) :=
  ⟨⟨(blk_cell h.c0 0).trans rfl, (blk_cell h.c0 1).trans rfl⟩, ⟨(blk_cell h.c1 0).trans rfl, (blk_cell h.c1 1).trans rfl⟩, ⟨blk_frozen h.c1 0, blk_frozen h.c1 1⟩⟩
theorem nonneg1 (n : Nat) : decide (0 ≤ (n : Int) + 1) = true := decide_eq_true (by omega)
theorem wrapS (n : Nat) (h : n ≤ 4611686018427387904) : wrap64 ((n : Int) + 1) = (n : Int) + 1 := by unfold wrap64; omega
theorem hmixW : Tryz.prog.follows .mixedOrders = true := by kernel_rfl
theorem bt0_strOf {b : Int} {l t : List Int} (hl : l = b :: t) (h0 : 0 ≤ b) (h1 : b ≤ 255) : bt (strOfNums l) 0 = b := by
  have hp : 0 < (strOfNums l).size := by subst hl; simp [strOfNums, ByteArray.size]
  have h2 := bt_get (strOfNums l) 0 hp
  rw [Int.natCast_zero] at h2
  have h3 := strOf_head hl h0 h1
  rw [h2]
  have h4 : (strOfNums l).data.toList.head? = some ((strOfNums l).data.toList[0]'(by simpa using hp)) := by rw [List.head?_eq_getElem?, List.getElem?_eq_getElem]
  rw [h4] at h3
  simp only [Option.map_some, Option.some.injEq] at h3
  omega
set_option maxRecDepth 100000 in
set_option maxHeartbeats 4000000 in
theorem wtextr_any (bb : Nat) (v : Value) (bs : List Int) (e most : Int) (w : World) (h : RV bb w v bs e) (hr : ∀ b ∈ bs, 0 ≤ b ∧ b ≤ 255) (hn : bs.length ≤ 140737488351232) :
    Calls Tryz.prog 21 #[v, .int .i64 most] w fun en w' => ∃ v', en = .returned (.tuple #[v', .string (textF bs e most).1]) ∧ RV bb w' v' (textF bs e most).2.1 (textF bs e most).2.2 ∧ Below w.heap.size w w' := by
  obtain ⟨A, c, rfl, hC, hc, hbb⟩ := h
  have HBB := Aside0.mk hbb
  clear hbb
  by_cases he : e = 0
  · subst he
    cases bs with
    | nil =>
      have hst := Aside0.mk (fun W => stop_any 3 W)
      have HTS := Aside0.mk (TS.enter w (.slice A 0 c) 0)
      clear hC hc hr hn
      go_enter Tryz.func21, Tryz.ntmps21
      go_wp2_with (fail)
      refine (hst.out _).mono ?_
      rintro en w9 ⟨rfl, hb9⟩
      have HT9 := Aside0.mk (HTS.out.step hb9)
      obtain ⟨⟨q0, q1⟩, ⟨q2, q3⟩, ⟨q4, q5⟩⟩ := HT9.out.facts
      clear hb9 hst
      go_wp2_with (fail)
      refine bodyPost_ret (results_cell_tmp_row rfl _ _ (w.heap.size + 1) 42 #[.slice none 0 0, .int .i64 3] (0, 0) _ rfl (put2 HT9.out.c1) Tryz.underlying42 rfl (by kernel_rfl)) rfl ?_
      unfold textF
      rw [if_neg (by simp)]
      exact ⟨_, rfl, ⟨none, 0, rfl, Kd.C_nil _ _, Nat.le_refl _, fun _ h => by cases h⟩, below_put2 HT9.out.b (by omega)⟩
    | cons b t =>
      have HC := Aside0.mk hC
      have HCC := Aside0.mk hc
      obtain ⟨ad, rfl, hcell⟩ := head_cell hC
      have HTS := Aside0.mk (TS.enter w (.slice (some ad) (t.length + 1) c) 0)
      have hcell2 : ∀ o o' : Obj, ((w.alloc o).alloc o').cell? ad = some (.int .u8 b) := fun o o' => by
        have h1 := hcell
        exact (below_alloc (below_alloc (Below.refl _ w) o) o').cell (World.block_lt_of_cell? w _ h1) |>.trans h1
      have hlt := World.block_lt_of_cell? w _ hcell
      have hz : ((t.length : Int) + 1 == 0) = false := by rw [beq_eq_false_iff_ne]; omega
      by_cases hd : b < 48 ∨ 57 < b
      · have HU := Aside0.mk (show textF (b :: t) 0 most = (⟨#[]⟩, [], 4) by
          unfold textF
          rw [if_neg (by simp)]
          simp only [if_pos hd])
        have hcase : decide (b < 48) = true ∨ (decide (b < 48) = false ∧ decide (b > 57) = true ∧ decide (57 < b) = true) := by
          rcases hd with hd | hd
          · exact .inl (by simpa using hd)
          · by_cases hb : b < 48
            · exact .inl (by simpa using hb)
            · exact .inr ⟨by simpa using hb, by simpa using hd, by simpa using hd⟩
        have hst := Aside0.mk (fun W => stop_any 4 W)
        clear hC hc hr hn hd hlt
        rcases hcase with hb1 | ⟨hb1, hb2, hb3⟩
        all_goals
          go_enter Tryz.func21, Tryz.ntmps21
          go_wp2_with (fail)
          refine (hst.out _).mono ?_
          rintro en w9 ⟨rfl, hb9⟩
          have HT9 := Aside0.mk (HTS.out.step hb9)
          obtain ⟨⟨q0, q1⟩, ⟨q2, q3⟩, ⟨q4, q5⟩⟩ := HT9.out.facts
          clear hb9 hst
          go_wp2_with (fail)
          refine bodyPost_ret (results_cell_tmp_row rfl _ _ (w.heap.size + 1) 42 #[.slice none 0 0, .int .i64 4] (0, 0) _ rfl (put2 HT9.out.c1) Tryz.underlying42 rfl (by kernel_rfl)) rfl ?_
          rw [HU.out]
          exact ⟨_, rfl, ⟨none, 0, rfl, Kd.C_nil _ _, Nat.le_refl _, fun _ h => by cases h⟩, below_put2 HT9.out.b (by omega)⟩
      · have hb1 : decide (b < 48) = false := by simp; omega
        have hb2 : decide (b > 57) = false := by simp; omega
        have hb3 : decide (57 < b) = false := by simp; omega
        have hUf := wuntil_f (b :: t) 58 hn
        have hb0 := hr b (by simp)
        rcases idxI_cases ((b :: t).take (10 + 1)) 58 with ⟨hneg, _⟩ | ⟨i, hi, hie, hia, hib⟩
        · rw [hneg, if_pos rfl] at hUf
          obtain ⟨x, hx⟩ : ∃ x : Int, x = if 10 < (b :: t).length then 4 else 3 := ⟨_, rfl⟩
          have hx0 : (x != 0) = true := by rw [hx, bne_iff_ne]; split <;> decide
          rw [← hx] at hUf
          have HU := Aside0.mk (show textF (b :: t) 0 most = (⟨#[]⟩, [], x) by
            unfold textF
            rw [if_neg (by simp)]
            simp only [if_neg hd]
            unfold untilF
            rw [hneg, if_pos rfl, hx]
            simp)
          have hst := Aside0.mk (fun W => stop_any x W)
          have HUF := Aside0.mk hUf
          have HCU := Aside0.mk (fun W hW => watchfireref01_until.calls 40 (some ad) c (b :: t) 58 10 ⟨#[]⟩ x W hW hc hUf)
          clear hC hc hr hn hd hlt hUf hneg hx hb0
          go_enter Tryz.func21, Tryz.ntmps21
          go_wp2_with (fail)
          refine (HCU.out _ (Kd.C_alloc (Kd.C_alloc HC.out _) _)).mono ?_
          rintro en w3 ⟨rfl, hd3⟩
          have HT3 := Aside0.mk (HTS.out.step hd3.below)
          obtain ⟨⟨a0, a1⟩, ⟨a2, a3⟩, ⟨a4, a5⟩⟩ := HT3.out.facts
          clear hd3 HCU
          go_wp2_with (fail)
          refine (hst.out _).mono ?_
          rintro en w9 ⟨rfl, hb9⟩
          have HT9 := Aside0.mk (HT3.out.step hb9)
          obtain ⟨⟨q0, q1⟩, ⟨q2, q3⟩, ⟨q4, q5⟩⟩ := HT9.out.facts
          clear hb9 hst
          go_wp2_with (fail)
          refine bodyPost_ret (results_cell_tmp_row rfl _ _ (w.heap.size + 1) 42 #[.slice none 0 0, .int .i64 x] (0, 0) _ rfl (put2 HT9.out.c1) Tryz.underlying42 rfl (by kernel_rfl)) rfl ?_
          rw [HU.out]
          exact ⟨_, rfl, ⟨none, 0, rfl, Kd.C_nil _ _, Nat.le_refl _, fun _ h => by cases h⟩, below_put2 HT9.out.b (by omega)⟩
        · have hi' := hi
          rw [List.length_take] at hi'
          have hgi : (b :: t)[i]'(by omega) = 58 := by rw [List.getElem_take] at hia; exact hia
          obtain ⟨i, rfl⟩ : ∃ j, i = j + 1 := ⟨i - 1, by
            rcases Nat.eq_zero_or_pos i with h0 | h0
            · subst h0; simp at hgi; omega
            · omega⟩
          rw [hie, if_neg (by omega), Int.toNat_natCast] at hUf
          obtain ⟨s, hs⟩ : ∃ s, s = strOfNums ((b :: t).take (i + 1)) := ⟨_, rfl⟩
          rw [← hs] at hUf
          have hil : i + 1 ≤ t.length := by simp only [List.length_cons] at hi'; omega
          have hsz : s.size = i + 1 := by rw [hs]; simp only [strOfNums, ByteArray.size]; simp; omega
          obtain ⟨m, ok, hnf, hm, hno⟩ := number_num s (by omega) (by omega) (by rw [hs, bt0_strOf (b := b) (t := t.take i) (by simp) hb0.1 hb0.2]; omega) (by rw [hs, bt0_strOf (b := b) (t := t.take i) (by simp) hb0.1 hb0.2]; omega)
          have HUN := Aside0.mk (show untilF (b :: t) 0 58 10 = (if ok = true then ((m : Int), true, t.drop (i + 1), (0 : Int)) else ((0 : Int), false, ([] : List Int), (4 : Int))) by
            unfold untilF
            rw [hie, if_neg (by omega), Int.toNat_natCast, ← hs, hno]
            cases ok <;> simp)
          have HTX := Aside0.mk (show textF (b :: t) 0 most = (if (untilF (b :: t) 0 58 10).2.1 = false then (⟨#[]⟩, (untilF (b :: t) 0 58 10).2.2.1, (untilF (b :: t) 0 58 10).2.2.2)
            else if 1000000000 < (untilF (b :: t) 0 58 10).1 then (⟨#[]⟩, [], 4)
            else if most < (untilF (b :: t) 0 58 10).1 then (⟨#[]⟩, [], 5)
            else if ((untilF (b :: t) 0 58 10).2.2.1.length : Int) < (untilF (b :: t) 0 58 10).1 then (⟨#[]⟩, [], 3)
            else (strOfNums ((untilF (b :: t) 0 58 10).2.2.1.take (untilF (b :: t) 0 58 10).1.toNat), (untilF (b :: t) 0 58 10).2.2.1.drop (untilF (b :: t) 0 58 10).1.toNat, (untilF (b :: t) 0 58 10).2.2.2)) by
            unfold textF
            rw [if_neg (by simp)]
            simp only [if_neg hd])
          obtain ⟨r, hrr⟩ : ∃ r, r = t.drop (i + 1) := ⟨_, rfl⟩
          rw [← hrr] at HUN
          obtain ⟨A1, hA1, hcut⟩ := cut_bytes (some ad) (t.length + 1) c (s.size + 1) (by omega)
          obtain ⟨n1, hn1⟩ : ∃ n1, n1 = r.length := ⟨_, rfl⟩
          have hnl : t.length + 1 - (s.size + 1) = n1 := by rw [hn1, hrr, List.length_drop]; omega
          obtain ⟨c1, hc1⟩ : ∃ c1, c1 = c - (s.size + 1) := ⟨_, rfl⟩
          rw [hnl, ← hc1] at hcut
          simp only [Int.natCast_add, Int.natCast_one] at hcut
          have hD := Kd.C_drop hC (m := s.size + 1) (by simp only [List.length_cons]; omega) hc
          rw [show (s.size + 1) * (Kd.int .u8).sz = s.size + 1 from Nat.mul_one _, ← hA1, List.drop_succ_cons, hsz, ← hrr, ← hn1] at hD
          have HCR := Aside0.mk hD
          have HC1 := Aside0.mk (show n1 ≤ c1 by rw [hc1, ← hnl]; simp only [List.length_cons] at hc; omega)
          have HN1 := Aside0.mk hn1
          have HCU := Aside0.mk (fun W hW => watchfireref01_until.calls 40 (some ad) c (b :: t) 58 10 s 0 W hW hc hUf)
          have HCN := Aside0.mk (fun W => watchfireref01_number.calls 80 s (m : Int) ok W hnf)
          have hw1 : wrap64 ((s.size : Int) + 1) = (s.size : Int) + 1 := wrapS s.size (by omega)
          have HCUT := Aside0.mk hcut
          have hs0 : decide (0 ≤ (s.size : Int) + 1) = true := nonneg1 _
          have HSZ := Aside0.mk hsz
          have HB1 := Aside0.mk (addr_cut hA1 HBB.out)
          clear hsz hC hc hr hn hd hlt hUf hs hnf hno hrr hA1 hn1 hnl hc1 hD hi hi' hie hia hib hgi hil hb0 hcut
          go_enter Tryz.func21, Tryz.ntmps21
          go_wp2_with (fail)
          refine (HCU.out _ (Kd.C_alloc (Kd.C_alloc HC.out _) _)).mono ?_
          rintro en w3 ⟨rfl, hd3⟩
          have HT3 := Aside0.mk (HTS.out.step hd3.below)
          obtain ⟨⟨a0, a1⟩, ⟨a2, a3⟩, ⟨a4, a5⟩⟩ := HT3.out.facts
          clear hd3 HCU
          go_wp2_with (fail)
          refine (HCN.out _).mono ?_
          rintro en w4 ⟨rfl, hd4⟩
          have HT4 := Aside0.mk (HT3.out.step hd4.below)
          obtain ⟨⟨b0, b1'⟩, ⟨b2, b3⟩, ⟨b4, b5⟩⟩ := HT4.out.facts
          clear hd4 HCN a0 a1 a2 a3 a4 a5
          have hcutA := HCUT.out
          cases ok with
          | false =>
            have hst := Aside0.mk (fun W => stop_any 4 W)
            go_wp2_with (fail)
            refine (hst.out _).mono ?_
            rintro en w9 ⟨rfl, hb9⟩
            have HT9 := Aside0.mk (HT4.out.step hb9)
            obtain ⟨⟨q0, q1⟩, ⟨q2, q3⟩, ⟨q4, q5⟩⟩ := HT9.out.facts
            clear hb9 hst
            go_wp2_with (fail)
            refine bodyPost_ret (results_cell_tmp_row rfl _ _ (w.heap.size + 1) 42 #[.slice none 0 0, .int .i64 4] (0, 0) _ rfl (put2 HT9.out.c1) Tryz.underlying42 rfl (by kernel_rfl)) rfl ?_
            rw [HTX.out, HUN.out]
            simp only [Bool.false_eq_true, if_false, if_true]
            exact ⟨_, rfl, ⟨none, 0, rfl, Kd.C_nil _ _, Nat.le_refl _, fun _ h => by cases h⟩, below_put2 HT9.out.b (by omega)⟩
          | true =>
            by_cases h1 : (1000000000 : Int) < (m : Int)
            · have HX := Aside0.mk h1
              have q1 : decide ((m : Int) > 1000000000) = true := by simp; omega
              have q2 : decide ((1000000000 : Int) < (m : Int)) = true := by simp; omega
              have q3 : decide (1000000000 < m) = true := by simp; omega
              have hst := Aside0.mk (fun W => stop_any 4 W)
              clear h1
              go_wp2_with (fail)
              refine (hst.out _).mono ?_
              rintro en w9 ⟨rfl, hb9⟩
              have HT9 := Aside0.mk (HT4.out.step hb9)
              obtain ⟨⟨q0, q1⟩, ⟨q2, q3⟩, ⟨q4, q5⟩⟩ := HT9.out.facts
              clear hb9 hst
              go_wp2_with (fail)
              refine bodyPost_ret (results_cell_tmp_row rfl _ _ (w.heap.size + 1) 42 #[.slice none 0 0, .int .i64 4] (0, 0) _ rfl (put2 HT9.out.c1) Tryz.underlying42 rfl (by kernel_rfl)) rfl ?_
              rw [HTX.out, HUN.out]
              simp only [if_true, Bool.true_eq_false, if_false]
              rw [if_pos (by have := HX.out; omega)]
              exact ⟨_, rfl, ⟨none, 0, rfl, Kd.C_nil _ _, Nat.le_refl _, fun _ h => by cases h⟩, below_put2 HT9.out.b (by omega)⟩
            · have HX := Aside0.mk h1
              have q1 : decide ((m : Int) > 1000000000) = false := by simp; omega
              have q2 : decide ((1000000000 : Int) < (m : Int)) = false := by simp; omega
              have q3 : decide (1000000000 < m) = false := by simp; omega
              clear h1
              by_cases h2 : most < (m : Int)
              · have HX2 := Aside0.mk h2
                have q4 : decide ((m : Int) > most) = true := by simpa using h2
                have q5 : decide (most < (m : Int)) = true := by simpa using h2
                have hst := Aside0.mk (fun W => stop_any 5 W)
                clear h2
                go_wp2_with (fail)
                refine (hst.out _).mono ?_
                rintro en w9 ⟨rfl, hb9⟩
                have HT9 := Aside0.mk (HT4.out.step hb9)
                obtain ⟨⟨q0, q1⟩, ⟨q2, q3⟩, ⟨q4, q5⟩⟩ := HT9.out.facts
                clear hb9 hst
                go_wp2_with (fail)
                refine bodyPost_ret (results_cell_tmp_row rfl _ _ (w.heap.size + 1) 42 #[.slice none 0 0, .int .i64 5] (0, 0) _ rfl (put2 HT9.out.c1) Tryz.underlying42 rfl (by kernel_rfl)) rfl ?_
                rw [HTX.out, HUN.out]
                simp only [if_true, Bool.true_eq_false, if_false]
                rw [if_neg (by have := HX.out; omega), if_pos (by have := HX2.out; omega)]
                exact ⟨_, rfl, ⟨none, 0, rfl, Kd.C_nil _ _, Nat.le_refl _, fun _ h => by cases h⟩, below_put2 HT9.out.b (by omega)⟩
              · have HX2 := Aside0.mk h2
                have q4 : decide ((m : Int) > most) = false := by simpa using h2
                have q5 : decide (most < (m : Int)) = false := by simpa using h2
                clear h2
                by_cases h3 : (n1 : Int) < (m : Int)
                · have HX3 := Aside0.mk (show ((r.length : Nat) : Int) < (m : Int) by rw [← HN1.out]; exact h3)
                  have q6 : decide ((m : Int) > (n1 : Int)) = true := by simp; omega
                  have q7 : decide ((n1 : Int) < (m : Int)) = true := by simp; omega
                  have q8 : decide (n1 < m) = true := by simp; omega
                  have hst := Aside0.mk (fun W => stop_any 3 W)
                  clear h3
                  go_wp2_with (fail)
                  refine (hst.out _).mono ?_
                  rintro en w9 ⟨rfl, hb9⟩
                  have HT9 := Aside0.mk (HT4.out.step hb9)
                  obtain ⟨⟨q0, q1⟩, ⟨q2, q3⟩, ⟨q4, q5⟩⟩ := HT9.out.facts
                  clear hb9 hst
                  go_wp2_with (fail)
                  refine bodyPost_ret (results_cell_tmp_row rfl _ _ (w.heap.size + 1) 42 #[.slice none 0 0, .int .i64 3] (0, 0) _ rfl (put2 HT9.out.c1) Tryz.underlying42 rfl (by kernel_rfl)) rfl ?_
                  rw [HTX.out, HUN.out]
                  simp only [if_true, Bool.true_eq_false, if_false]
                  rw [if_neg (by have := HX.out; omega), if_neg (by have := HX2.out; omega), if_pos (by have := HX3.out; omega)]
                  exact ⟨_, rfl, ⟨none, 0, rfl, Kd.C_nil _ _, Nat.le_refl _, fun _ h => by cases h⟩, below_put2 HT9.out.b (by omega)⟩
                · have HX3 := Aside0.mk (show ¬ ((r.length : Nat) : Int) < (m : Int) by rw [← HN1.out]; exact h3)
                  have q6 : decide ((m : Int) > (n1 : Int)) = false := by simp; omega
                  have q7 : decide ((n1 : Int) < (m : Int)) = false := by simp; omega
                  have q8 : decide (n1 < m) = false := by simp; omega
                  have hmn : m ≤ n1 := by omega
                  obtain ⟨i0, hi0, hs5⟩ := Option.map_eq_some_iff.1 (show (Tryz.prog.info? 5).map (fun i => i.size) = some 1 by kernel_rfl)
                  have hcut1 := cut_to (P := Tryz.prog) 34 5 .i64 Tryz.underlying34 hi0 A1 n1 c1 (m : Int) (by omega) (by omega) (by have := HC1.out; omega)
                  rw [Int.toNat_natCast] at hcut1
                  obtain ⟨A2, hA2, hcut2⟩ := cut_bytes A1 n1 c1 m hmn
                  have HCB := Aside0.mk hcut1
                  have HCA := Aside0.mk hcut2
                  have HCR4 := Aside0.mk (Kd.C_below HCR.out HT4.out.b)
                  have hD2 := Kd.C_drop (m := m) (c := c1) (show Kd.C (Kd.int .u8) w A1 r.length r by rw [← HN1.out]; exact HCR.out) (by rw [← HN1.out]; exact hmn) (by rw [← HN1.out]; exact HC1.out)
                  rw [show m * (Kd.int .u8).sz = m from Nat.mul_one _, ← hA2] at hD2
                  have HD2 := Aside0.mk hD2
                  have HMN := Aside0.mk hmn
                  have HB2 := Aside0.mk (addr_cut hA2 HB1.out)
                  clear h3 hcut1 hcut2 hA2 hD2 hs5 hi0 i0 hcell2 hmn
                  go_wp2_with (fail)
                  have HCV := Aside0.mk (fun W (hW : Below w.heap.size w W) => show (convert 34 9 (.slice A1 m c1)).run Tryz.prog W = .ok (.string (strOfNums (r.take m))) W by
                    have h1 := Kd.C_take (m := m) (show Kd.C (Kd.int .u8) W A1 r.length r by rw [← HN1.out]; exact Kd.C_below HCR.out hW) (by rw [← HN1.out]; exact HMN.out)
                    have e1 : (r.take m).length = m := by rw [List.length_take]; have := HN1.out; have := HMN.out; omega
                    rw [e1] at h1
                    exact Kd.C_string Tryz.underlying34 Tryz.underlying5 Tryz.underlying9 h1)
                  have GB := Aside0.mk HT4.out.b
                  have GC := Aside0.mk (show ∃ x y, w4.heap[w.heap.size + 1]? = some (.cells #[x, y] 42 (0, 0)) from ⟨_, _, HT4.out.c1⟩)
                  clear b0 b1' b2 b3 b4 b5 HT4 hcutA
                  refine Reg.region_list hmixW [some 76, some 77, some 78, some 79, some 80, some 81, some 82, some 83, none, some 5] [[], [], [0, 1], [2], [], [], [4, 5], [6], [3, 0, 1, 2, 3], [7, 8, 0, 1, 2, 3, 4, 5, 6, 7, 8]] (fun w_ => Below w.heap.size w w_ ∧ ∃ x y, w_.heap[w.heap.size + 1]? = some (.cells #[x, y] 42 (0, 0))) (fun w_ w' => w_.heap[w.heap.size + 1]? = some (.cells #[.slice A2 (n1 - m) (c1 - m), .int .i64 0] 42 (0, 0)) → w'.heap[w.heap.size + 1]? = some (.cells #[.slice A2 (n1 - m) (c1 - m), .int .i64 0] 42 (0, 0))) [(fun v w => v = (.slice A1 n1 c1 : Value)), (fun v w => v = (.int .i64 (m : Int) : Value)), (fun v w => v = (.slice A2 (n1 - m) (c1 - m) : Value)), (fun v w => v = (.agg #[.slice A2 (n1 - m) (c1 - m), .int .i64 0] : Value)), (fun v w => v = (.slice A1 n1 c1 : Value)), (fun v w => v = (.int .i64 (m : Int) : Value)), (fun v w => v = (.slice A1 m c1 : Value)), (fun v w => v = (.string (strOfNums (r.take m)) : Value)), (fun v w_ => w_.heap[w.heap.size + 1]? = some (.cells #[.slice A2 (n1 - m) (c1 - m), .int .i64 0] 42 (0, 0))), (fun v w => v = (.string (strOfNums (r.take m)) : Value))] rfl (by kernel_rfl) (by kernel_rfl) (fun _ h => h) (fun _ _ hr => Reg.mono_cons (fun _ h => h) (Reg.mono_cons (fun _ h => h) (Reg.mono_cons (fun _ h => h) (Reg.mono_cons (fun _ h => h) (Reg.mono_cons (fun _ h => h) (Reg.mono_cons (fun _ h => h) (Reg.mono_cons (fun _ h => h) (Reg.mono_cons (fun _ h => h) (Reg.mono_cons (fun _ h => hr h) (Reg.mono_cons (fun _ h => h) (Reg.mono_nil))))))))))) (⟨GB.out.drew, GC.out⟩) ?hs ?he
                  case hs =>
                    intro xs0 xs hx0 hl0_ wr hG
                    clear hx0
                    obtain ⟨x0, xs1, rfl, hl1⟩ := Reg.len_succ hl0_
                    obtain ⟨x1, xs2, rfl, hl2⟩ := Reg.len_succ hl1
                    obtain ⟨x2, xs3, rfl, hl3⟩ := Reg.len_succ hl2
                    obtain ⟨x3, xs4, rfl, hl4⟩ := Reg.len_succ hl3
                    obtain ⟨x4, xs5, rfl, hl5⟩ := Reg.len_succ hl4
                    obtain ⟨x5, xs6, rfl, hl6⟩ := Reg.len_succ hl5
                    obtain ⟨x6, xs7, rfl, hl7⟩ := Reg.len_succ hl6
                    obtain ⟨x7, xs8, rfl, hl8⟩ := Reg.len_succ hl7
                    obtain ⟨x8, xs9, rfl, hl9⟩ := Reg.len_succ hl8
                    obtain ⟨x9, xs10, rfl, hl10⟩ := Reg.len_succ hl9
                    obtain rfl := List.eq_nil_of_length_eq_zero hl10
                    clear hl0_ hl1 hl2 hl3 hl4 hl5 hl6 hl7 hl8 hl9 hl10
                    simp only [Reg.putL, Act.put, List.setIfInBounds_toArray, List.set_cons_succ, List.set_cons_zero]
                    refine ⟨fun hf _ => ?_, ?_⟩
                    · clear hf
                      refine .inl ⟨by rfl, ?_⟩
                      simp only [Reg.ung]
                      go_wp2; exact ⟨_, rfl, hG, fun h => h, rfl⟩
                    refine ⟨fun hf _ => ?_, ?_⟩
                    · clear hf
                      refine .inl ⟨by rfl, ?_⟩
                      simp only [Reg.ung]
                      go_wp2; exact ⟨_, rfl, hG, fun h => h, rfl⟩
                    refine ⟨fun hf _ => ?_, ?_⟩
                    · obtain ⟨hq0, hq1, -⟩ := hf
                      obtain rfl : x0 = _ := hq0
                      obtain rfl : x1 = _ := hq1
                      refine .inl ⟨by rfl, ?_⟩
                      simp only [Reg.ung]
                      have hcutA := HCA.out; go_wp2; exact ⟨_, rfl, hG, fun h => h, rfl⟩
                    refine ⟨fun hf _ => ?_, ?_⟩
                    · obtain ⟨hq0, -⟩ := hf
                      obtain rfl : x2 = _ := hq0
                      refine .inl ⟨by rfl, ?_⟩
                      simp only [Reg.ung]
                      go_wp2; exact ⟨_, rfl, hG, fun h => h, rfl⟩
                    refine ⟨fun hf _ => ?_, ?_⟩
                    · clear hf
                      refine .inl ⟨by rfl, ?_⟩
                      simp only [Reg.ung]
                      go_wp2; exact ⟨_, rfl, hG, fun h => h, rfl⟩
                    refine ⟨fun hf _ => ?_, ?_⟩
                    · clear hf
                      refine .inl ⟨by rfl, ?_⟩
                      simp only [Reg.ung]
                      go_wp2; exact ⟨_, rfl, hG, fun h => h, rfl⟩
                    refine ⟨fun hf _ => ?_, ?_⟩
                    · obtain ⟨hq0, hq1, -⟩ := hf
                      obtain rfl : x4 = _ := hq0
                      obtain rfl : x5 = _ := hq1
                      refine .inl ⟨by rfl, ?_⟩
                      simp only [Reg.ung]
                      have hcutB := HCB.out; go_wp2; exact ⟨_, rfl, hG, fun h => h, rfl⟩
                    refine ⟨fun hf _ => ?_, ?_⟩
                    · obtain ⟨hq0, -⟩ := hf
                      obtain rfl : x6 = _ := hq0
                      refine .inl ⟨by rfl, ?_⟩
                      simp only [Reg.ung]
                      have hcv := HCV.out _ hG.1; go_wp2; exact ⟨_, rfl, hG, fun h => h, rfl⟩
                    refine ⟨fun hf _ => ?_, ?_⟩
                    · obtain ⟨hq0, -, -, -, -, -⟩ := hf
                      obtain rfl : x3 = _ := hq0
                      refine .inl ⟨by rfl, ?_⟩
                      simp only [Reg.ung]
                      obtain ⟨hgb, gx, gy, hgc⟩ := hG; have HGC := Aside0.mk hgc; have HGB := Aside0.mk hgb; have z0 : wr.cell? ⟨w.heap.size + 1, 0, none⟩ = some gx := (blk_cell hgc 0).trans rfl; have z1 : wr.cell? ⟨w.heap.size + 1, 1, none⟩ = some gy := (blk_cell hgc 1).trans rfl; have zf0 : wr.frozen? ⟨w.heap.size + 1, 0, none⟩ = false := blk_frozen hgc 0; have zf1 : wr.frozen? ⟨w.heap.size + 1, 1, none⟩ = false := blk_frozen hgc 1; clear hgb hgc; go_wp2; exact ⟨undef, rfl, ⟨below_put2 HGB.out (by omega), _, _, put2 HGC.out⟩, fun _ => put2 HGC.out, put2 HGC.out⟩
                    refine ⟨fun hf _ => ?_, ?_⟩
                    · obtain ⟨hq0, -, -, -, -, -, -, -, -, -, -, -⟩ := hf
                      obtain rfl : x7 = _ := hq0
                      refine .inl ⟨by rfl, ?_⟩
                      simp only [Reg.ung]
                      go_wp2; exact ⟨_, rfl, hG, fun h => h, rfl⟩
                    exact trivial
                  case he =>
                    intro xs hl0_ wr hG hf
                    obtain ⟨x0, xs1, rfl, hl1⟩ := Reg.len_succ hl0_
                    obtain ⟨x1, xs2, rfl, hl2⟩ := Reg.len_succ hl1
                    obtain ⟨x2, xs3, rfl, hl3⟩ := Reg.len_succ hl2
                    obtain ⟨x3, xs4, rfl, hl4⟩ := Reg.len_succ hl3
                    obtain ⟨x4, xs5, rfl, hl5⟩ := Reg.len_succ hl4
                    obtain ⟨x5, xs6, rfl, hl6⟩ := Reg.len_succ hl5
                    obtain ⟨x6, xs7, rfl, hl7⟩ := Reg.len_succ hl6
                    obtain ⟨x7, xs8, rfl, hl8⟩ := Reg.len_succ hl7
                    obtain ⟨x8, xs9, rfl, hl9⟩ := Reg.len_succ hl8
                    obtain ⟨x9, xs10, rfl, hl10⟩ := Reg.len_succ hl9
                    obtain rfl := List.eq_nil_of_length_eq_zero hl10
                    clear hl0_ hl1 hl2 hl3 hl4 hl5 hl6 hl7 hl8 hl9 hl10
                    obtain ⟨hq0, hq1, hq2, hq3, hq4, hq5, hq6, hq7, hq8, hq9, -⟩ := hf
                    obtain rfl : x0 = _ := hq0
                    obtain rfl : x1 = _ := hq1
                    obtain rfl : x2 = _ := hq2
                    obtain rfl : x3 = _ := hq3
                    obtain rfl : x4 = _ := hq4
                    obtain rfl : x5 = _ := hq5
                    obtain rfl : x6 = _ := hq6
                    obtain rfl : x7 = _ := hq7
                    replace hq8 : wr.heap[w.heap.size + 1]? = some (.cells #[.slice A2 (n1 - m) (c1 - m), .int .i64 0] 42 (0, 0)) := hq8
                    obtain rfl : x9 = _ := hq9
                    simp only [Reg.putL, Act.put, List.setIfInBounds_toArray, List.set_cons_succ, List.set_cons_zero]
                    have HQ8 := Aside0.mk hq8
                    have HGG := Aside0.mk hG
                    clear hq8 hG
                    go_wp2_with (fail)
                    refine bodyPost_ret (results_cell_tmp_row rfl _ _ (w.heap.size + 1) 42 #[.slice A2 (n1 - m) (c1 - m), .int .i64 0] (0, 0) _ rfl HQ8.out Tryz.underlying42 rfl (by kernel_rfl)) rfl ?_
                    rw [HTX.out, HUN.out]
                    simp only [if_true, Bool.true_eq_false, if_false, Int.toNat_natCast]
                    rw [if_neg (by have := HX.out; omega), if_neg (by have := HX2.out; omega), if_neg (by have := HX3.out; omega)]
                    have hD3 := Kd.C_below HD2.out HGG.out.1
                    have e3 : (r.drop m).length = n1 - m := by rw [List.length_drop, HN1.out]
                    refine ⟨_, rfl, ⟨A2, c1 - m, by rw [e3], hD3, by rw [e3]; have := HC1.out; omega, HB2.out⟩, HGG.out.1⟩
  · have HE := Aside0.mk he
    have he1 : (e != 0) = true := bne_iff_ne.2 he
    obtain ⟨n, hn'⟩ : ∃ n, n = bs.length := ⟨_, rfl⟩
    have HN := Aside0.mk hn'
    have HC := Aside0.mk hC
    have HCC := Aside0.mk hc
    rw [← hn']
    clear hC hc he hn' hn hr
    go_enter Tryz.func21, Tryz.ntmps21
    go_wp2_with (fail)
    refine bodyPost_ret (results_cell_tmp_row rfl _ _ (w.heap.size + 1) 42 #[.slice A n c, .int .i64 e] (0, 0) _ rfl (new2 _ _ _) Tryz.underlying42 rfl (by kernel_rfl)) rfl ?_
    unfold textF
    rw [if_pos HE.out]
    refine ⟨_, rfl, ⟨A, c, by rw [HN.out], Kd.C_alloc (Kd.C_alloc HC.out _) _, HCC.out, HBB.out⟩, below_alloc (below_alloc (Below.refl _ w) _) _⟩
end Go.Proofs.YtjgommaikaeobaaGreatDoor.G
