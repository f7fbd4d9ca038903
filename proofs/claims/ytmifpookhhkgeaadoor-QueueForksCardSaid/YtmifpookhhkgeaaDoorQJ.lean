/- QueueForks: the walk. -/
import Derived.Test.YtmifpookhhkgeaaDoorQY
import Derived.Test.YtmifpookhhkgeaaDoorQW
import Derived.Test.YtmifpookhhkgeaaDoorQM
import Derived.Test.YtmifpookhhkgeaaDoorQK
set_option linter.unusedVariables false
set_option linter.unusedSimpArgs false
namespace Go.Proofs.YtmifpookhhkgeaaDoor.Q
open Go.RowKit Go.Lib Go.Proofs.YtmifpookhhkgeaaDoorW.PrintWords Go.Proofs.YtmifpookhhkgeaaDoorW.PrintMore Go.Proofs.YtmifpookhhkgeaaDoorW.PrintLast Go.Proofs.YtmifpookhhkgeaaDoor.P Go.Proofs.YtmifpookhhkgeaaDoor.G
theorem Qv.lower {B B' : Nat} {w : World} {g : Nat} {v : Value} {l : List S47} {came lost : Int} (h : Qv B w g v l came lost) (hb : B' ≤ B) : Qv B' w g v l came lost :=
  ⟨h.cell, Nat.le_trans hb h.low, h.row.map rfl (fun _ _ hr => Kd.R_lower hr hb), h.nil⟩
/-- What may change of a queue: its cell, the document's box, its row. -/
def S1 (g bx : Nat) (v : Value) (k : Nat) : Prop := k = g ∨ k = bx ∨ v.ownBlock = some k
structure Su (W0 w : World) (g bx : Nat) (v u : Value) (l L : List S47) (came lost : Int) (N : Nat) : Prop where
  q : Qv W0.heap.size w g v l came lost
  inv : Inv l L came lost N
  low : Below W0.heap.size W0 w
  uv : UV w u (List.map cv L) (S1 g bx v)
theorem Su.below {W0 w w' : World} {g bx : Nat} {v u : Value} {l L : List S47} {came lost : Int} {N : Nat} (h : Su W0 w g bx v u l L came lost N) (hb : Below w.heap.size w w') : Su W0 w' g bx v u l L came lost N :=
  ⟨h.q.below hb, h.inv, below_then h.low h.low.size hb, h.uv.below hb⟩
theorem Su.g6 {W0 w w' : World} {g bx : Nat} {v u : Value} {l L : List S47} {came lost : Int} {N : Nat} {cells : Array Value} (h : Su W0 w g bx v u l L came lost N) (hG : G6 w w' bx) (hp : w.heap[bx]? = some (.cells cells 38 (0, 0))) (hlo : W0.heap.size ≤ bx) : Su W0 w' g bx v u l L came lost N :=
  ⟨h.q.g6 hG hp, h.inv, hG.toBelow h.low hlo, h.uv.kept hG.kept (fun k hk => .inl (.inr (.inl hk))) (fun k hk => .inl hk)⟩
theorem q_blk {B : Nat} {w w' : World} {g : Nat} {v : Value} {l : List S47} {came lost : Int} (h : Qv B w g v l came lost) (hk : Kept w w' (fun k => k = g ∨ v.ownBlock = some k)) {k t : Nat} {cells : Array Value} (hb : w.heap[k]? = some (.cells cells t (0, 0))) (h1 : t ≠ 55) (h2 : t ≠ 47) : w'.heap[k]? = some (.cells cells t (0, 0)) := by
  refine blk_kept hb hk (fun e => ?_)
  rcases e with e | e
  · rw [e, h.cell] at hb
    injection hb with hb
    injection hb with _ hb _
    exact h1 hb.symm
  · obtain ⟨_, _, _, cells', hc⟩ := h.row.bound e
    rw [hc] at hb
    injection hb with hb
    injection hb with _ hb _
    exact h2 hb.symm
theorem do_su {W0 w : World} {g bx : Nat} {v u : Value} {l L : List S47} {came lost : Int} {N : Nat} (h : Su W0 w g bx v u l L came lost N) (a : S42) (hT : TabS W0) (hN : N ≤ 1000) (hr : a.f2 ≤ 9223372036854775807) {cells : Array Value} (hbx : w.heap[bx]? = some (.cells cells 38 (0, 0))) :
    Calls Tryd.prog 15 #[.pointer (some ⟨g, 0, none⟩), .agg #[u, .int .i64 came, .int .i64 lost], .agg (enc42 a).toArray] w fun en w' => ∃ v' A' n' c' l' L' came' lost', en = .returned (.tuple #[.agg #[.slice A' n' c', .int .i64 came', .int .i64 lost'], .bool true]) ∧ Su W0 w' g bx v' (.slice A' n' c') l' L' came' lost' (N + 1) ∧ w'.heap[bx]? = some (.cells cells 38 (0, 0)) := by
  refine (do_two g v l L came lost N u a (S1 g bx v) W0 w hT h.low h.q (fun k hk => ?_) (.inl rfl) (fun b hb => .inr (.inr hb)) h.uv h.inv hN hr).mono ?_
  · rcases hk with rfl | rfl | hk
    · exact h.q.lt
    · exact blk_lt hbx
    · exact (h.q.row.bound hk).2.2.1
  · rintro en w' ⟨v', u', l', L', came', lost', rfl, h1, h2, h3, h4, h5, h6⟩
    obtain ⟨A', c', rfl, _, _⟩ := h2.reads
    refine ⟨v', A', _, c', l', L', came', lost', rfl, ⟨h1, h3, h4, h2.mono (fun k hk => ?_)⟩, q_blk h.q h5 hbx (by decide) (by decide)⟩
    rcases hk with hk | hk | hk
    · exact .inl (.inl (.inl hk))
    · exact .inl (.inl (.inr (.inl hk)))
    · exact .inl (.inr hk)
/-- Both queues, behind the fork. -/
structure Fk (W0 w : World) (g bx : Nat) (v u : Value) (l L : List S47) (cm lo : Int) (N f b2 : Nat) (vf uf : Value) (lf Lf : List S47) (cmf lof : Int) (M : Nat) : Prop where
  qf : Qv W0.heap.size w f vf lf cmf lof
  uvf : UV w uf (List.map cv Lf) (S1 f b2 vf)
  invf : Inv lf Lf cmf lof M
  low : Below W0.heap.size W0 w
  q : Qv W0.heap.size w g v l cm lo
  uv : UV w u (List.map cv L) (S1 f b2 vf)
  inv : Inv l L cm lo N
  box : w.heap[bx]? = some (.cells #[u, .int .i64 cm, .int .i64 lo] 38 (0, 0))
  gf : g ≠ f
  bb : bx ≠ b2
  vv : ∀ b, v.ownBlock = some b → vf.ownBlock ≠ some b
section
variable {W0 w w' : World} {g bx : Nat} {v u : Value} {l L : List S47} {cm lo : Int} {N f b2 : Nat} {vf uf : Value} {lf Lf : List S47} {cmf lof : Int} {M : Nat}
theorem Fk.below (h : Fk W0 w g bx v u l L cm lo N f b2 vf uf lf Lf cmf lof M) (hb : Below w.heap.size w w') : Fk W0 w' g bx v u l L cm lo N f b2 vf uf lf Lf cmf lof M :=
  ⟨h.qf.below hb, h.uvf.below hb, h.invf, below_then h.low h.low.size hb, h.q.below hb, h.uv.below hb, h.inv, (hb.block _ (blk_lt h.box)).trans h.box, h.gf, h.bb, h.vv⟩
theorem Fk.g6 {cells : Array Value} (h : Fk W0 w g bx v u l L cm lo N f b2 vf uf lf Lf cmf lof M) (hG : G6 w w' b2) (hp : w.heap[b2]? = some (.cells cells 38 (0, 0))) (hlo : W0.heap.size ≤ b2) : Fk W0 w' g bx v u l L cm lo N f b2 vf uf lf Lf cmf lof M :=
  ⟨h.qf.g6 hG hp, h.uvf.kept hG.kept (fun k hk => .inl (.inr (.inl hk))) (fun k hk => .inl hk), h.invf, hG.toBelow h.low hlo, h.q.g6 hG hp, h.uv.kept hG.kept (fun k hk => .inl (.inr (.inl hk))) (fun k hk => .inl hk), h.inv, (hG.block _ (blk_lt h.box) h.bb).trans h.box, h.gf, h.bb, h.vv⟩
theorem do_fk (h : Fk W0 w g bx v u l L cm lo N f b2 vf uf lf Lf cmf lof M) (a : S42) (hT : TabS W0) (hN : M ≤ 1000) (hr : a.f2 ≤ 9223372036854775807) {cells : Array Value} (hbx : w.heap[b2]? = some (.cells cells 38 (0, 0))) :
    Calls Tryd.prog 15 #[.pointer (some ⟨f, 0, none⟩), .agg #[uf, .int .i64 cmf, .int .i64 lof], .agg (enc42 a).toArray] w fun en w' => ∃ v' A' n' c' l' L' came' lost', en = .returned (.tuple #[.agg #[.slice A' n' c', .int .i64 came', .int .i64 lost'], .bool true]) ∧ Fk W0 w' g bx v u l L cm lo N f b2 v' (.slice A' n' c') l' L' came' lost' (M + 1) ∧ w'.heap[b2]? = some (.cells cells 38 (0, 0)) := by
  have hlt : ∀ k, S1 f b2 vf k → k < w.heap.size := fun k hk => by
    rcases hk with rfl | rfl | hk
    · exact h.qf.lt
    · exact blk_lt hbx
    · exact (h.qf.row.bound hk).2.2.1
  refine (do_two f vf lf Lf cmf lof M uf a (S1 f b2 vf) W0 w hT h.low h.qf hlt (.inl rfl) (fun b hb => .inr (.inr hb)) h.uvf h.invf hN hr).mono ?_
  rintro en w' ⟨v', u', l', L', came', lost', rfl, h1, h2, h3, h4, h5, h6⟩
  obtain ⟨A', c', rfl, _, _⟩ := h2.reads
  refine ⟨v', A', _, c', l', L', came', lost', rfl, ⟨h1, h2.mono (fun k hk => ?_), h3, h4, h.q.kept h5 (fun e => ?_) (fun b hb e => ?_), h.uv.kept h5 (fun k hk => ?_) (fun k hk => ?_), h.inv, q_blk h.qf h5 h.box (by decide) (by decide), h.gf, h.bb, fun b hb e => ?_⟩, q_blk h.qf h5 hbx (by decide) (by decide)⟩
  · rcases hk with hk | hk | hk
    · exact .inl (.inl (.inl hk))
    · exact .inl (.inl (.inr (.inl hk)))
    · exact .inl (.inr hk)
  · rcases e with e | e
    · exact h.gf e
    · obtain ⟨_, _, _, cells', hc⟩ := h.qf.row.bound e
      rw [h.q.cell] at hc
      injection hc with hc
      injection hc with _ hc _
      exact absurd hc (by decide)
  · rcases e with e | e
    · obtain ⟨_, _, _, cells', hc⟩ := h.q.row.bound hb
      rw [e, h.qf.cell] at hc
      injection hc with hc
      injection hc with _ hc _
      exact absurd hc (by decide)
    · exact h.vv b hb e
  · rcases hk with hk | hk
    · exact .inl (.inl hk)
    · exact .inl (.inr (.inr hk))
  · rcases hk with hk | hk | hk
    · exact .inl (.inl hk)
    · exact .inl (.inr (.inl hk))
    · rcases h6 k hk with h7 | h7
      · exact .inl (.inr (.inr h7))
      · exact .inr h7
  · rcases h6 b e with h7 | h7
    · exact h.vv b hb h7
    · have := (h.q.row.bound hb).2.2.1; omega
end
theorem push_none (e0 : ByteArray) (e1 e2 : Int) (e3 : ByteArray) (e4 : Int) (w : World) : Calls Tryd.prog 9 #[.pointer none, .agg #[.string e0, .int .i64 e1, .int .u16 e2, .string e3, .int .i64 e4]] w fun en w' => en = .returned (.bool false) ∧ Below w.heap.size w w' := by
  go_enter Tryd.func9, Tryd.ntmps9
  go_wp2_with (fail)
  go_ret
  exact ⟨rfl, below_alloc (Below.refl _ _) _⟩
theorem take_none (w : World) : Calls Tryd.prog 11 #[.pointer none, .int .i64 9, .int .i64 9] w fun en w' => en = .returned (.slice none 0 0) ∧ w' = w := by
  go_enter Tryd.func11, Tryd.ntmps11
  go_wp2_with (fail)
  go_ret
  exact ⟨rfl, rfl⟩
theorem list_none (w : World) : Calls Tryd.prog 16 #[.pointer none] w fun en w' => en = .returned (.slice none 0 0) ∧ w' = w := by
  go_enter Tryd.func16, Tryd.ntmps16
  go_wp2_with (fail)
  go_ret
  exact ⟨rfl, rfl⟩
theorem lost_none (w : World) : Calls Tryd.prog 13 #[.pointer none] w fun en w' => en = .returned (.int .i64 0) ∧ w' = w := by
  go_enter Tryd.func13, Tryd.ntmps13
  go_wp2_with (fail)
  go_ret
  exact ⟨rfl, rfl⟩
theorem len_none (w : World) : Calls Tryd.prog 12 #[.pointer none] w fun en w' => en = .returned (.int .i64 0) ∧ w' = w := by
  go_enter Tryd.func12, Tryd.ntmps12
  go_wp2_with (fail)
  go_ret
  exact ⟨rfl, rfl⟩
theorem fork_none (w : World) : Calls Tryd.prog 21 #[.pointer none] w fun en w' => en = .returned (.pointer none) ∧ w' = w := by
  go_enter Tryd.func21, Tryd.ntmps21
  go_wp2_with (fail)
  go_ret
  exact ⟨rfl, rfl⟩
set_option maxHeartbeats 8000000 in
set_option maxRecDepth 100000 in
theorem forks_any (A : Option Addr) (c : Nat) (l0 : List S42) (D : Option Addr) (d : Nat) (l1 : List S42) (W0 : World) (hC : Kd.C k42 W0 A l0.length l0) (hc : l0.length ≤ c) (hok : ActsOk l0) (hD : Kd.C k42 W0 D l1.length l1) (hd : l1.length ≤ d) (hok2 : ActsOk l1) (hT : TabS W0) :
    Calls Tryd.prog 7 #[.slice A l0.length c, .slice D l1.length d] W0 fun e w' => e = .returned (.bool true) ∧ Below W0.heap.size W0 w' := by
  have HC := Aside0.mk hC
  have HD := Aside0.mk hD
  have HT := Aside0.mk hT
  have HOK := Aside0.mk hok
  have HOK2 := Aside0.mk hok2
  obtain ⟨n, hn⟩ : ∃ n, n = l0.length := ⟨_, rfl⟩
  obtain ⟨m, hm⟩ : ∃ m, m = l1.length := ⟨_, rfl⟩
  rw [← hn] at hc ⊢
  rw [← hm] at hd ⊢
  have HN := Aside0.mk hn
  have HM := Aside0.mk hm
  clear hC hD hT hok hok2 hn hm
  by_cases hbig : n > 120 ∨ m > 120
  · obtain ⟨b1, hb1⟩ : ∃ b1, decide ((n : Int) > 120) = b1 := ⟨_, rfl⟩
    have hb1' : decide ((120 : Int) < (n : Int)) = b1 := hb1
    have hb1'' : decide (120 < n) = b1 := by rw [← hb1]; exact decide_eq_decide.2 (by omega)
    obtain ⟨b2, hb2⟩ : ∃ b2, decide ((m : Int) > 120) = b2 := ⟨_, rfl⟩
    have hb2' : decide ((120 : Int) < (m : Int)) = b2 := hb2
    have hb2'' : decide (120 < m) = b2 := by rw [← hb2]; exact decide_eq_decide.2 (by omega)
    have hor : b1 = true ∨ b2 = true := by rw [← hb1, ← hb2]; rcases hbig with h | h <;> simp <;> omega
    have HA := Aside0.mk (awake_any W0 HT.out)
    clear hbig
    cases b1 with
    | true =>
      clear hor hb2 hb2' hb2''
      go_enter Tryd.func7, Tryd.ntmps7
      go_wp2_with ((go_at_call 14; refine HA.out.mono ?_; rintro e w1 ⟨rfl, hb⟩; have HB := Aside0.mk hb; clear hb))
      go_ret
      exact ⟨rfl, HB.out⟩
    | false =>
      obtain rfl : b2 = true := by rcases hor with h | h; (cases h); exact h
      go_enter Tryd.func7, Tryd.ntmps7
      go_wp2_with ((go_at_call 14; refine HA.out.mono ?_; rintro e w1 ⟨rfl, hb⟩; have HB := Aside0.mk hb; clear hb))
      go_ret
      exact ⟨rfl, HB.out⟩
  · have hn120 : n ≤ 120 := by omega
    have hm120 : m ≤ 120 := by omega
    have hb1 : decide ((n : Int) > 120) = false := decide_eq_false (by omega)
    have hb2 : decide ((120 : Int) < (n : Int)) = false := hb1
    have hb3 : decide (120 < n) = false := decide_eq_false (by omega)
    have hb4 : decide ((m : Int) > 120) = false := decide_eq_false (by omega)
    have hb5 : decide ((120 : Int) < (m : Int)) = false := hb4
    have hb6 : decide (120 < m) = false := decide_eq_false (by omega)
    clear hbig
    go_enter Tryd.func7, Tryd.ntmps7
    go_wp2_with (fail)
    refine (new_any W0.heap.size W0 (Nat.le_refl _)).mono ?_
    rintro e w1 ⟨g, rfl, hq, hg, hbl⟩
    have HQ1 := Aside0.mk hq
    have HL1 := Aside0.mk hbl
    clear hq hg hbl hb1 hb2 hb3 hb4 hb5 hb6
    go_wp2_with (fail)
    obtain ⟨bx, hbx0⟩ : ∃ bx, bx = w1.heap.size := ⟨_, rfl⟩
    obtain ⟨w2, hw2⟩ : ∃ w2, w2 = w1.alloc (.cells #[.slice none 0 0, .int .i64 0, .int .i64 0] 38) := ⟨_, rfl⟩
    have HBK := Aside0.mk (show w2.heap[bx]? = some (.cells #[.slice none 0 0, .int .i64 0, .int .i64 0] 38 (0, 0)) by rw [hw2, hbx0]; exact heap_alloc_new w1 _)
    have HB12 := show Below w1.heap.size w1 w2 by rw [hw2]; exact below_alloc (Below.refl _ _) _
    have HS2 := Aside0.mk (show Su W0 w2 g bx (.slice none 0 0) (.slice none 0 0) [] [] 0 0 0 from ⟨HQ1.out.below HB12, Inv.start, below_then HL1.out HL1.out.size HB12, Kd.V_nil _ _ _ _ _⟩)
    have hbx : W0.heap.size ≤ bx := by rw [hbx0]; exact HL1.out.size
    try rw [← hw2]
    try rw [← hbx0]
    clear hbx0 hw2 HB12 HQ1 HL1
    go_loopg [7] (n + 1) (fun kq v7 wr => ∃ (j : Nat) (v : Value) (A0 : Option Addr) (n0 c0 : Nat) (l L : List S47) (cm0 lo0 : Int), v7 = .int .i64 (j : Int) ∧ Aside0 (j ≤ n ∧ j + kq = n + 1) ∧ Aside0 (Su W0 wr g bx v (.slice A0 n0 c0) l L cm0 lo0 j) ∧ Aside0 (wr.heap[bx]? = some (.cells #[.slice A0 n0 c0, .int .i64 cm0, .int .i64 lo0] 38 (0, 0))))
    case atStart => exact ⟨0, _, none, 0, 0, [], [], 0, 0, rfl, ⟨by omega⟩, HS2, HBK⟩
    case round =>
      clear HS2 HBK
      obtain ⟨j, v, A0, n0, c0, l, L, cm0, lo0, rfl, HJ, HS, HBK⟩ := hrel
      obtain ⟨hj0, hjk⟩ := HJ.out
      by_cases hlt : j < n
      · cases gk with
        | zero => exact absurd hjk (by omega)
        | succ k1 =>
          have hlt1 : decide ((j : Int) < (n : Int)) = true := decide_eq_true (by omega)
          have hlt2 : decide (j < n) = true := decide_eq_true hlt
          obtain ⟨ad, hA, y, hye, f0, f1, f2, f3, f4, f5, f6, f7⟩ := at_T42 HC.out j (by have := HN.out; omega)
          subst hA
          have hyok : y.f2 ≤ 9223372036854775807 := by rw [hye]; exact HOK.out _ (List.getElem_mem _)
          clear hye
          obtain ⟨wd, hwd⟩ : ∃ wd, wd = wr.drew := ⟨_, rfl⟩
          have HD := Aside0.mk (show Below wr.heap.size wr wd by rw [hwd]; exact (Below.refl _ _).drew)
          have HWD := Aside0.mk hwd
          clear hwd
          go_wp2_with (fail)
          have HSD := Aside0.mk (HS.out.below HD.out)
          have hbk := (HD.out.block _ (blk_lt HBK.out)).trans HBK.out
          have hB := HSD.out.low
          replace f0 := (hB.cell (World.block_lt_of_cell? W0 _ f0)).trans f0
          replace f1 := (hB.cell (World.block_lt_of_cell? W0 _ f1)).trans f1
          replace f2 := (hB.cell (World.block_lt_of_cell? W0 _ f2)).trans f2
          replace f3 := (hB.cell (World.block_lt_of_cell? W0 _ f3)).trans f3
          replace f4 := (hB.cell (World.block_lt_of_cell? W0 _ f4)).trans f4
          replace f5 := (hB.cell (World.block_lt_of_cell? W0 _ f5)).trans f5
          replace f6 := (hB.cell (World.block_lt_of_cell? W0 _ f6)).trans f6
          replace f7 := (hB.cell (World.block_lt_of_cell? W0 _ f7)).trans f7
          have cz := (blk_cell hbk 0).trans rfl
          have cy := (blk_cell hbk 1).trans rfl
          have cx := (blk_cell hbk 2).trans rfl
          have hdo := do_su HSD.out y HT.out (by omega) hyok hbk
          unfold enc42 at hdo
          have HDO := Aside0.mk hdo
          clear hdo hbk hB HSD HS HBK HD
          refine Reg.region_pivot (Γ := (Value) × (Option Addr) × (Nat) × (Nat) × (List S47) × (List S47) × (Int) × (Int)) hmix [some 32, some 33, some 34, some 35, some 36, some 37, some 38, some 31, some 39, some 40, none] [[], [], [], [], [2, 3], [4], [0, 1, 5], [6], [7], [7], [8, 6, 0, 1, 2, 3, 4, 5, 6, 7, 8]] 6 10 [0, 1, 2, 3, 4, 5] (fun w => w = wd) (fun γ d w => Su W0 w g bx γ.1 (.slice γ.2.1 γ.2.2.1 γ.2.2.2.1) γ.2.2.2.2.1 γ.2.2.2.2.2.1 γ.2.2.2.2.2.2.1 γ.2.2.2.2.2.2.2 (j + 1) ∧ w.heap[bx]? = some (.cells #[bif d then .slice γ.2.1 γ.2.2.1 γ.2.2.2.1 else .slice A0 n0 c0, bif d then .int .i64 γ.2.2.2.2.2.2.1 else .int .i64 cm0, bif d then .int .i64 γ.2.2.2.2.2.2.2 else .int .i64 lo0] 38 (0, 0))) [(fun v => v = (.pointer (some ⟨g, 0, none⟩) : Value)), (fun v => v = (.agg #[.slice A0 n0 c0, .int .i64 cm0, .int .i64 lo0] : Value)), (fun v => v = (.slice (some ad) n c : Value)), (fun v => v = (.int .i64 (j : Int) : Value)), (fun v => v = (.pointer (some (ad.add (j * 8))) : Value)), (fun v => v = (.agg #[.bool y.f0, .string y.f1.f0, .int .i64 y.f1.f1, .int .u16 y.f1.f2, .string y.f1.f3, .int .i64 y.f1.f4, .int .i64 y.f2, .int .i64 y.f3] : Value)), (fun _ => False), (fun _ => False), (fun _ => False), (fun _ => False), (fun _ => False)] (fun γ => [(fun v => v = (.pointer (some ⟨g, 0, none⟩) : Value)), (fun v => v = (.agg #[.slice A0 n0 c0, .int .i64 cm0, .int .i64 lo0] : Value)), (fun v => v = (.slice (some ad) n c : Value)), (fun v => v = (.int .i64 (j : Int) : Value)), (fun v => v = (.pointer (some (ad.add (j * 8))) : Value)), (fun v => v = (.agg #[.bool y.f0, .string y.f1.f0, .int .i64 y.f1.f1, .int .u16 y.f1.f2, .string y.f1.f3, .int .i64 y.f1.f4, .int .i64 y.f2, .int .i64 y.f3] : Value)), (fun v => v = (.tuple #[.agg #[.slice γ.2.1 γ.2.2.1 γ.2.2.2.1, .int .i64 γ.2.2.2.2.2.2.1, .int .i64 γ.2.2.2.2.2.2.2], .bool true] : Value)), (fun v => v = (.tuple #[.agg #[.slice γ.2.1 γ.2.2.1 γ.2.2.2.1, .int .i64 γ.2.2.2.2.2.2.1, .int .i64 γ.2.2.2.2.2.2.2], .bool true] : Value)), (fun v => v = (.agg #[.slice γ.2.1 γ.2.2.1 γ.2.2.2.1, .int .i64 γ.2.2.2.2.2.2.1, .int .i64 γ.2.2.2.2.2.2.2] : Value)), (fun v => v = (.bool true : Value)), (fun v => True)]) rfl (by kernel_rfl) (by kernel_rfl) (fun γ => Reg.imp_cons (fun _ h => h) (Reg.imp_cons (fun _ h => h) (Reg.imp_cons (fun _ h => h) (Reg.imp_cons (fun _ h => h) (Reg.imp_cons (fun _ h => h) (Reg.imp_cons (fun _ h => h) (Reg.imp_cons (fun _ h => h.elim) (Reg.imp_cons (fun _ h => h.elim) (Reg.imp_cons (fun _ h => h.elim) (Reg.imp_cons (fun _ h => h.elim) (Reg.imp_cons (fun _ h => h.elim) (Reg.imp_nil (γ := True))))))))))))) (HWD.out.symm) ?hs ?he
          case hs =>
            intro xs0 xs hx0 hl0_
            clear hx0
            obtain ⟨x0, xs1, rfl, hl1⟩ := Reg.len_succ hl0_
            obtain ⟨x1, xs2, rfl, hl2⟩ := Reg.len_succ hl1
            obtain ⟨x2, xs3, rfl, hl3⟩ := Reg.len_succ hl2
            obtain ⟨x3, xs4, rfl, hl4⟩ := Reg.len_succ hl3
            obtain ⟨x4, xs5, rfl, hl5⟩ := Reg.len_succ hl4
            obtain ⟨x5, xs6, rfl, hl6⟩ := Reg.len_succ hl5
            obtain ⟨x6, xs7, rfl, hl7⟩ := Reg.len_succ hl6
            obtain ⟨x7, xs8, rfl, hl8⟩ := Reg.len_succ hl7
            obtain ⟨x8, xs9, rfl, hl9⟩ := Reg.len_succ hl8
            obtain ⟨x9, xs10, rfl, hl10⟩ := Reg.len_succ hl9
            obtain ⟨x10, xs11, rfl, hl11⟩ := Reg.len_succ hl10
            obtain rfl := List.eq_nil_of_length_eq_zero hl11
            clear hl0_ hl1 hl2 hl3 hl4 hl5 hl6 hl7 hl8 hl9 hl10 hl11
            simp only [Reg.putL, Act.put, List.setIfInBounds_toArray, List.set_cons_succ, List.set_cons_zero]
            refine ⟨fun wr hG hf _ => ?_, ?_⟩
            · skip
              replace hG : wr = wd := hG
              clear hf
              refine .inl ⟨by rfl, ?_⟩
              simp only [Reg.ung]
              subst hG
              go_wp2; exact ⟨_, rfl, rfl, rfl⟩
            refine ⟨fun wr hG hf _ => ?_, ?_⟩
            · skip
              replace hG : wr = wd := hG
              clear hf
              refine .inl ⟨by rfl, ?_⟩
              simp only [Reg.ung]
              subst hG
              go_wp2; exact ⟨_, rfl, rfl, rfl⟩
            refine ⟨fun wr hG hf _ => ?_, ?_⟩
            · skip
              replace hG : wr = wd := hG
              clear hf
              refine .inl ⟨by rfl, ?_⟩
              simp only [Reg.ung]
              subst hG
              go_wp2; exact ⟨_, rfl, rfl, rfl⟩
            refine ⟨fun wr hG hf _ => ?_, ?_⟩
            · skip
              replace hG : wr = wd := hG
              clear hf
              refine .inl ⟨by rfl, ?_⟩
              simp only [Reg.ung]
              subst hG
              go_wp2; exact ⟨_, rfl, rfl, rfl⟩
            refine ⟨fun wr hG hf _ => ?_, ?_⟩
            · skip
              replace hG : wr = wd := hG
              obtain ⟨hq0, hq1, -⟩ := hf
              obtain rfl : x2 = (.slice (some ad) n c : Value) := hq0
              obtain rfl : x3 = (.int .i64 (j : Int) : Value) := hq1
              refine .inl ⟨by rfl, ?_⟩
              simp only [Reg.ung]
              subst hG
              go_wp2; exact ⟨_, rfl, rfl, rfl⟩
            refine ⟨fun wr hG hf _ => ?_, ?_⟩
            · skip
              replace hG : wr = wd := hG
              obtain ⟨hq0, -⟩ := hf
              obtain rfl : x4 = (.pointer (some (ad.add (j * 8))) : Value) := hq0
              refine .inl ⟨by rfl, ?_⟩
              simp only [Reg.ung]
              subst hG
              go_wp2; exact ⟨_, rfl, rfl, rfl⟩
            refine ⟨fun wr hG hf _ => ?_, ?_⟩
            · skip
              replace hG : wr = wd := hG
              obtain ⟨hq0, hq1, hq2, -⟩ := hf
              obtain rfl : x0 = (.pointer (some ⟨g, 0, none⟩) : Value) := hq0
              obtain rfl : x1 = (.agg #[.slice A0 n0 c0, .int .i64 cm0, .int .i64 lo0] : Value) := hq1
              obtain rfl : x5 = (.agg #[.bool y.f0, .string y.f1.f0, .int .i64 y.f1.f1, .int .u16 y.f1.f2, .string y.f1.f3, .int .i64 y.f1.f4, .int .i64 y.f2, .int .i64 y.f3] : Value) := hq2
              refine .inl ⟨by rfl, ?_⟩
              simp only [Reg.ung]
              subst hG
              go_wp2_with ((go_at_call 15; refine HDO.out.mono ?_; rintro e w' ⟨v1, A1, n1, c1, l1, L1, cm1, lo1, rfl, hS1, hk1⟩)); exact ⟨_, rfl, ⟨v1, A1, n1, c1, l1, L1, cm1, lo1⟩, ⟨hS1, hk1⟩, rfl⟩
            refine ⟨fun γ d wr hG hf _ => ?_, ?_⟩
            · skip
              obtain ⟨v1, A1, n1, c1, l1, L1, cm1, lo1⟩ := γ
              replace hG : Su W0 wr g bx v1 (.slice A1 n1 c1) l1 L1 cm1 lo1 (j + 1) ∧ wr.heap[bx]? = some (.cells #[bif d then .slice A1 n1 c1 else .slice A0 n0 c0, bif d then .int .i64 cm1 else .int .i64 cm0, bif d then .int .i64 lo1 else .int .i64 lo0] 38 (0, 0)) := hG
              obtain ⟨hq0, -⟩ := hf
              obtain rfl : x6 = (.tuple #[.agg #[.slice A1 n1 c1, .int .i64 cm1, .int .i64 lo1], .bool true] : Value) := hq0
              refine .inl ⟨by rfl, ?_⟩
              simp only [Reg.ung]
              go_wp2
              exact ⟨_, rfl, by simpa using hG, rfl⟩
            refine ⟨fun γ d wr hG hf _ => ?_, ?_⟩
            · skip
              obtain ⟨v1, A1, n1, c1, l1, L1, cm1, lo1⟩ := γ
              replace hG : Su W0 wr g bx v1 (.slice A1 n1 c1) l1 L1 cm1 lo1 (j + 1) ∧ wr.heap[bx]? = some (.cells #[bif d then .slice A1 n1 c1 else .slice A0 n0 c0, bif d then .int .i64 cm1 else .int .i64 cm0, bif d then .int .i64 lo1 else .int .i64 lo0] 38 (0, 0)) := hG
              obtain ⟨hq0, -⟩ := hf
              obtain rfl : x7 = (.tuple #[.agg #[.slice A1 n1 c1, .int .i64 cm1, .int .i64 lo1], .bool true] : Value) := hq0
              refine .inl ⟨by rfl, ?_⟩
              simp only [Reg.ung]
              go_wp2
              exact ⟨_, rfl, by simpa using hG, rfl⟩
            refine ⟨fun γ d wr hG hf _ => ?_, ?_⟩
            · skip
              obtain ⟨v1, A1, n1, c1, l1, L1, cm1, lo1⟩ := γ
              replace hG : Su W0 wr g bx v1 (.slice A1 n1 c1) l1 L1 cm1 lo1 (j + 1) ∧ wr.heap[bx]? = some (.cells #[bif d then .slice A1 n1 c1 else .slice A0 n0 c0, bif d then .int .i64 cm1 else .int .i64 cm0, bif d then .int .i64 lo1 else .int .i64 lo0] 38 (0, 0)) := hG
              obtain ⟨hq0, -⟩ := hf
              obtain rfl : x7 = (.tuple #[.agg #[.slice A1 n1 c1, .int .i64 cm1, .int .i64 lo1], .bool true] : Value) := hq0
              refine .inl ⟨by rfl, ?_⟩
              simp only [Reg.ung]
              go_wp2
              exact ⟨_, rfl, by simpa using hG, rfl⟩
            refine ⟨fun γ d wr hG hf _ => ?_, ?_⟩
            · skip
              obtain ⟨v1, A1, n1, c1, l1, L1, cm1, lo1⟩ := γ
              replace hG : Su W0 wr g bx v1 (.slice A1 n1 c1) l1 L1 cm1 lo1 (j + 1) ∧ wr.heap[bx]? = some (.cells #[bif d then .slice A1 n1 c1 else .slice A0 n0 c0, bif d then .int .i64 cm1 else .int .i64 cm0, bif d then .int .i64 lo1 else .int .i64 lo0] 38 (0, 0)) := hG
              obtain ⟨hq0, -, -, -, -, -, -, -, -, -, -, -⟩ := hf
              obtain rfl : x8 = (.agg #[.slice A1 n1 c1, .int .i64 cm1, .int .i64 lo1] : Value) := hq0
              refine .inl ⟨by rfl, ?_⟩
              simp only [Reg.ung]
              obtain ⟨hS1, hb1⟩ := hG; have cz0 := (blk_cell hb1 0).trans rfl; have cz1 := (blk_cell hb1 1).trans rfl; have cz2 := (blk_cell hb1 2).trans rfl; have fz0 := blk_frozen hb1 0; have fz1 := blk_frozen hb1 1; have fz2 := blk_frozen hb1 2; have HS1 := Aside0.mk hS1; have HB1 := Aside0.mk hb1; clear hS1 hb1; go_wp2; exact ⟨undef, rfl, ⟨HS1.out.g6 ((((G6.refl _ bx).set 0 _).set 1 _).set 2 _) HB1.out hbx, by simpa using blk_put (blk_put (blk_put HB1.out 0 (.slice A1 n1 c1) rfl) 1 (.int .i64 cm1) rfl) 2 (.int .i64 lo1) rfl⟩, trivial⟩
            exact trivial
          case he =>
            intro xs hl0_ γ wr hG hf
            obtain ⟨x0, xs1, rfl, hl1⟩ := Reg.len_succ hl0_
            obtain ⟨x1, xs2, rfl, hl2⟩ := Reg.len_succ hl1
            obtain ⟨x2, xs3, rfl, hl3⟩ := Reg.len_succ hl2
            obtain ⟨x3, xs4, rfl, hl4⟩ := Reg.len_succ hl3
            obtain ⟨x4, xs5, rfl, hl5⟩ := Reg.len_succ hl4
            obtain ⟨x5, xs6, rfl, hl6⟩ := Reg.len_succ hl5
            obtain ⟨x6, xs7, rfl, hl7⟩ := Reg.len_succ hl6
            obtain ⟨x7, xs8, rfl, hl8⟩ := Reg.len_succ hl7
            obtain ⟨x8, xs9, rfl, hl9⟩ := Reg.len_succ hl8
            obtain ⟨x9, xs10, rfl, hl10⟩ := Reg.len_succ hl9
            obtain ⟨x10, xs11, rfl, hl11⟩ := Reg.len_succ hl10
            obtain rfl := List.eq_nil_of_length_eq_zero hl11
            clear hl0_ hl1 hl2 hl3 hl4 hl5 hl6 hl7 hl8 hl9 hl10 hl11
            obtain ⟨v1, A1, n1, c1, l1, L1, cm1, lo1⟩ := γ
            replace hG : Su W0 wr g bx v1 (.slice A1 n1 c1) l1 L1 cm1 lo1 (j + 1) ∧ wr.heap[bx]? = some (.cells #[bif true then .slice A1 n1 c1 else .slice A0 n0 c0, bif true then .int .i64 cm1 else .int .i64 cm0, bif true then .int .i64 lo1 else .int .i64 lo0] 38 (0, 0)) := hG
            obtain ⟨hq0, hq1, hq2, hq3, hq4, hq5, hq6, hq7, hq8, hq9, hq10, -⟩ := hf
            obtain rfl : x0 = (.pointer (some ⟨g, 0, none⟩) : Value) := hq0
            obtain rfl : x1 = (.agg #[.slice A0 n0 c0, .int .i64 cm0, .int .i64 lo0] : Value) := hq1
            obtain rfl : x2 = (.slice (some ad) n c : Value) := hq2
            obtain rfl : x3 = (.int .i64 (j : Int) : Value) := hq3
            obtain rfl : x4 = (.pointer (some (ad.add (j * 8))) : Value) := hq4
            obtain rfl : x5 = (.agg #[.bool y.f0, .string y.f1.f0, .int .i64 y.f1.f1, .int .u16 y.f1.f2, .string y.f1.f3, .int .i64 y.f1.f4, .int .i64 y.f2, .int .i64 y.f3] : Value) := hq5
            obtain rfl : x6 = (.tuple #[.agg #[.slice A1 n1 c1, .int .i64 cm1, .int .i64 lo1], .bool true] : Value) := hq6
            obtain rfl : x7 = (.tuple #[.agg #[.slice A1 n1 c1, .int .i64 cm1, .int .i64 lo1], .bool true] : Value) := hq7
            obtain rfl : x8 = (.agg #[.slice A1 n1 c1, .int .i64 cm1, .int .i64 lo1] : Value) := hq8
            obtain rfl : x9 = (.bool true : Value) := hq9
            replace hq10 : True := hq10
            simp only [Reg.putL, Act.put, List.setIfInBounds_toArray, List.set_cons_succ, List.set_cons_zero]
            simp only [cond_true] at hG; obtain ⟨hS1, hb1⟩ := hG
            have HS1 := Aside0.mk hS1
            have HB1 := Aside0.mk hb1
            clear hS1 hb1 HDO f0 f1 f2 f3 f4 f5 f6 f7 cz cy cx
            go_wp2_with (fail)
            go_roundg k1
            case measure => omega
            case rel => exact ⟨j + 1, v1, A1, n1, c1, l1, L1, cm1, lo1, by first | rfl | simp | (simp; unfold wrap64; omega), ⟨by have := HJ.out; omega⟩, HS1, HB1⟩
      · have hlt1 : decide ((j : Int) < (n : Int)) = false := decide_eq_false (by omega)
        have hlt2 : decide (j < n) = false := decide_eq_false hlt
        have hj120 : j ≤ 120 := by omega
        have HJN := Aside0.mk (show j = n by omega)
        clear HJ hj0 hjk hlt
        go_wp2_with (fail)
        obtain ⟨wL, rfl⟩ : ∃ wL, wL = wr := ⟨_, rfl⟩
        obtain ⟨wd, hwd⟩ : ∃ wd, wd = wL.drew := ⟨_, rfl⟩
        have HWD := Aside0.mk hwd
        have HBLD := Aside0.mk (show Below wL.heap.size wL wd by rw [hwd]; exact (Below.refl _ _).drew)
        have HSD := Aside0.mk (HS.out.below HBLD.out)
        have HBD := Aside0.mk ((HBLD.out.block _ (blk_lt HBK.out)).trans HBK.out)
        clear hwd HS HBK
        refine Reg.region_pivot2 (Γ := (Nat) × (Value) × (Nat)) hmix [some 41, some 42, some 43, some 9, some 8, none, some 10] [[], [0], [], [], [1, 1, 0, 1, 3], [3, 2, 4, 0, 1, 2, 3, 4], [5, 0, 1, 2, 3, 4, 5]] 5 5 [0, 1, 2, 3, 4] (fun w => Below wd.heap.size wd w) (fun γ d w => Qv wd.heap.size w γ.1 γ.2.1 l cm0 lo0 ∧ Below wd.heap.size wd w ∧ w.heap[γ.2.2]? = some (.cells #[.slice A0 n0 c0, .int .i64 cm0, .int .i64 lo0] 38 (0, 0)) ∧ wd.heap.size ≤ γ.2.2) (fun w w' => Below w.heap.size w w') [(fun v w => v = (.pointer (some ⟨g, 0, none⟩) : Value)), (fun v w => ∃ f vf, v = .pointer (some ⟨f, 0, none⟩) ∧ Qv wd.heap.size w f vf l cm0 lo0), (fun v w => v = (.agg #[.slice A0 n0 c0, .int .i64 cm0, .int .i64 lo0] : Value)), (fun v w => ∃ b2, v = .pointer (some ⟨b2, 0, none⟩) ∧ w.heap[b2]? = some (.cells #[.slice none 0 0, .int .i64 0, .int .i64 0] 38 (0, 0)) ∧ wd.heap.size ≤ b2), (fun v w => ∃ f vf, v = .pointer (some ⟨f, 0, none⟩) ∧ Qv wd.heap.size w f vf l cm0 lo0), (fun _ _ => False), (fun _ _ => False)] (fun γ => [(fun v => v = (.pointer (some ⟨g, 0, none⟩) : Value)), (fun v => True), (fun v => v = (.agg #[.slice A0 n0 c0, .int .i64 cm0, .int .i64 lo0] : Value)), (fun v => v = (.pointer (some ⟨γ.2.2, 0, none⟩) : Value)), (fun v => v = (.pointer (some ⟨γ.1, 0, none⟩) : Value)), (fun v => True), (fun v => v = (.bool true : Value))]) rfl (by kernel_rfl) (by kernel_rfl) (fun _ _ hr => Reg.mono_cons (fun _ h => h) (Reg.mono_cons (fun v ⟨f, vf, e, h1⟩ => ⟨f, vf, e, h1.below hr⟩) (Reg.mono_cons (fun _ h => h) (Reg.mono_cons (fun v ⟨b2, e, h1, h2⟩ => ⟨b2, e, (hr.block _ (blk_lt h1)).trans h1, h2⟩) (Reg.mono_cons (fun v ⟨f, vf, e, h1⟩ => ⟨f, vf, e, h1.below hr⟩) (Reg.mono_cons (fun _ h => h) (Reg.mono_cons (fun _ h => h) (Reg.mono_nil)))))))) (by rw [← HWD.out]; exact Below.refl _ _) ?hs ?he
        case hs =>
          intro xs0 xs hx0 hl1_ hl0_
          clear hx0 hl1_
          obtain ⟨x0, xs1, rfl, hl1⟩ := Reg.len_succ hl0_
          obtain ⟨x1, xs2, rfl, hl2⟩ := Reg.len_succ hl1
          obtain ⟨x2, xs3, rfl, hl3⟩ := Reg.len_succ hl2
          obtain ⟨x3, xs4, rfl, hl4⟩ := Reg.len_succ hl3
          obtain ⟨x4, xs5, rfl, hl5⟩ := Reg.len_succ hl4
          obtain ⟨x5, xs6, rfl, hl6⟩ := Reg.len_succ hl5
          obtain ⟨x6, xs7, rfl, hl7⟩ := Reg.len_succ hl6
          obtain rfl := List.eq_nil_of_length_eq_zero hl7
          clear hl0_ hl1 hl2 hl3 hl4 hl5 hl6 hl7
          simp only [Reg.putL, Act.put, List.setIfInBounds_toArray, List.set_cons_succ, List.set_cons_zero]
          refine ⟨fun wr hG hf _ hlate_ => ?_, ?_⟩
          · skip
            clear hlate_
            replace hG : Below wd.heap.size wd wr := hG
            clear hf
            refine .inl ⟨by rfl, ?_⟩
            simp only [Reg.ung]
            have hbkr := (hG.block _ (blk_lt HBD.out)).trans HBD.out; have cz0 := (blk_cell hbkr 0).trans rfl; have cz1 := (blk_cell hbkr 1).trans rfl; have cz2 := (blk_cell hbkr 2).trans rfl; clear hbkr
            go_wp2
            exact ⟨_, rfl, hG, (fun w => Below.refl w.heap.size w) _, rfl⟩
          refine ⟨fun wr hG hf _ hlate_ => ?_, ?_⟩
          · skip
            clear hlate_
            replace hG : Below wd.heap.size wd wr := hG
            obtain ⟨hq0, -⟩ := hf
            obtain rfl : x0 = (.pointer (some ⟨g, 0, none⟩) : Value) := hq0
            refine .inl ⟨by rfl, ?_⟩
            simp only [Reg.ung]
            have hbkr := (hG.block _ (blk_lt HBD.out)).trans HBD.out; have cz0 := (blk_cell hbkr 0).trans rfl; have cz1 := (blk_cell hbkr 1).trans rfl; have cz2 := (blk_cell hbkr 2).trans rfl; clear hbkr
            go_wp2_with ((go_at_call 21; refine (fork_any W0.heap.size g v l cm0 lo0 _ (HSD.out.q.below hG) (by have := HSD.out.inv.len; have := HSD.out.inv.perm.length_eq; omega)).mono ?_; rintro e w5 ⟨vf, f, rfl, hqf, hb⟩)); exact ⟨_, rfl, below_then hG hG.size hb, hb, f, vf, rfl, hqf.lower hG.size⟩
          refine ⟨fun wr hG hf _ hlate_ => ?_, ?_⟩
          · skip
            clear hlate_
            replace hG : Below wd.heap.size wd wr := hG
            clear hf
            refine .inl ⟨by rfl, ?_⟩
            simp only [Reg.ung]
            have hbkr := (hG.block _ (blk_lt HBD.out)).trans HBD.out; have cz0 := (blk_cell hbkr 0).trans rfl; have cz1 := (blk_cell hbkr 1).trans rfl; have cz2 := (blk_cell hbkr 2).trans rfl; clear hbkr
            go_wp2
            exact ⟨_, rfl, hG, (fun w => Below.refl w.heap.size w) _, rfl⟩
          refine ⟨fun wr hG hf _ hlate_ => ?_, ?_⟩
          · skip
            clear hlate_
            replace hG : Below wd.heap.size wd wr := hG
            clear hf
            refine .inl ⟨by rfl, ?_⟩
            simp only [Reg.ung]
            have hbkr := (hG.block _ (blk_lt HBD.out)).trans HBD.out; have cz0 := (blk_cell hbkr 0).trans rfl; have cz1 := (blk_cell hbkr 1).trans rfl; have cz2 := (blk_cell hbkr 2).trans rfl; clear hbkr
            go_wp2; exact ⟨_, rfl, below_alloc hG _, below_alloc (Below.refl _ _) _, _, rfl, heap_alloc_new wr _, hG.size⟩
          refine ⟨fun wr hG hf _ hlate_ => ?_, ?_⟩
          · skip
            clear hlate_
            replace hG : Below wd.heap.size wd wr := hG
            obtain ⟨hq0, -, -, -, -, -⟩ := hf
            replace hq0 : ∃ f vf, x1 = .pointer (some ⟨f, 0, none⟩) ∧ Qv wd.heap.size wr f vf l cm0 lo0 := hq0
            refine .inl ⟨by rfl, ?_⟩
            simp only [Reg.ung]
            have hbkr := (hG.block _ (blk_lt HBD.out)).trans HBD.out; have cz0 := (blk_cell hbkr 0).trans rfl; have cz1 := (blk_cell hbkr 1).trans rfl; have cz2 := (blk_cell hbkr 2).trans rfl; clear hbkr
            obtain ⟨f, vf, rfl, h1⟩ := hq0; have H1 := Aside0.mk h1; clear h1; go_wp2; exact ⟨_, rfl, hG, Below.refl _ _, f, vf, rfl, H1.out⟩
          refine ⟨fun wr hG hf _ hlate_ => ?_, ?_⟩
          · skip
            clear hlate_
            replace hG : Below wd.heap.size wd wr := hG
            obtain ⟨hq0, hq1, hq2, hq3, -, -, -, -, -⟩ := hf
            replace hq0 : ∃ b2, x3 = .pointer (some ⟨b2, 0, none⟩) ∧ wr.heap[b2]? = some (.cells #[.slice none 0 0, .int .i64 0, .int .i64 0] 38 (0, 0)) ∧ wd.heap.size ≤ b2 := hq0
            obtain rfl : x2 = (.agg #[.slice A0 n0 c0, .int .i64 cm0, .int .i64 lo0] : Value) := hq1
            replace hq2 : ∃ f vf, x4 = .pointer (some ⟨f, 0, none⟩) ∧ Qv wd.heap.size wr f vf l cm0 lo0 := hq2
            obtain rfl : x0 = (.pointer (some ⟨g, 0, none⟩) : Value) := hq3
            refine .inl ⟨by rfl, ?_⟩
            simp only [Reg.ung]
            have hbkr := (hG.block _ (blk_lt HBD.out)).trans HBD.out; have cz0 := (blk_cell hbkr 0).trans rfl; have cz1 := (blk_cell hbkr 1).trans rfl; have cz2 := (blk_cell hbkr 2).trans rfl; clear hbkr
            obtain ⟨b2, rfl, hb2, hn2⟩ := hq0; have c0_ := (blk_cell hb2 0).trans rfl; have c1_ := (blk_cell hb2 1).trans rfl; have c2_ := (blk_cell hb2 2).trans rfl; have z0 := blk_frozen hb2 0; have z1 := blk_frozen hb2 1; have z2 := blk_frozen hb2 2; obtain ⟨f, vf, rfl, hqf⟩ := hq2; have HQF := Aside0.mk hqf; have HB2 := Aside0.mk hb2; have HG := Aside0.mk hG; have HN2 := Aside0.mk hn2; clear hqf hb2 hG hn2; go_wp2; exact ⟨undef, rfl, ⟨f, vf, b2⟩, ⟨HQF.out.g6 ((((G6.refl _ b2).set 0 _).set 1 _).set 2 _) HB2.out, ((((G6.refl _ b2).set 0 _).set 1 _).set 2 _).toBelow HG.out HN2.out, blk_put (blk_put (blk_put HB2.out 0 (.slice A0 n0 c0) rfl) 1 (.int .i64 cm0) rfl) 2 (.int .i64 lo0) rfl, HN2.out⟩, trivial, rfl, trivial, rfl, rfl, rfl, trivial⟩
          refine ⟨fun γ d wr hG hf _ => ?_, ?_⟩
          · skip
            obtain ⟨f, vf, b2⟩ := γ
            replace hG : Qv wd.heap.size wr f vf l cm0 lo0 ∧ Below wd.heap.size wd wr ∧ wr.heap[b2]? = some (.cells #[.slice A0 n0 c0, .int .i64 cm0, .int .i64 lo0] 38 (0, 0)) ∧ wd.heap.size ≤ b2 := hG
            clear hf
            refine .inl ⟨by rfl, ?_⟩
            simp only [Reg.ung]
            go_wp2
            exact ⟨_, rfl, by simpa using hG, rfl⟩
          exact trivial
        case he =>
          intro xs hl0_ γ wr hG hf
          obtain ⟨x0, xs1, rfl, hl1⟩ := Reg.len_succ hl0_
          obtain ⟨x1, xs2, rfl, hl2⟩ := Reg.len_succ hl1
          obtain ⟨x2, xs3, rfl, hl3⟩ := Reg.len_succ hl2
          obtain ⟨x3, xs4, rfl, hl4⟩ := Reg.len_succ hl3
          obtain ⟨x4, xs5, rfl, hl5⟩ := Reg.len_succ hl4
          obtain ⟨x5, xs6, rfl, hl6⟩ := Reg.len_succ hl5
          obtain ⟨x6, xs7, rfl, hl7⟩ := Reg.len_succ hl6
          obtain rfl := List.eq_nil_of_length_eq_zero hl7
          clear hl0_ hl1 hl2 hl3 hl4 hl5 hl6 hl7
          obtain ⟨f, vf, b2⟩ := γ
          replace hG : Qv wd.heap.size wr f vf l cm0 lo0 ∧ Below wd.heap.size wd wr ∧ wr.heap[b2]? = some (.cells #[.slice A0 n0 c0, .int .i64 cm0, .int .i64 lo0] 38 (0, 0)) ∧ wd.heap.size ≤ b2 := hG
          obtain ⟨hq0, hq1, hq2, hq3, hq4, hq5, hq6, -⟩ := hf
          obtain rfl : x0 = (.pointer (some ⟨g, 0, none⟩) : Value) := hq0
          replace hq1 : True := hq1
          obtain rfl : x2 = (.agg #[.slice A0 n0 c0, .int .i64 cm0, .int .i64 lo0] : Value) := hq2
          obtain rfl : x3 = (.pointer (some ⟨b2, 0, none⟩) : Value) := hq3
          obtain rfl : x4 = (.pointer (some ⟨f, 0, none⟩) : Value) := hq4
          replace hq5 : True := hq5
          obtain rfl : x6 = (.bool true : Value) := hq6
          simp only [Reg.putL, Act.put, List.setIfInBounds_toArray, List.set_cons_succ, List.set_cons_zero]
          obtain ⟨hqf, hBf, hb2, hn2⟩ := hG
          have hjn := HJN.out
          subst hjn
          clear HJN
          have HB2 := Aside0.mk hb2
          have hb2 : W0.heap.size ≤ b2 := Nat.le_trans HSD.out.low.size hn2
          have hbx1 := (hBf.block _ (blk_lt HBD.out)).trans HBD.out
          have HFK := Aside0.mk (show Fk W0 wr g bx v (.slice A0 n0 c0) l L cm0 lo0 j f b2 vf (.slice A0 n0 c0) l L cm0 lo0 (j + 0) from by
            have hS := HSD.out.below hBf
            refine ⟨hqf.lower HSD.out.low.size, ?_, hS.inv, hS.low, hS.q, ?_, hS.inv, hbx1, ?_, ?_, fun b hb e => ?_⟩
            · refine Kd.V_mono (base := 0) (Kd.V_bound (Kd.V_below (Kd.V_bound HSD.out.uv) hBf)) (fun k hk => ⟨hk.2, ?_⟩)
              intro hs
              have h1 := hk.1.2
              rcases hs with rfl | rfl | hs
              · have := hqf.low; omega
              · omega
              · have := (hqf.row.bound hs).2.1; omega
            · refine Kd.V_mono (base := 0) (Kd.V_bound (Kd.V_below (Kd.V_bound HSD.out.uv) hBf)) (fun k hk => ⟨hk.2, ?_⟩)
              intro hs
              have h1 := hk.1.2
              rcases hs with rfl | rfl | hs
              · have := hqf.low; omega
              · omega
              · have := (hqf.row.bound hs).2.1; omega
            · intro e; have := HSD.out.q.lt; have := hqf.low; omega
            · intro e; have := blk_lt HBD.out; omega
            · have := (HSD.out.q.row.bound hb).2.2.1; have := (hqf.row.bound e).2.1; omega)
          clear hqf hBf hn2 hbx1 HSD HBD
          go_wp2_with (fail)
          go_loopg [10, 11] (m + 1) (fun kq v10 v11 wr => ∃ (i : Nat) (vf : Value) (Af : Option Addr) (nf cf : Nat) (lf Lf : List S47) (cmf lof : Int), v10 = .bool true ∧ v11 = .int .i64 (i : Int) ∧ Aside0 (i ≤ m ∧ i + kq = m + 1) ∧ Aside0 (Fk W0 wr g bx v (.slice A0 n0 c0) l L cm0 lo0 j f b2 vf (.slice Af nf cf) lf Lf cmf lof (j + i)) ∧ Aside0 (wr.heap[b2]? = some (.cells #[.slice Af nf cf, .int .i64 cmf, .int .i64 lof] 38 (0, 0))))
          case atStart => exact ⟨0, vf, A0, n0, c0, l, L, cm0, lo0, rfl, rfl, ⟨by omega⟩, HFK, HB2⟩
          case round =>
            clear HFK HB2
            obtain ⟨i, vf, Af, nf, cf, lf, Lf, cmf, lof, rfl, rfl, HI, HFK, HB2⟩ := hrel
            obtain ⟨hi0, hik⟩ := HI.out
            by_cases hlt : i < m
            · cases gk with
              | zero => exact absurd hik (by omega)
              | succ k1 =>
                have hlt1 : decide ((i : Int) < (m : Int)) = true := decide_eq_true (by omega)
                have hlt2 : decide (i < m) = true := decide_eq_true hlt
                obtain ⟨ad, hA, y, hye, f0, f1, f2, f3, f4, f5, f6, f7⟩ := at_T42 HD.out i (by have := HM.out; omega)
                subst hA
                have hyok : y.f2 ≤ 9223372036854775807 := by rw [hye]; exact HOK2.out _ (List.getElem_mem _)
                clear hye
                obtain ⟨wd, hwd⟩ : ∃ wd, wd = wr.drew := ⟨_, rfl⟩
                have HDR := Aside0.mk (show Below wr.heap.size wr wd by rw [hwd]; exact (Below.refl _ _).drew)
                have HWD := Aside0.mk hwd
                clear hwd
                go_wp2_with (fail)
                have HFD := Aside0.mk (HFK.out.below HDR.out)
                have hbk := (HDR.out.block _ (blk_lt HB2.out)).trans HB2.out
                have hB := HFD.out.low
                replace f0 := (hB.cell (World.block_lt_of_cell? W0 _ f0)).trans f0
                replace f1 := (hB.cell (World.block_lt_of_cell? W0 _ f1)).trans f1
                replace f2 := (hB.cell (World.block_lt_of_cell? W0 _ f2)).trans f2
                replace f3 := (hB.cell (World.block_lt_of_cell? W0 _ f3)).trans f3
                replace f4 := (hB.cell (World.block_lt_of_cell? W0 _ f4)).trans f4
                replace f5 := (hB.cell (World.block_lt_of_cell? W0 _ f5)).trans f5
                replace f6 := (hB.cell (World.block_lt_of_cell? W0 _ f6)).trans f6
                replace f7 := (hB.cell (World.block_lt_of_cell? W0 _ f7)).trans f7
                have cz := (blk_cell hbk 0).trans rfl
                have cy := (blk_cell hbk 1).trans rfl
                have cx := (blk_cell hbk 2).trans rfl
                have hdo := do_fk HFD.out y HT.out (by omega) hyok hbk
                unfold enc42 at hdo
                have HDO := Aside0.mk hdo
                clear hdo hbk hB HFD HFK HB2 HDR
                refine Reg.region_pivot (Γ := (Value) × (Option Addr) × (Nat) × (Nat) × (List S47) × (List S47) × (Int) × (Int)) hmix [some 53, some 54, some 55, some 56, some 57, some 58, some 59, some 52, some 60, some 61, none, some 10] [[], [], [], [], [2, 3], [4], [0, 1, 5], [6], [7], [7], [8, 6, 0, 1, 2, 3, 4, 5, 6, 7, 8], [9, 10, 0, 1, 2, 3, 4, 5, 6, 7, 8, 9, 10]] 6 10 [0, 1, 2, 3, 4, 5] (fun w => w = wd) (fun γ d w => Fk W0 w g bx v (.slice A0 n0 c0) l L cm0 lo0 j f b2 γ.1 (.slice γ.2.1 γ.2.2.1 γ.2.2.2.1) γ.2.2.2.2.1 γ.2.2.2.2.2.1 γ.2.2.2.2.2.2.1 γ.2.2.2.2.2.2.2 (j + (i + 1)) ∧ w.heap[b2]? = some (.cells #[bif d then .slice γ.2.1 γ.2.2.1 γ.2.2.2.1 else .slice Af nf cf, bif d then .int .i64 γ.2.2.2.2.2.2.1 else .int .i64 cmf, bif d then .int .i64 γ.2.2.2.2.2.2.2 else .int .i64 lof] 38 (0, 0))) [(fun v => v = (.pointer (some ⟨f, 0, none⟩) : Value)), (fun v => v = (.agg #[.slice Af nf cf, .int .i64 cmf, .int .i64 lof] : Value)), (fun v => v = (.slice (some ad) m d : Value)), (fun v => v = (.int .i64 (i : Int) : Value)), (fun v => v = (.pointer (some (ad.add (i * 8))) : Value)), (fun v => v = (.agg #[.bool y.f0, .string y.f1.f0, .int .i64 y.f1.f1, .int .u16 y.f1.f2, .string y.f1.f3, .int .i64 y.f1.f4, .int .i64 y.f2, .int .i64 y.f3] : Value)), (fun _ => False), (fun _ => False), (fun _ => False), (fun _ => False), (fun _ => False), (fun _ => False)] (fun γ => [(fun v => v = (.pointer (some ⟨f, 0, none⟩) : Value)), (fun v => v = (.agg #[.slice Af nf cf, .int .i64 cmf, .int .i64 lof] : Value)), (fun v => v = (.slice (some ad) m d : Value)), (fun v => v = (.int .i64 (i : Int) : Value)), (fun v => v = (.pointer (some (ad.add (i * 8))) : Value)), (fun v => v = (.agg #[.bool y.f0, .string y.f1.f0, .int .i64 y.f1.f1, .int .u16 y.f1.f2, .string y.f1.f3, .int .i64 y.f1.f4, .int .i64 y.f2, .int .i64 y.f3] : Value)), (fun v => v = (.tuple #[.agg #[.slice γ.2.1 γ.2.2.1 γ.2.2.2.1, .int .i64 γ.2.2.2.2.2.2.1, .int .i64 γ.2.2.2.2.2.2.2], .bool true] : Value)), (fun v => v = (.tuple #[.agg #[.slice γ.2.1 γ.2.2.1 γ.2.2.2.1, .int .i64 γ.2.2.2.2.2.2.1, .int .i64 γ.2.2.2.2.2.2.2], .bool true] : Value)), (fun v => v = (.agg #[.slice γ.2.1 γ.2.2.1 γ.2.2.2.1, .int .i64 γ.2.2.2.2.2.2.1, .int .i64 γ.2.2.2.2.2.2.2] : Value)), (fun v => v = (.bool true : Value)), (fun v => True), (fun v => v = (.bool true : Value))]) rfl (by kernel_rfl) (by kernel_rfl) (fun γ => Reg.imp_cons (fun _ h => h) (Reg.imp_cons (fun _ h => h) (Reg.imp_cons (fun _ h => h) (Reg.imp_cons (fun _ h => h) (Reg.imp_cons (fun _ h => h) (Reg.imp_cons (fun _ h => h) (Reg.imp_cons (fun _ h => h.elim) (Reg.imp_cons (fun _ h => h.elim) (Reg.imp_cons (fun _ h => h.elim) (Reg.imp_cons (fun _ h => h.elim) (Reg.imp_cons (fun _ h => h.elim) (Reg.imp_cons (fun _ h => h.elim) (Reg.imp_nil (γ := True)))))))))))))) (HWD.out.symm) ?hs ?he
                case hs =>
                  intro xs0 xs hx0 hl0_
                  clear hx0
                  obtain ⟨x0, xs1, rfl, hl1⟩ := Reg.len_succ hl0_
                  obtain ⟨x1, xs2, rfl, hl2⟩ := Reg.len_succ hl1
                  obtain ⟨x2, xs3, rfl, hl3⟩ := Reg.len_succ hl2
                  obtain ⟨x3, xs4, rfl, hl4⟩ := Reg.len_succ hl3
                  obtain ⟨x4, xs5, rfl, hl5⟩ := Reg.len_succ hl4
                  obtain ⟨x5, xs6, rfl, hl6⟩ := Reg.len_succ hl5
                  obtain ⟨x6, xs7, rfl, hl7⟩ := Reg.len_succ hl6
                  obtain ⟨x7, xs8, rfl, hl8⟩ := Reg.len_succ hl7
                  obtain ⟨x8, xs9, rfl, hl9⟩ := Reg.len_succ hl8
                  obtain ⟨x9, xs10, rfl, hl10⟩ := Reg.len_succ hl9
                  obtain ⟨x10, xs11, rfl, hl11⟩ := Reg.len_succ hl10
                  obtain ⟨x11, xs12, rfl, hl12⟩ := Reg.len_succ hl11
                  obtain rfl := List.eq_nil_of_length_eq_zero hl12
                  clear hl0_ hl1 hl2 hl3 hl4 hl5 hl6 hl7 hl8 hl9 hl10 hl11 hl12
                  simp only [Reg.putL, Act.put, List.setIfInBounds_toArray, List.set_cons_succ, List.set_cons_zero]
                  refine ⟨fun wr hG hf _ => ?_, ?_⟩
                  · skip
                    replace hG : wr = wd := hG
                    clear hf
                    refine .inl ⟨by rfl, ?_⟩
                    simp only [Reg.ung]
                    subst hG
                    go_wp2; exact ⟨_, rfl, rfl, rfl⟩
                  refine ⟨fun wr hG hf _ => ?_, ?_⟩
                  · skip
                    replace hG : wr = wd := hG
                    clear hf
                    refine .inl ⟨by rfl, ?_⟩
                    simp only [Reg.ung]
                    subst hG
                    go_wp2; exact ⟨_, rfl, rfl, rfl⟩
                  refine ⟨fun wr hG hf _ => ?_, ?_⟩
                  · skip
                    replace hG : wr = wd := hG
                    clear hf
                    refine .inl ⟨by rfl, ?_⟩
                    simp only [Reg.ung]
                    subst hG
                    go_wp2; exact ⟨_, rfl, rfl, rfl⟩
                  refine ⟨fun wr hG hf _ => ?_, ?_⟩
                  · skip
                    replace hG : wr = wd := hG
                    clear hf
                    refine .inl ⟨by rfl, ?_⟩
                    simp only [Reg.ung]
                    subst hG
                    go_wp2; exact ⟨_, rfl, rfl, rfl⟩
                  refine ⟨fun wr hG hf _ => ?_, ?_⟩
                  · skip
                    replace hG : wr = wd := hG
                    obtain ⟨hq0, hq1, -⟩ := hf
                    obtain rfl : x2 = (.slice (some ad) m d : Value) := hq0
                    obtain rfl : x3 = (.int .i64 (i : Int) : Value) := hq1
                    refine .inl ⟨by rfl, ?_⟩
                    simp only [Reg.ung]
                    subst hG
                    go_wp2; exact ⟨_, rfl, rfl, rfl⟩
                  refine ⟨fun wr hG hf _ => ?_, ?_⟩
                  · skip
                    replace hG : wr = wd := hG
                    obtain ⟨hq0, -⟩ := hf
                    obtain rfl : x4 = (.pointer (some (ad.add (i * 8))) : Value) := hq0
                    refine .inl ⟨by rfl, ?_⟩
                    simp only [Reg.ung]
                    subst hG
                    go_wp2; exact ⟨_, rfl, rfl, rfl⟩
                  refine ⟨fun wr hG hf _ => ?_, ?_⟩
                  · skip
                    replace hG : wr = wd := hG
                    obtain ⟨hq0, hq1, hq2, -⟩ := hf
                    obtain rfl : x0 = (.pointer (some ⟨f, 0, none⟩) : Value) := hq0
                    obtain rfl : x1 = (.agg #[.slice Af nf cf, .int .i64 cmf, .int .i64 lof] : Value) := hq1
                    obtain rfl : x5 = (.agg #[.bool y.f0, .string y.f1.f0, .int .i64 y.f1.f1, .int .u16 y.f1.f2, .string y.f1.f3, .int .i64 y.f1.f4, .int .i64 y.f2, .int .i64 y.f3] : Value) := hq2
                    refine .inl ⟨by rfl, ?_⟩
                    simp only [Reg.ung]
                    subst hG
                    go_wp2_with ((go_at_call 15; refine HDO.out.mono ?_; rintro e w' ⟨v1, A1, n1, c1, l1, L1, cm1, lo1, rfl, hS1, hk1⟩)); exact ⟨_, rfl, ⟨v1, A1, n1, c1, l1, L1, cm1, lo1⟩, ⟨hS1, hk1⟩, rfl⟩
                  refine ⟨fun γ d wr hG hf _ => ?_, ?_⟩
                  · skip
                    obtain ⟨v1, A1, n1, c1, l1, L1, cm1, lo1⟩ := γ
                    replace hG : Fk W0 wr g bx v (.slice A0 n0 c0) l L cm0 lo0 j f b2 v1 (.slice A1 n1 c1) l1 L1 cm1 lo1 (j + (i + 1)) ∧ wr.heap[b2]? = some (.cells #[bif d then .slice A1 n1 c1 else .slice Af nf cf, bif d then .int .i64 cm1 else .int .i64 cmf, bif d then .int .i64 lo1 else .int .i64 lof] 38 (0, 0)) := hG
                    obtain ⟨hq0, -⟩ := hf
                    obtain rfl : x6 = (.tuple #[.agg #[.slice A1 n1 c1, .int .i64 cm1, .int .i64 lo1], .bool true] : Value) := hq0
                    refine .inl ⟨by rfl, ?_⟩
                    simp only [Reg.ung]
                    go_wp2
                    exact ⟨_, rfl, by simpa using hG, rfl⟩
                  refine ⟨fun γ d wr hG hf _ => ?_, ?_⟩
                  · skip
                    obtain ⟨v1, A1, n1, c1, l1, L1, cm1, lo1⟩ := γ
                    replace hG : Fk W0 wr g bx v (.slice A0 n0 c0) l L cm0 lo0 j f b2 v1 (.slice A1 n1 c1) l1 L1 cm1 lo1 (j + (i + 1)) ∧ wr.heap[b2]? = some (.cells #[bif d then .slice A1 n1 c1 else .slice Af nf cf, bif d then .int .i64 cm1 else .int .i64 cmf, bif d then .int .i64 lo1 else .int .i64 lof] 38 (0, 0)) := hG
                    obtain ⟨hq0, -⟩ := hf
                    obtain rfl : x7 = (.tuple #[.agg #[.slice A1 n1 c1, .int .i64 cm1, .int .i64 lo1], .bool true] : Value) := hq0
                    refine .inl ⟨by rfl, ?_⟩
                    simp only [Reg.ung]
                    go_wp2
                    exact ⟨_, rfl, by simpa using hG, rfl⟩
                  refine ⟨fun γ d wr hG hf _ => ?_, ?_⟩
                  · skip
                    obtain ⟨v1, A1, n1, c1, l1, L1, cm1, lo1⟩ := γ
                    replace hG : Fk W0 wr g bx v (.slice A0 n0 c0) l L cm0 lo0 j f b2 v1 (.slice A1 n1 c1) l1 L1 cm1 lo1 (j + (i + 1)) ∧ wr.heap[b2]? = some (.cells #[bif d then .slice A1 n1 c1 else .slice Af nf cf, bif d then .int .i64 cm1 else .int .i64 cmf, bif d then .int .i64 lo1 else .int .i64 lof] 38 (0, 0)) := hG
                    obtain ⟨hq0, -⟩ := hf
                    obtain rfl : x7 = (.tuple #[.agg #[.slice A1 n1 c1, .int .i64 cm1, .int .i64 lo1], .bool true] : Value) := hq0
                    refine .inl ⟨by rfl, ?_⟩
                    simp only [Reg.ung]
                    go_wp2
                    exact ⟨_, rfl, by simpa using hG, rfl⟩
                  refine ⟨fun γ d wr hG hf _ => ?_, ?_⟩
                  · skip
                    obtain ⟨v1, A1, n1, c1, l1, L1, cm1, lo1⟩ := γ
                    replace hG : Fk W0 wr g bx v (.slice A0 n0 c0) l L cm0 lo0 j f b2 v1 (.slice A1 n1 c1) l1 L1 cm1 lo1 (j + (i + 1)) ∧ wr.heap[b2]? = some (.cells #[bif d then .slice A1 n1 c1 else .slice Af nf cf, bif d then .int .i64 cm1 else .int .i64 cmf, bif d then .int .i64 lo1 else .int .i64 lof] 38 (0, 0)) := hG
                    obtain ⟨hq0, -, -, -, -, -, -, -, -, -, -, -⟩ := hf
                    obtain rfl : x8 = (.agg #[.slice A1 n1 c1, .int .i64 cm1, .int .i64 lo1] : Value) := hq0
                    refine .inl ⟨by rfl, ?_⟩
                    simp only [Reg.ung]
                    obtain ⟨hS1, hb1⟩ := hG; have cz0 := (blk_cell hb1 0).trans rfl; have cz1 := (blk_cell hb1 1).trans rfl; have cz2 := (blk_cell hb1 2).trans rfl; have fz0 := blk_frozen hb1 0; have fz1 := blk_frozen hb1 1; have fz2 := blk_frozen hb1 2; have HS1 := Aside0.mk hS1; have HB1 := Aside0.mk hb1; clear hS1 hb1; go_wp2; exact ⟨undef, rfl, ⟨HS1.out.g6 ((((G6.refl _ b2).set 0 _).set 1 _).set 2 _) HB1.out hb2, by simpa using blk_put (blk_put (blk_put HB1.out 0 (.slice A1 n1 c1) rfl) 1 (.int .i64 cm1) rfl) 2 (.int .i64 lo1) rfl⟩, trivial⟩
                  refine ⟨fun γ d wr hG hf _ => ?_, ?_⟩
                  · skip
                    obtain ⟨v1, A1, n1, c1, l1, L1, cm1, lo1⟩ := γ
                    replace hG : Fk W0 wr g bx v (.slice A0 n0 c0) l L cm0 lo0 j f b2 v1 (.slice A1 n1 c1) l1 L1 cm1 lo1 (j + (i + 1)) ∧ wr.heap[b2]? = some (.cells #[bif d then .slice A1 n1 c1 else .slice Af nf cf, bif d then .int .i64 cm1 else .int .i64 cmf, bif d then .int .i64 lo1 else .int .i64 lof] 38 (0, 0)) := hG
                    obtain ⟨hq0, -, -, -, -, -, -, -, -, -, -, -, -, -⟩ := hf
                    obtain rfl : x9 = (.bool true : Value) := hq0
                    refine .inl ⟨by rfl, ?_⟩
                    simp only [Reg.ung]
                    go_wp2
                    exact ⟨_, rfl, by simpa using hG, rfl⟩
                  exact trivial
                case he =>
                  intro xs hl0_ γ wr hG hf
                  obtain ⟨x0, xs1, rfl, hl1⟩ := Reg.len_succ hl0_
                  obtain ⟨x1, xs2, rfl, hl2⟩ := Reg.len_succ hl1
                  obtain ⟨x2, xs3, rfl, hl3⟩ := Reg.len_succ hl2
                  obtain ⟨x3, xs4, rfl, hl4⟩ := Reg.len_succ hl3
                  obtain ⟨x4, xs5, rfl, hl5⟩ := Reg.len_succ hl4
                  obtain ⟨x5, xs6, rfl, hl6⟩ := Reg.len_succ hl5
                  obtain ⟨x6, xs7, rfl, hl7⟩ := Reg.len_succ hl6
                  obtain ⟨x7, xs8, rfl, hl8⟩ := Reg.len_succ hl7
                  obtain ⟨x8, xs9, rfl, hl9⟩ := Reg.len_succ hl8
                  obtain ⟨x9, xs10, rfl, hl10⟩ := Reg.len_succ hl9
                  obtain ⟨x10, xs11, rfl, hl11⟩ := Reg.len_succ hl10
                  obtain ⟨x11, xs12, rfl, hl12⟩ := Reg.len_succ hl11
                  obtain rfl := List.eq_nil_of_length_eq_zero hl12
                  clear hl0_ hl1 hl2 hl3 hl4 hl5 hl6 hl7 hl8 hl9 hl10 hl11 hl12
                  obtain ⟨v1, A1, n1, c1, l1, L1, cm1, lo1⟩ := γ
                  replace hG : Fk W0 wr g bx v (.slice A0 n0 c0) l L cm0 lo0 j f b2 v1 (.slice A1 n1 c1) l1 L1 cm1 lo1 (j + (i + 1)) ∧ wr.heap[b2]? = some (.cells #[bif true then .slice A1 n1 c1 else .slice Af nf cf, bif true then .int .i64 cm1 else .int .i64 cmf, bif true then .int .i64 lo1 else .int .i64 lof] 38 (0, 0)) := hG
                  obtain ⟨hq0, hq1, hq2, hq3, hq4, hq5, hq6, hq7, hq8, hq9, hq10, hq11, -⟩ := hf
                  obtain rfl : x0 = (.pointer (some ⟨f, 0, none⟩) : Value) := hq0
                  obtain rfl : x1 = (.agg #[.slice Af nf cf, .int .i64 cmf, .int .i64 lof] : Value) := hq1
                  obtain rfl : x2 = (.slice (some ad) m d : Value) := hq2
                  obtain rfl : x3 = (.int .i64 (i : Int) : Value) := hq3
                  obtain rfl : x4 = (.pointer (some (ad.add (i * 8))) : Value) := hq4
                  obtain rfl : x5 = (.agg #[.bool y.f0, .string y.f1.f0, .int .i64 y.f1.f1, .int .u16 y.f1.f2, .string y.f1.f3, .int .i64 y.f1.f4, .int .i64 y.f2, .int .i64 y.f3] : Value) := hq5
                  obtain rfl : x6 = (.tuple #[.agg #[.slice A1 n1 c1, .int .i64 cm1, .int .i64 lo1], .bool true] : Value) := hq6
                  obtain rfl : x7 = (.tuple #[.agg #[.slice A1 n1 c1, .int .i64 cm1, .int .i64 lo1], .bool true] : Value) := hq7
                  obtain rfl : x8 = (.agg #[.slice A1 n1 c1, .int .i64 cm1, .int .i64 lo1] : Value) := hq8
                  obtain rfl : x9 = (.bool true : Value) := hq9
                  replace hq10 : True := hq10
                  obtain rfl : x11 = (.bool true : Value) := hq11
                  simp only [Reg.putL, Act.put, List.setIfInBounds_toArray, List.set_cons_succ, List.set_cons_zero]
                  simp only [cond_true] at hG; obtain ⟨hS1, hb1⟩ := hG
                  have HS1 := Aside0.mk hS1
                  have HB1 := Aside0.mk hb1
                  clear hS1 hb1 HDO f0 f1 f2 f3 f4 f5 f6 f7 cz cy cx
                  go_wp2_with (fail)
                  go_roundg k1
                  case measure => omega
                  case rel => exact ⟨i + 1, v1, A1, n1, c1, l1, L1, cm1, lo1, rfl, by first | rfl | simp | (simp; unfold wrap64; omega), ⟨by have := HI.out; omega⟩, HS1, HB1⟩
            · have hlt1 : decide ((i : Int) < (m : Int)) = false := decide_eq_false (by omega)
              have hlt2 : decide (i < m) = false := decide_eq_false hlt
              clear HI hi0 hik hlt
              have HL := Aside0.mk HFK.out.low
              obtain ⟨wA, hwA⟩ : ∃ wA, wA = wr := ⟨_, rfl⟩
              have HWA := Aside0.mk (show Below wA.heap.size wA wr by rw [hwA]; exact Below.refl _ _)
              have HFA := Aside0.mk (show Fk W0 wA g bx v (.slice A0 n0 c0) l L cm0 lo0 j f b2 vf (.slice Af nf cf) lf Lf cmf lof (j + i) by rw [hwA]; exact HFK.out)
              have HB2A := Aside0.mk (show wA.heap[b2]? = some (.cells #[.slice Af nf cf, .int .i64 cmf, .int .i64 lof] 38 (0, 0)) by rw [hwA]; exact HB2.out)
              clear hwA HFK HB2 HL
              go_wp2_with (fail)
              refine (one_any _ wr).mono ?_
              rintro e wB ⟨rfl, hB⟩
              have HWB := Aside0.mk (below_then HWA.out HWA.out.size hB)
              clear hB HWA
              unfold encE oneE
              go_wp2_with (fail)
              refine (push_none _ _ _ _ _ wB).mono ?_
              rintro e wC ⟨rfl, hB⟩
              have HWC := Aside0.mk (below_then HWB.out HWB.out.size hB)
              clear hB HWB
              have hbk := (HWC.out.block _ (blk_lt HB2A.out)).trans HB2A.out
              have hbq := (HWC.out.block _ (blk_lt HFA.out.box)).trans HFA.out.box
              have r0 := (blk_cell hbk 0).trans rfl
              have r1 := (blk_cell hbk 1).trans rfl
              have r2 := (blk_cell hbk 2).trans rfl
              have HBQ := Aside0.mk hbq
              have HFC := Aside0.mk (HFA.out.below HWC.out)
              have HSF := Aside0.mk (show Calls Tryd.prog 18 #[.pointer (some ⟨f, 0, none⟩), .agg #[.slice Af nf cf, .int .i64 cmf, .int .i64 lof]] wC (fun e w' => e = .returned (.bool true) ∧ Below wC.heap.size wC w') by
                obtain ⟨A', c', hu, hc', hC'⟩ := HFC.out.uvf.reads
                obtain ⟨rfl, hnn, rfl⟩ : Af = A' ∧ nf = (List.map cv Lf).length ∧ cf = c' := by simpa using hu
                rw [hnn]
                exact same_core ⟨HFC.out.qf, HFC.out.invf, HFC.out.low⟩ hC' hc')
              clear hbk hbq HB2A
              go_wp2_with (first | (go_at_call 11; refine (take_none _).mono ?_; rintro e w' ⟨rfl, rfl⟩) | (go_at_call 16; refine (list_none _).mono ?_; rintro e w' ⟨rfl, rfl⟩) | (go_at_call 13; refine (lost_none _).mono ?_; rintro e w' ⟨rfl, rfl⟩) | (go_at_call 12; refine (len_none _).mono ?_; rintro e w' ⟨rfl, rfl⟩) | (go_at_call 21; refine (fork_none _).mono ?_; rintro e w' ⟨rfl, rfl⟩))
              refine HSF.out.mono ?_
              rintro e wD ⟨rfl, hD⟩
              have HWD := Aside0.mk hD
              have hbq := (hD.block _ (blk_lt HBQ.out)).trans HBQ.out
              clear hD r0 r1 r2 HSF HFA
              have r0 := (blk_cell hbq 0).trans rfl
              have r1 := (blk_cell hbq 1).trans rfl
              have r2 := (blk_cell hbq 2).trans rfl
              have HFD := Aside0.mk (HFC.out.below HWD.out)
              have HSQ := Aside0.mk (show Calls Tryd.prog 18 #[.pointer (some ⟨g, 0, none⟩), .agg #[.slice A0 n0 c0, .int .i64 cm0, .int .i64 lo0]] wD (fun e w' => e = .returned (.bool true) ∧ Below wD.heap.size wD w') by
                obtain ⟨A', c', hu, hc', hC'⟩ := HFD.out.uv.reads
                obtain ⟨rfl, hnn, rfl⟩ : A0 = A' ∧ n0 = (List.map cv L).length ∧ c0 = c' := by simpa using hu
                rw [hnn]
                exact same_core ⟨HFD.out.q, HFD.out.inv, HFD.out.low⟩ hC' hc')
              clear hbq
              go_wp2_with (fail)
              refine HSQ.out.mono ?_
              rintro e wE ⟨rfl, hE⟩
              have HWE := Aside0.mk hE
              clear hE r0 r1 r2 HSQ
              go_wp2_with (fail)
              have HLE := Aside0.mk (below_then HFD.out.low HFD.out.low.size HWE.out)
              refine (awake_any wE (HT.out.below HLE.out)).mono ?_
              rintro e wF ⟨rfl, hF⟩
              have HWF := Aside0.mk hF
              clear hF
              go_wp2_with (fail)
              go_ret
              exact ⟨rfl, below_then HLE.out HLE.out.size HWF.out⟩
end Go.Proofs.YtmifpookhhkgeaaDoor.Q
