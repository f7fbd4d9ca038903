/- A queue in memory: what is there, what a call changes; New, Len, Lost, List. -/
import Derived.Test.YtmifpookhhkgeaaDoorQB
set_option linter.unusedVariables false
set_option linter.unusedSimpArgs false
namespace Go.Proofs.YtmifpookhhkgeaaDoor.Q
open Go.RowKit Go.Shelf Go.Lib Go.Sort Go.Proofs.YtmifpookhhkgeaaDoorW.PrintWords Go.Proofs.YtmifpookhhkgeaaDoor.P
/-- A row whose slice may end ahead of its block (its end is its length then). -/
def WR (w : World) (base : Nat) (ok : Nat → Prop) (v : Value) (l : List S47) : Prop :=
  ∃ A c c', v = .slice A l.length c ∧ l.length ≤ c ∧ Kd.R k47 47 w base ok (.slice A l.length c') l ∧ (c = c' ∨ c = l.length)
theorem own_cap (A : Option Addr) (n c c' : Nat) : (Value.slice A n c).ownBlock = (Value.slice A n c').ownBlock := by cases A <;> rfl
theorem WR.of_R {w : World} {base : Nat} {ok : Nat → Prop} {v : Value} {l : List S47} (h : Kd.R k47 47 w base ok v l) : WR w base ok v l := by
  obtain ⟨A, c, rfl, hc, _⟩ := Kd.R_reads h
  exact ⟨A, c, c, rfl, hc, h, .inl rfl⟩
theorem WR.reads {w : World} {base : Nat} {ok : Nat → Prop} {v : Value} {l : List S47} (h : WR w base ok v l) : ∃ A c, v = .slice A l.length c ∧ l.length ≤ c ∧ Kd.C k47 w A l.length l := by
  obtain ⟨A, c, c', hv, hc, hr, _⟩ := h
  obtain ⟨A2, c2, hv2, _, hC⟩ := Kd.R_reads hr
  obtain ⟨rfl, rfl⟩ : A = A2 ∧ c' = c2 := by simpa using hv2
  exact ⟨A, c, hv, hc, hC⟩
theorem WR.map {w w' : World} {base base' : Nat} {ok ok' : Nat → Prop} {v : Value} {l l' : List S47} (h : WR w base ok v l) (hl : l'.length = l.length) (f : ∀ v', v'.ownBlock = v.ownBlock → Kd.R k47 47 w base ok v' l → Kd.R k47 47 w' base' ok' v' l') : WR w' base' ok' v l' := by
  obtain ⟨A, c, c', rfl, hc, hr, hcc⟩ := h
  have := f _ (own_cap A _ c' c) hr
  exact ⟨A, c, c', by rw [hl], by rw [hl]; exact hc, by rw [hl]; exact this, by rw [hl]; exact hcc⟩
theorem WR.below {w w' : World} {base : Nat} {ok : Nat → Prop} {v : Value} {l : List S47} (h : WR w base ok v l) (hb : Below w.heap.size w w') : WR w' base ok v l := h.map rfl (fun _ _ hr => Kd.R_below hr hb)
theorem WR.bound {w : World} {base : Nat} {ok : Nat → Prop} {v : Value} {l : List S47} (h : WR w base ok v l) {k : Nat} (hk : v.ownBlock = some k) : ok k ∧ base ≤ k ∧ k < w.heap.size ∧ ∃ cells, w.heap[k]? = some (.cells cells 47 (0, 0)) := by
  obtain ⟨A, c, c', rfl, hc, hr, hcc⟩ := h
  rw [own_cap A _ c c'] at hk
  obtain ⟨h1, h2, h3, _⟩ := (Kd.R_bound hr).1 k hk
  obtain ⟨inner, ho⟩ := Kd.R_own hr
  obtain ⟨cells, hcell⟩ := own_typed ho k hk
  exact ⟨h1, h2, h3, cells, hcell⟩
theorem WR.form {w : World} {base : Nat} {ok : Nat → Prop} {v : Value} {l : List S47} (h : WR w base ok v l) (hl : 0 < l.length) : ∃ rb c c', v = .slice (some ⟨rb, 0, none⟩) l.length c ∧ base ≤ rb ∧ ok rb ∧ rb < w.heap.size ∧ (∃ cells, w.heap[rb]? = some (.cells cells 47 (0, 0))) ∧ l.length ≤ c ∧ Kd.R k47 47 w base ok (.slice (some ⟨rb, 0, none⟩) l.length c') l ∧ (c = c' ∨ c = l.length) := by
  obtain ⟨A, c, c', rfl, hc, hr, hcc⟩ := h
  obtain ⟨_, hcase⟩ := flat_of_R hr
  rcases hcase with ⟨_, h2⟩ | ⟨g, cap, cur, e1, e2, e3, e4⟩
  · omega
  · obtain ⟨rfl, rfl⟩ : A = some ⟨g, 0, none⟩ ∧ c' = cap := by simpa using e1
    exact ⟨g, c, c', rfl, e2, hr.1 g rfl, blk_lt e3, ⟨cur, e3⟩, hc, hr, hcc⟩
/-- A queue: its cell, and the row that it owns, all from block B on. -/
structure Qv (B : Nat) (w : World) (g : Nat) (v : Value) (l : List S47) (came lost : Int) : Prop where
  cell : w.heap[g]? = some (.cells #[v, .int .i64 came, .int .i64 lost] 55 (0, 0))
  low : B ≤ g
  row : WR w B (fun k => k ≠ g) v l
  nil : l = [] → v = .slice none 0 0
/-- What a call on a queue changes: its cell, its row, and what is new. -/
structure Ex (w w' : World) (g : Nat) (v v' : Value) : Prop where
  os : w'.os = w.os
  tape : w'.tape = w.tape
  output : w'.output = w.output
  keep : KeepBut w w' g v.ownBlock
  own : ∀ b, v'.ownBlock = some b → v.ownBlock = some b ∨ w.heap.size ≤ b
theorem Ex.of_below {w w' : World} (h : Below w.heap.size w w') (g : Nat) (v : Value) : Ex w w' g v v := ⟨h.os, h.tape, h.output, KeepBut.of_below h g _, fun b hb => .inl hb⟩
theorem Ex.trans {a b c : World} {g : Nat} {v v1 v2 : Value} (h : Ex a b g v v1) (k : Ex b c g v1 v2) : Ex a c g v v2 := by
  refine ⟨k.os.trans h.os, k.tape.trans h.tape, k.output.trans h.output, ⟨Nat.le_trans h.keep.1 k.keep.1, fun i hi hg hr => ?_⟩, fun x hx => ?_⟩
  · refine (k.keep.2 i (Nat.lt_of_lt_of_le hi h.keep.1) hg (fun e => ?_)).trans (h.keep.2 i hi hg hr)
    rcases h.own i e.symm with e2 | e2
    · exact hr e2.symm
    · omega
  · rcases k.own x hx with e | e
    · exact h.own x e
    · exact .inr (Nat.le_trans h.keep.1 e)
theorem Ex.size {w w' : World} {g : Nat} {v v' : Value} (h : Ex w w' g v v') : w.heap.size ≤ w'.heap.size := h.keep.1
/-- Above an elder world all stays below. -/
theorem Ex.below {W0 w w' : World} {g : Nat} {v v' : Value} {l : List S47} {came lost : Int} (hQ : Qv W0.heap.size w g v l came lost) (h : Ex w w' g v v') (hb : Below W0.heap.size W0 w) : Below W0.heap.size W0 w' := by
  refine ⟨h.os.trans hb.os, h.tape.trans hb.tape, h.output.trans hb.output, Nat.le_trans hb.size h.size, fun i hi => ?_⟩
  have hlt : i < w.heap.size := Nat.lt_of_lt_of_le hi hb.size
  refine (h.keep.2 i hlt (by have := hQ.low; omega) (fun e => ?_)).trans (hb.block i hi)
  have := (hQ.row.bound e.symm).2.1
  omega
theorem Qv.lt {B : Nat} {w : World} {g : Nat} {v : Value} {l : List S47} {came lost : Int} (h : Qv B w g v l came lost) : g < w.heap.size := blk_lt h.cell
theorem Qv.below {B : Nat} {w w' : World} {g : Nat} {v : Value} {l : List S47} {came lost : Int} (h : Qv B w g v l came lost) (hb : Below w.heap.size w w') : Qv B w' g v l came lost :=
  ⟨(hb.block _ h.lt).trans h.cell, h.low, h.row.below hb, h.nil⟩
theorem Qv.reads {B : Nat} {w : World} {g : Nat} {v : Value} {l : List S47} {came lost : Int} (h : Qv B w g v l came lost) : ∃ A c, v = .slice A l.length c ∧ l.length ≤ c ∧ Kd.C k47 w A l.length l := h.row.reads
/-- Another queue's call. -/
theorem Qv.other {B : Nat} {w w' : World} {g g2 : Nat} {v v2 v2' : Value} {l l2 : List S47} {came lost came2 lost2 : Int} (h : Qv B w g v l came lost) (h2 : Qv B w g2 v2 l2 came2 lost2) (hne : g ≠ g2) (hrow : ∀ b, v.ownBlock = some b → v2.ownBlock ≠ some b) (hx : Ex w w' g2 v2 v2') : Qv B w' g v l came lost := by
  have hrg : ∀ b, v.ownBlock = some b → b ≠ g2 := fun b hb e => by
    obtain ⟨_, _, _, cells, hc⟩ := h.row.bound hb
    rw [e, h2.cell] at hc
    injection hc with hc
    injection hc with _ hc _
    exact absurd hc (by decide)
  have hg2 : some g ≠ v2.ownBlock := fun e => by
    obtain ⟨_, _, _, cells, hc⟩ := h2.row.bound e.symm
    rw [h.cell] at hc
    injection hc with hc
    injection hc with _ hc _
    exact absurd hc (by decide)
  refine ⟨(hx.keep.2 g h.lt hne hg2).trans h.cell, h.low, ?_, h.nil⟩
  refine h.row.map rfl (fun v' he hr => ?_)
  have hf := flat_of_R hr
  refine R_of_flat _ hr.1 ?_
  obtain ⟨hlen, hcase⟩ := hf
  refine ⟨hlen, ?_⟩
  rcases hcase with hn | ⟨b, cap, cur, e1, e2, e3, e4⟩
  · exact .inl hn
  · refine .inr ⟨b, cap, cur, e1, e2, ?_, e4⟩
    have hb : v.ownBlock = some b := by rw [← he, e1]; rfl
    exact (hx.keep.2 b (blk_lt e3) (hrg b hb) (fun e => hrow b hb e.symm)).trans e3
theorem new_any (B : Nat) (w : World) (hB : B ≤ w.heap.size) : Calls Tryd.prog 8 #[] w fun e w' => ∃ g, e = .returned (.pointer (some ⟨g, 0, none⟩)) ∧ Qv B w' g (.slice none 0 0) [] 0 0 ∧ w.heap.size ≤ g ∧ Below w.heap.size w w' := by
  go_enter Tryd.func8, Tryd.ntmps8
  go_wp2_with (fail)
  go_ret
  exact ⟨w.heap.size, rfl, ⟨heap_alloc_new w _, hB, WR.of_R (Kd.R_nil _ _ _ _ _), fun _ => rfl⟩, Nat.le_refl _, below_alloc (Below.refl _ w) _⟩
theorem len_any (B g : Nat) (v : Value) (l : List S47) (came lost : Int) (w : World) (h : Qv B w g v l came lost) : Calls Tryd.prog 12 #[.pointer (some ⟨g, 0, none⟩)] w fun e w' => e = .returned (.int .i64 l.length) ∧ w' = w := by
  obtain ⟨A, c, rfl, hc, hC⟩ := h.reads
  obtain ⟨n, hn⟩ : ∃ n, n = l.length := ⟨_, rfl⟩
  have hk := h.cell
  rw [← hn] at hk ⊢
  have h0 : w.cell? ⟨g, 0, none⟩ = some (.slice A n c) := (blk_cell hk 0).trans rfl
  clear h hk hc hC hn
  go_enter Tryd.func12, Tryd.ntmps12
  go_wp2_with (fail)
  go_ret
  exact ⟨rfl, rfl⟩
theorem lost_any (B g : Nat) (v : Value) (l : List S47) (came lost : Int) (w : World) (h : Qv B w g v l came lost) : Calls Tryd.prog 13 #[.pointer (some ⟨g, 0, none⟩)] w fun e w' => e = .returned (.int .i64 lost) ∧ w' = w := by
  have h0 : w.cell? ⟨g, 2, none⟩ = some (.int .i64 lost) := (blk_cell h.cell 2).trans rfl
  clear h
  go_enter Tryd.func13, Tryd.ntmps13
  go_wp2_with (fail)
  go_ret
  exact ⟨rfl, rfl⟩
theorem list_any (B g : Nat) (v : Value) (l : List S47) (came lost : Int) (w : World) (h : Qv B w g v l came lost) (h8 : l.length ≤ 1000000) :
    Calls Tryd.prog 16 #[.pointer (some ⟨g, 0, none⟩)] w fun e w' => ∃ v2 l', e = .returned v2 ∧ l'.Perm l ∧ SortedQ l' ∧ Kd.R k47 47 w' w.heap.size (fun _ => True) v2 l' ∧ Below w.heap.size w w' := by
  obtain ⟨A, c, rfl, hc, hC⟩ := h.reads
  have HN := Aside0.mk h.nil
  obtain ⟨n, hn⟩ : ∃ n, n = l.length := ⟨_, rfl⟩
  have hk := h.cell
  rw [← hn] at hk
  have h0 : w.cell? ⟨g, 0, none⟩ = some (.slice A n c) := (blk_cell hk 0).trans rfl
  have HC := Aside0.mk hC
  have H8 := Aside0.mk h8
  have HNN := Aside0.mk hn
  clear h hk hc hC hn h8
  by_cases hl : l.length = 0
  · have hl0 : l = [] := List.eq_nil_of_length_eq_zero hl
    subst hl0
    obtain ⟨rfl, rfl⟩ : A = none ∧ c = 0 := by have := HN.out rfl; simpa using this
    obtain rfl : n = 0 := HNN.out
    go_enter Tryd.func16, Tryd.ntmps16
    go_wp2_with (fail)
    refine (clone_nil 0 0 _).mono ?_
    rintro e w1 ⟨rfl, rfl⟩
    go_wp2_with (fail)
    refine (sortFunc_nil _).mono ?_
    rintro e w2 ⟨rfl, rfl⟩
    go_wp2_with (fail)
    go_ret
    exact ⟨_, [], rfl, List.Perm.refl _, List.Pairwise.nil, Kd.R_nil _ _ _ _ _, Below.refl _ _⟩
  · have hcl := clone_any A c l w HC.out (by omega) H8.out
    rw [← HNN.out] at hcl
    have HCL := Aside0.mk hcl
    have HL := Aside0.mk hl
    clear hcl hl
    go_enter Tryd.func16, Tryd.ntmps16
    go_wp2_with (fail)
    refine HCL.out.mono ?_
    rintro e w1 ⟨v1, rfl, ho, hne, hb1⟩
    rw [HNN.out] at ho
    have HR1 := Aside0.mk (R_of_flat (fun _ => True) (fun _ _ => trivial) ho)
    have HB1 := Aside0.mk hb1
    obtain ⟨A1, c1, rfl, _, _⟩ := Kd.R_reads HR1.out
    clear ho hb1 hne HCL
    go_wp2_with (fail)
    refine (sortFunc_any A1 c1 c1 l w1 w.heap.size (fun _ => True) HR1.out (by have := HL.out; omega) H8.out).mono ?_
    rintro e w2 ⟨rfl, l', hp, hs, hr, hg⟩
    have HB2 := Aside0.mk (HB1.out.grown hg HB1.out.size (fun j hj => ((Kd.R_bound HR1.out).1 j hj).2.1))
    have HP := Aside0.mk hp
    have HS := Aside0.mk hs
    have HR := Aside0.mk hr
    clear hp hs hr hg
    go_wp2_with (fail)
    go_ret
    exact ⟨_, l', rfl, HP.out, HS.out, HR.out, HB2.out⟩
end Go.Proofs.YtmifpookhhkgeaaDoor.Q
