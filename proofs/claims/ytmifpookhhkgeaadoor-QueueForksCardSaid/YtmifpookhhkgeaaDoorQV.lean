/- Acts; what a call on both queues changes. -/
import Derived.Test.YtmifpookhhkgeaaDoorQU
set_option linter.unusedVariables false
set_option linter.unusedSimpArgs false
namespace Go.Proofs.YtmifpookhhkgeaaDoor.Q
open Go.RowKit Go.Lib Go.Proofs.YtmifpookhhkgeaaDoorW.PrintWords Go.Proofs.YtmifpookhhkgeaaDoorW.PrintMore Go.Proofs.YtmifpookhhkgeaaDoorW.PrintLast Go.Proofs.YtmifpookhhkgeaaDoor.P Go.Proofs.YtmifpookhhkgeaaDoor.G
structure S42 where
  f0 : Bool
  f1 : S27
  f2 : Int
  f3 : Int
def z42 : S42 := ⟨false, z27, 0, 0⟩
def k42 : Kd S42 := Kd.iso (Kd.pair Kd.bool (Kd.pair k27 (Kd.pair (Kd.int .i64) (Kd.int .i64)))) (fun x : S42 => (x.f0, x.f1, x.f2, x.f3))
def enc42 (x : S42) : List Value := [.bool x.f0, .string x.f1.f0, .int .i64 x.f1.f1, .int .u16 x.f1.f2, .string x.f1.f3, .int .i64 x.f1.f4, .int .i64 x.f2, .int .i64 x.f3]
theorem k42_open {w : World} {x : S42} {cs : List Value} (h : k42.K w x cs) : cs = enc42 x := by
  obtain ⟨_, _, rfl, rfl, ⟨_, _, rfl, s0, ⟨_, _, rfl, rfl, rfl⟩⟩⟩ := h
  obtain rfl := k27_open s0
  exact rfl
theorem at_T42 {w : World} {A : Option Addr} {n : Nat} {xs : List S42} (h : Kd.C k42 w A n xs) (i : Nat) (h1 : i < xs.length) : ∃ ad, A = some ad ∧ ∃ x, x = xs[i] ∧ w.cell? (ad.add (i * 8)) = some (.bool x.f0) ∧ w.cell? ⟨(ad.add (i * 8)).block, (ad.add (i * 8)).off + 1, none⟩ = some (.string x.f1.f0) ∧ w.cell? ⟨(ad.add (i * 8)).block, (ad.add (i * 8)).off + 2, none⟩ = some (.int .i64 x.f1.f1) ∧ w.cell? ⟨(ad.add (i * 8)).block, (ad.add (i * 8)).off + 3, none⟩ = some (.int .u16 x.f1.f2) ∧ w.cell? ⟨(ad.add (i * 8)).block, (ad.add (i * 8)).off + 4, none⟩ = some (.string x.f1.f3) ∧ w.cell? ⟨(ad.add (i * 8)).block, (ad.add (i * 8)).off + 5, none⟩ = some (.int .i64 x.f1.f4) ∧ w.cell? ⟨(ad.add (i * 8)).block, (ad.add (i * 8)).off + 6, none⟩ = some (.int .i64 x.f2) ∧ w.cell? ⟨(ad.add (i * 8)).block, (ad.add (i * 8)).off + 7, none⟩ = some (.int .i64 x.f3) := by
  have hn : n = xs.length := h.1.symm
  obtain ⟨ad, c, e, _, hK, hc0⟩ := Kd.C_get h z42 (i : Int) (by omega) (by omega)
  have hc : ∀ j u, c[j]? = some u → w.cell? (ad.add (i * 8 + j)) = some u := hc0
  have hx : xs.getD (i : Int).toNat z42 = xs[i] := by simp [h1]
  rw [hx] at hK
  obtain rfl := k42_open hK
  exact ⟨ad, e, _, rfl, hc 0 _ rfl, by rw [← add_field _ _ 1 (by omega)]; exact hc 1 _ rfl, by rw [← add_field _ _ 2 (by omega)]; exact hc 2 _ rfl, by rw [← add_field _ _ 3 (by omega)]; exact hc 3 _ rfl, by rw [← add_field _ _ 4 (by omega)]; exact hc 4 _ rfl, by rw [← add_field _ _ 5 (by omega)]; exact hc 5 _ rfl, by rw [← add_field _ _ 6 (by omega)]; exact hc 6 _ rfl, by rw [← add_field _ _ 7 (by omega)]; exact hc 7 _ rfl⟩
structure G6 (w0 w : World) (p : Nat) : Prop where
  os : w.os = w0.os
  tape : w.tape = w0.tape
  output : w.output = w0.output
  size : w0.heap.size ≤ w.heap.size
  block : ∀ k, k < w0.heap.size → k ≠ p → w.heap[k]? = w0.heap[k]?
theorem G6.refl (w : World) (p : Nat) : G6 w w p := ⟨rfl, rfl, rfl, Nat.le_refl _, fun _ _ _ => rfl⟩
theorem G6.below {w0 w w' : World} {p : Nat} (h : G6 w0 w p) (hb : Below w.heap.size w w') : G6 w0 w' p :=
  ⟨hb.os.trans h.os, hb.tape.trans h.tape, hb.output.trans h.output, Nat.le_trans h.size hb.size, fun k hk hp => (hb.block k (Nat.lt_of_lt_of_le hk h.size)).trans (h.block k hk hp)⟩
theorem G6.set {w0 w : World} {p : Nat} (h : G6 w0 w p) (i : Nat) (u : Value) : G6 w0 (w.setCell ⟨p, i, none⟩ u) p :=
  ⟨h.os, h.tape, h.output, by rw [size_set]; exact h.size, fun k hk hp => by rw [Below.heap_setCell w ⟨p, i, none⟩ _ k hp]; exact h.block k hk hp⟩
theorem G6.of_below {w w' : World} (hb : Below w.heap.size w w') (p : Nat) : G6 w w' p := (G6.refl w p).below hb
theorem G6.toBelow {W0 w w' : World} {p : Nat} (h : G6 w w' p) (hb : Below W0.heap.size W0 w) (hp : W0.heap.size ≤ p) : Below W0.heap.size W0 w' :=
  ⟨h.os.trans hb.os, h.tape.trans hb.tape, h.output.trans hb.output, Nat.le_trans hb.size h.size, fun k hk => (h.block k (Nat.lt_of_lt_of_le hk hb.size) (by omega)).trans (hb.block k hk)⟩
/-- What a call on both queues may change of what is there: the queue's cell, its row, the document's row. -/
def Free (g : Nat) (v u : Value) (k : Nat) : Prop := k = g ∨ v.ownBlock = some k ∨ u.ownBlock = some k
theorem Ex.kept {w w' : World} {g : Nat} {v v' : Value} (h : Ex w w' g v v') (u : Value) : Kept w w' (Free g v u) := ⟨h.size, fun i hi hn => h.keep.2 i hi (fun e => hn (.inl e)) (fun e => hn (.inr (.inl e.symm)))⟩
theorem e69 : ∀ q, q ∈ 69 :: k69.E → q = 69 := fun q hq => by
  have e : k69.E = [] := rfl
  rw [e] at hq
  rcases List.mem_cons.1 hq with rfl | h
  · rfl
  · cases h
/-- A block of another kind stays. -/
theorem Ex.blk {B : Nat} {w w' : World} {g : Nat} {v v' : Value} {l : List S47} {came lost : Int} (hx : Ex w w' g v v') (hQ : Qv B w g v l came lost) {k t : Nat} {cells : Array Value} (hb : w.heap[k]? = some (.cells cells t (0, 0))) (h1 : t ≠ 55) (h2 : t ≠ 47) : w'.heap[k]? = some (.cells cells t (0, 0)) := by
  refine (hx.keep.2 k (blk_lt hb) (fun e => ?_) (fun e => ?_)).trans hb
  · rw [e, hQ.cell] at hb
    injection hb with hb
    injection hb with _ hb _
    exact h1 hb.symm
  · obtain ⟨_, _, _, cells', hc⟩ := hQ.row.bound e.symm
    rw [hc] at hb
    injection hb with hb
    injection hb with _ hb _
    exact h2 hb.symm
/-- The queue stays where only what is no queue's changes. -/
theorem Qv.kept {B : Nat} {w w' : World} {g : Nat} {v : Value} {l : List S47} {came lost : Int} {S : Nat → Prop} (h : Qv B w g v l came lost) (hk : Kept w w' S) (h1 : ¬ S g) (h2 : ∀ b, v.ownBlock = some b → ¬ S b) : Qv B w' g v l came lost :=
  ⟨(hk.2 g h.lt h1).trans h.cell, h.low, h.row.map rfl (fun v' he hr => Kd.R_mono (Kd.R_kept (Kd.R_tight rfl hr) hk (fun k hk2 => h2 k (he ▸ hk2.symm))) (fun k hk2 => hr.1 k hk2.symm)), h.nil⟩
end Go.Proofs.YtmifpookhhkgeaaDoor.Q
