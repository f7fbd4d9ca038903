/- Read: the plain words, the state of the walk. -/
import Derived.Test.YtgipdacenppmdaaDoorIV
set_option linter.unusedVariables false
set_option linter.unusedSimpArgs false
namespace Go.Proofs.YtgipdacenppmdaaDoor.G
open Go.RowKit Go.Shelf Go.Lib Go.Sort Go.Proofs.YtgipdacenppmdaaDoorW.PrintWords Go.Proofs.YtgipdacenppmdaaDoor.P
def aheadW : ByteArray := ⟨#[97, 104, 101, 97, 100]⟩
def rgsB (k : Int) (s : ByteArray) : List S37 := (splitC s ⟨#[44]⟩).map (rngR k)
/-- An interval of its name, its rows and its days ahead. -/
def mk24 (nm : ByteArray) (ls : Nat → List S37) (ah : Int) : S24 := ⟨nm, ls 0, ls 1, ls 2, ls 3, ls 4, ah⟩
def rdK (key rest : ByteArray) (n : Nat) (ls : Nat → List S37) : Nat → List S37 := fun i => if i < n ∧ wordB (i : Int) = key then rgsB (i : Int) rest else ls i
def rdStep (x : (Nat → List S37) × Int) (wd : ByteArray) : (Nat → List S37) × Int :=
  if (cut2 wd ⟨#[61]⟩).1 = aheadW then (x.1, (atoiR (cut2 wd ⟨#[61]⟩).2.1).1) else (rdK (cut2 wd ⟨#[61]⟩).1 (cut2 wd ⟨#[61]⟩).2.1 5 x.1, x.2)
def rdAll (s : ByteArray) : S24 :=
  let l := splitC s ⟨#[32]⟩
  let x := l.tail.foldl rdStep (fun _ => [], 0)
  mk24 (l.getD 0 ByteArray.empty) x.1 x.2
def IRead.f (a0 : ByteArray) : Option (ByteArray × (List (S37)) × (List (S37)) × (List (S37)) × (List (S37)) × (List (S37)) × Int × Int) :=
  if a0.size ≤ 1000000 then
    (IText.f (rdAll a0).f0 (rdAll a0).f1 (rdAll a0).f2 (rdAll a0).f3 (rdAll a0).f4 (rdAll a0).f5 (rdAll a0).f6).bind fun t =>
      some (if t.2 = 0 ∧ t.1 = a0 then ((rdAll a0).f0, (rdAll a0).f1, (rdAll a0).f2, (rdAll a0).f3, (rdAll a0).f4, (rdAll a0).f5, (rdAll a0).f6, 0) else (⟨#[]⟩, [], [], [], [], [], 0, 4))
  else none
/-- The cells of an interval. -/
def cs24 (nm : ByteArray) (vs : Nat → Value) (ah : Int) : Array Value := #[.string nm, vs 0, vs 1, vs 2, vs 3, vs 4, .int .i64 ah]
def ptrs (p5 : Nat) : Array Value := #[.pointer (some ⟨p5, 1, none⟩), .pointer (some ⟨p5, 2, none⟩), .pointer (some ⟨p5, 3, none⟩), .pointer (some ⟨p5, 4, none⟩), .pointer (some ⟨p5, 5, none⟩)]
structure RS (b : Nat) (W : World) (p5 p6 : Nat) (nm : ByteArray) (vs : Nat → Value) (ls : Nat → List S37) (ah : Int) : Prop where
  cell : W.heap[p5]? = some (.cells (cs24 nm vs ah) 24 (0, 0))
  row : ∀ i, i < 5 → Kd.R k37 37 W b (fun j => j ≠ p5) (vs i) (ls i)
  dis : ∀ i j, i < 5 → j < 5 → i ≠ j → ∀ g, (vs i).ownBlock = some g → (vs j).ownBlock ≠ some g
  ptr : W.heap[p6]? = some (.cells (ptrs p5) 43 (0, 0))
theorem RS.ne {b : Nat} {W : World} {p5 p6 : Nat} {nm : ByteArray} {vs : Nat → Value} {ls : Nat → List S37} {ah : Int} (h : RS b W p5 p6 nm vs ls ah) : p6 ≠ p5 := blk_ne h.ptr h.cell (by decide)
theorem RS.below {b : Nat} {W W' : World} {p5 p6 : Nat} {nm : ByteArray} {vs : Nat → Value} {ls : Nat → List S37} {ah : Int} (h : RS b W p5 p6 nm vs ls ah) (hb : Below W.heap.size W W') : RS b W' p5 p6 nm vs ls ah :=
  ⟨(hb.block _ (blk_lt h.cell)).trans h.cell, fun i hi => Kd.R_below (h.row i hi) hb, h.dis, (hb.block _ (blk_lt h.ptr)).trans h.ptr⟩
theorem set_upd (vs : Nat → Value) (nm : ByteArray) (ah : Int) (k : Nat) (hk : k < 5) (v : Value) : (cs24 nm vs ah).setIfInBounds (k + 1) v = cs24 nm (fun i => if i = k then v else vs i) ah := by
  have h : k = 0 ∨ k = 1 ∨ k = 2 ∨ k = 3 ∨ k = 4 := by omega
  rcases h with rfl | rfl | rfl | rfl | rfl <;> simp [cs24]
theorem set_self (vs : Nat → Value) (nm : ByteArray) (ah : Int) (k : Nat) (hk : k < 5) : (cs24 nm vs ah).setIfInBounds (k + 1) (vs k) = cs24 nm vs ah := by
  have h : k = 0 ∨ k = 1 ∨ k = 2 ∨ k = 3 ∨ k = 4 := by omega
  rcases h with rfl | rfl | rfl | rfl | rfl <;> simp [cs24]
theorem get_upd (vs : Nat → Value) (nm : ByteArray) (ah : Int) (k : Nat) (hk : k < 5) (v : Value) : ((cs24 nm vs ah).setIfInBounds (k + 1) v)[k + 1]? = some v := by
  have h : k = 0 ∨ k = 1 ∨ k = 2 ∨ k = 3 ∨ k = 4 := by omega
  rcases h with rfl | rfl | rfl | rfl | rfl <;> simp [cs24]
theorem ptrs_get (p5 k : Nat) (hk : k < 5) : (ptrs p5)[k]? = some (.pointer (some ⟨p5, k + 1, none⟩)) := by
  have h : k = 0 ∨ k = 1 ∨ k = 2 ∨ k = 3 ∨ k = 4 := by omega
  rcases h with rfl | rfl | rfl | rfl | rfl <;> rfl
/-- What the store of a row leaves. -/
def F7 (p5 k b0 : Nat) (cs0 : Array Value) (ln : List S37) (w : World) : Prop := ∃ v, w.heap[p5]? = some (.cells (cs0.setIfInBounds (k + 1) v) 24 (0, 0)) ∧ Kd.R k37 37 w b0 (fun i => i ≠ p5) v ln
theorem F7.below {p5 k b0 : Nat} {cs0 : Array Value} {ln : List S37} {w w' : World} (h : F7 p5 k b0 cs0 ln w) (hb : Below w.heap.size w w') : F7 p5 k b0 cs0 ln w' := by
  obtain ⟨v, h1, h2⟩ := h
  exact ⟨v, (hb.block _ (blk_lt h1)).trans h1, Kd.R_below h2 hb⟩
def Keep7 (p5 : Nat) (w w' : World) : Prop := w.heap.size ≤ w'.heap.size ∧ ∀ i, i < w.heap.size → i ≠ p5 → w'.heap[i]? = w.heap[i]?
theorem RS.put {b : Nat} {W W' : World} {p5 p6 : Nat} {nm : ByteArray} {vs : Nat → Value} {ls : Nat → List S37} {ah : Int} {k : Nat} {ln : List S37} {v : Value} (hk : k < 5) (hbz : b ≤ W.heap.size) (h : RS b W p5 p6 nm vs ls ah) (hg : G6 W W' p5) (hc : W'.heap[p5]? = some (.cells ((cs24 nm vs ah).setIfInBounds (k + 1) v) 24 (0, 0))) (hR : Kd.R k37 37 W' W.heap.size (fun i => i ≠ p5) v ln) : RS b W' p5 p6 nm (fun i => if i = k then v else vs i) (fun i => if i = k then ln else ls i) ah := by
  have hown : ∀ g, v.ownBlock = some g → W.heap.size ≤ g := fun g hg => ((Kd.R_bound hR).1 g hg).2.1
  have hold : ∀ i, i < 5 → ∀ g, (vs i).ownBlock = some g → g < W.heap.size := fun i hi g hg => ((Kd.R_bound (h.row i hi)).1 g hg).2.2.1
  refine ⟨by rw [hc, set_upd vs nm ah k hk v], fun i hi => ?_, fun i j hi hj hij g hgi => ?_, (hg.block _ (blk_lt h.ptr) h.ne).trans h.ptr⟩
  · by_cases e : i = k
    · simp only [e, if_true]; exact Kd.R_lower hR hbz
    · simp only [e, if_false]
      exact Kd.R_step (h.row i hi) (fun q ho hlt => hg.block q hlt ho)
  · by_cases e : i = k
    · by_cases e2 : j = k
      · exact absurd (e.trans e2.symm) hij
      · simp only [e, if_true] at hgi
        simp only [e2, if_false]
        intro h2
        have h3 := hold j hj g h2
        have h4 := hown g hgi
        omega
    · simp only [e, if_false] at hgi
      by_cases e2 : j = k
      · simp only [e2, if_true]
        intro h2
        have h3 := hold i hi g hgi
        have h4 := hown g h2
        omega
      · simp only [e2, if_false]
        exact h.dis i j hi hj hij g hgi
theorem RS.ahead {b : Nat} {W : World} {p5 p6 : Nat} {nm : ByteArray} {vs : Nat → Value} {ls : Nat → List S37} {ah : Int} (h : RS b W p5 p6 nm vs ls ah) (n : Int) : RS b (W.setCell ⟨p5, 6, none⟩ (.int .i64 n)) p5 p6 nm vs ls n :=
  ⟨blk_put h.cell 6 _ rfl, fun i hi => Kd.R_far (h.row i hi) (p := ⟨p5, 6, none⟩) (fun k hk => hk) _, h.dis, by rw [Below.heap_setCell W ⟨p5, 6, none⟩ _ p6 h.ne]; exact h.ptr⟩
end Go.Proofs.YtgipdacenppmdaaDoor.G
