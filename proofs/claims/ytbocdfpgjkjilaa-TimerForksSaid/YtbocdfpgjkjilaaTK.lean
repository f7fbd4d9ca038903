/- The law's own box of the document's timers: what a store into it leaves, and what a world above leaves. -/
import Derived.Test.YtbocdfpgjkjilaaTJ
import Derived.Test.YtbocdfpgjkjilaaTG
import Derived.Test.YtbocdfpgjkjilaaReg3
set_option linter.unusedVariables false
set_option linter.unusedSimpArgs false
namespace Go.Proofs.Ytbocdfpgjkjilaa.T
open Go.RowKit Go.Maps Go.Sort Go.Shelf Go.Proofs.YtbocdfpgjkjilaaW.PrintWords Go.Proofs.Ytbocdfpgjkjilaa.PTimerPlays Go.Proofs.Ytbocdfpgjkjilaa.R Go.Proofs.Ytbocdfpgjkjilaa.Cells

theorem Pl.below {w w' : World} {g b c : Nat} {A : Option Addr} {L : List S52} (h : Pl w g b A c L) (hb : Below w.heap.size w w') : Pl w' g b A c L :=
  ⟨h.1.below hb, Kd.C_below h.2.1 hb, h.2.2.1, h.2.2.2.1, fun ad e => by obtain ⟨cells, hc⟩ := h.2.2.2.2.1 ad e; exact ⟨cells, blk_below hc hb⟩, h.2.2.2.2.2⟩
theorem add_block (ad : Addr) (i : Nat) : (ad.add i).block = ad.block := by unfold Addr.add; split <;> rfl
theorem C_set {w : World} {A : Option Addr} {n : Nat} {L : List S52} {bx t : Nat} {cs : Array Value} (hC : Kd.C k52 w A n L) (hT : Ty w A) (hb : w.heap[bx]? = some (.cells cs t (0, 0))) (ht : t ≠ 52) (v : Value) : Kd.C k52 (w.setCell ⟨bx, 0, none⟩ v) A n L :=
  ⟨hC.1, hC.2.1, fun hn => by
    obtain ⟨ad, e, hr⟩ := hC.2.2 hn
    obtain ⟨cells, hc⟩ := hT ad e
    have hne : ad.block ≠ bx := blk_ne hc hb (fun e => ht e.symm)
    refine ⟨ad, e, fun j p hj => ?_⟩
    obtain ⟨c, h1, h2, h3⟩ := hr j p hj
    refine ⟨c, h1, ?_, fun i u hu => ?_⟩
    · rw [k52_open h2]; exact k52_mk _ p
    · exact (World.cell?_of_block (Below.heap_setCell w ⟨bx, 0, none⟩ v _ (by rw [add_block]; exact hne))).trans (h3 i u hu)⟩
theorem Tm.far {w : World} {g b : Nat} {L : List S52} {bx t : Nat} {cs : Array Value} (h : Tm w g b L) (hb : w.heap[bx]? = some (.cells cs t (0, 0))) (ht : t ≠ 56) : g ≠ bx ∧ b ≠ bx := by
  obtain ⟨es, clock, hm⟩ := h.map
  exact ⟨blk_ne h.1 hb (fun e => ht e.symm), fun e => by rw [e, hb] at hm; cases hm⟩
theorem Pl.set {w : World} {g b c : Nat} {A : Option Addr} {L : List S52} {bx : Nat} {cs : Array Value} (h : Pl w g b A c L) (hb : w.heap[bx]? = some (.cells cs 39 (0, 0))) (v : Value) : Pl (w.setCell ⟨bx, 0, none⟩ v) g b A c L := by
  obtain ⟨hT, hC, hcap, hS, hTy, hN⟩ := h
  obtain ⟨h1, h2⟩ := hT.far hb (by decide)
  refine ⟨hT.kept (grown_set w bx v) (fun e => h1 (by injection e)) (fun e => h2 (by injection e)), C_set hC hTy hb (by decide) v, hcap, hS, fun ad e => ?_, hN⟩
  obtain ⟨cells, hc⟩ := hTy ad e
  exact ⟨cells, blk_far (p := ⟨bx, 0, none⟩) hc (blk_ne hc hb (by decide)) v⟩
/-- A call's argument is as the law wants it. -/
def ActOk (y : S44) : Prop := (0 ≤ y.f0 ∧ y.f0 < 256) ∧ y.f1.size ≤ maxLen
theorem fewB_len {l : List S44} (h : fewB l = true) : l.length ≤ 150 ∧ ∀ y ∈ l, y.f4.length ≤ 60 := by
  unfold fewB at h
  rw [Bool.and_eq_true] at h
  refine ⟨by simpa using h.1, fun y hy => ?_⟩
  have := List.all_eq_true.1 h.2 y hy
  simpa using this
theorem pl_nil {w : World} {g b : Nat} (h : Tm w g b []) : Pl w g b none 0 [] := ⟨h, ⟨rfl, by simp, fun hn => absurd hn (by simp)⟩, Nat.le_refl _, List.Pairwise.nil, Ty.none w, fun y hy => (by cases hy)⟩
end Go.Proofs.Ytbocdfpgjkjilaa.T
