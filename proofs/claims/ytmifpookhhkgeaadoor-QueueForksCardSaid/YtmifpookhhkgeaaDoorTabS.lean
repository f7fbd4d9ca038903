/- What is asked of the library's tables and errors: they are as they were laid. -/
import Derived.Test.YtmifpookhhkgeaaDoorWWords
import Derived.Lib.AppendIntMem
import Derived.Lib.LaidTab
import Derived.Test.YtmifpookhhkgeaaDoorProg
set_option linter.unusedVariables false
namespace Go.Proofs.YtmifpookhhkgeaaDoor.G
open Go.RowKit Go.Lib
/-- A variable of the program reads on as it did. -/
theorem var_below {P : Program} {w w' : World} {name : String} {cs : Array Value} (hb : Below w.heap.size w w') (h : w.var? P name = some cs) : w'.var? P name = some cs := by
  unfold World.var? at *
  cases hg : P.globalNamed name with
  | none => simp [hg] at h
  | some g =>
    simp only [hg, Option.bind_some] at h ⊢
    have hlt : g < w.heap.size := by
      rcases Nat.lt_or_ge g w.heap.size with h' | h'
      · exact h'
      · rw [Array.getElem?_eq_none h'] at h; simp at h
    rw [hb.block g hlt]
    exact h
/-- The table of powers of ten. -/
structure TabS (w : World) : Prop where
  pow : Lib.TabIs Tryd.prog w "internal/strconv.uint64pow10" .u64 Lib.pow10Tab
theorem TabS.below {w w' : World} (h : TabS w) (hb : Below w.heap.size w w') : TabS w' := ⟨var_below hb h.pow⟩
/-- The same, and the library's two errors of numerals. -/
structure TabE (w : World) : Prop where
  tab : TabS w
  syn : ∃ tp p, w.var? Tryd.prog "strconv.ErrSyntax" = some #[.iface tp p]
  rng : ∃ tp p, w.var? Tryd.prog "strconv.ErrRange" = some #[.iface tp p]
theorem TabE.below {w w' : World} (h : TabE w) (hb : Below w.heap.size w w') : TabE w' := by
  obtain ⟨h1, ⟨tp, p, h2⟩, ⟨tq, q, h3⟩⟩ := h
  exact ⟨h1.below hb, ⟨tp, p, var_below hb h2⟩, ⟨tq, q, var_below hb h3⟩⟩
end Go.Proofs.YtmifpookhhkgeaaDoor.G
