/- What is read by its cells stays read where all cells stay: a map's block alone may turn. -/
import Derived.Test.YtbocdfpgjkjilaaWWords
import Derived.Maps.Range
set_option linter.unusedVariables false
set_option linter.unusedSimpArgs false
namespace Go.Proofs.Ytbocdfpgjkjilaa.Cells
open Go.RowKit Go.Proofs.YtbocdfpgjkjilaaW.PrintWords

/-- All cells that were there are as they were. -/
def Stays (w w' : World) : Prop := ∀ a v, w.cell? a = some v → w'.cell? a = some v
theorem Stays.refl (w : World) : Stays w w := fun _ _ h => h
theorem Stays.trans {a b c : World} (h : Stays a b) (k : Stays b c) : Stays a c := fun x v hx => k x v (h x v hx)
theorem Stays.below {w w' : World} (h : Below w.heap.size w w') : Stays w w' := fun a v hc => (h.cell (World.block_lt_of_cell? w a hc)).trans hc
theorem Stays.grown {w w' : World} {row : Option Nat} (h : w.grownBy w' row) (hr : ∀ b, row = some b → ∃ es clock, w.heap[b]? = some (.map es clock)) : Stays w w' := fun a v hc => by
  refine (World.cell?_of_block (h.block a.block (World.block_lt_of_cell? w a hc) (fun e => ?_))).trans hc
  obtain ⟨es, clock, hb⟩ := hr a.block e.symm
  simp [World.cell?, hb] at hc
/-- What an element's cells say lives on where all cells stay. -/
def KStays {α : Type} (d : Kd α) : Prop := ∀ w w', Stays w w' → ∀ x cs, d.K w x cs → d.K w' x cs
theorem KStays.C {α : Type} {d : Kd α} (hd : KStays d) {w w' : World} (h : Stays w w') {A : Option Addr} {n : Nat} {xs : List α} (hc : d.C w A n xs) : d.C w' A n xs :=
  ⟨hc.1, hc.2.1, fun hn => by
    obtain ⟨ad, e, hr⟩ := hc.2.2 hn
    refine ⟨ad, e, fun j p hj => ?_⟩
    obtain ⟨c, h1, h2, h3⟩ := hr j p hj
    exact ⟨c, h1, hd w w' h _ _ h2, fun i u hu => h _ _ (h3 i u hu)⟩⟩
theorem KStays.scalar {α : Type} (enc : α → Value) (h1 : ∀ x, (enc x).oneCell' = true) : KStays (Kd.scalar enc h1) := fun _ _ _ _ _ h => h
theorem KStays.slice {α : Type} (e : Nat) {d : Kd α} (hd : KStays d) : KStays (Kd.slice e d) := fun w w' h x cs ⟨A, c, e1, e2, e3⟩ => ⟨A, c, e1, e2, hd.C h e3⟩
theorem KStays.pair {α β : Type} {a : Kd α} {b : Kd β} (ha : KStays a) (hb : KStays b) : KStays (Kd.pair a b) := fun w w' h x cs ⟨c0, c1, e1, e2, e3⟩ => ⟨c0, c1, e1, ha w w' h _ _ e2, hb w w' h _ _ e3⟩
theorem KStays.iso {α β : Type} {d : Kd α} (hd : KStays d) (f : β → α) : KStays (Kd.iso d f) := fun w w' h x cs e => hd w w' h _ _ e
/-- A row that the call owns is none of its maps. -/
theorem R_map {α : Type} {d : Kd α} {e base : Nat} {ok : Nat → Prop} {w w' : World} {v : Value} {xs : List α} {b : Nat} (h : d.R e w base ok v xs) (hg : w.grownBy w' (some b)) (hb : ∃ es clock, w.heap[b]? = some (.map es clock)) : d.R e w' base ok v xs := by
  obtain ⟨es, clock, hb⟩ := hb
  refine Kd.R_mono (Kd.R_move (Kd.R_bound h) (fun k hk => hg.block k hk.2.2.1 (fun e => ?_))) (fun _ hk => hk.1)
  obtain ⟨_, _, _, q, _, cells, hc⟩ := hk
  have : k = b := by simpa using e
  subst this
  rw [hb] at hc
  cases hc
end Go.Proofs.Ytbocdfpgjkjilaa.Cells
