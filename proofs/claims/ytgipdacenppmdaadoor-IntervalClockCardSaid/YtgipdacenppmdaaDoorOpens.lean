/- From a row's reading of an argument to what its cells say (the kinds of the printed words): by the type, one step a type. -/
import Derived.Test.YtgipdacenppmdaaDoorWWords
import Derived.Deep.Slices
import Derived.DataReads
import Derived.OpenShut
set_option linter.unusedVariables false
set_option linter.unusedSimpArgs false
namespace Go.Proofs.YtgipdacenppmdaaDoor.Opn
open Go.RowKit Go.Proofs.YtgipdacenppmdaaDoorW.PrintWords

theorem list_lt {α : Type} {p : Nat → α → Prop} : ∀ (n : Nat), (∀ i, i < n → ∃ a, p i a) → ∃ l : List α, l.length = n ∧ ∀ i a, l[i]? = some a → p i a
  | 0, _ => ⟨[], rfl, fun i a h => by simp at h⟩
  | n + 1, h => by
    obtain ⟨l, hl, hp⟩ := list_lt n (fun i hi => h i (by omega))
    obtain ⟨a, ha⟩ := h n (by omega)
    refine ⟨l ++ [a], by simp [hl], fun i b hb => ?_⟩
    rcases Nat.lt_trichotomy i l.length with hi | hi | hi
    · rw [List.getElem?_append_left hi] at hb
      exact hp i b hb
    · subst hi
      simp at hb
      subst hb
      rw [hl]
      exact ha
    · rw [List.getElem?_eq_none (by simp; omega)] at hb
      cases hb

section
variable {H : Type} {enc : TypeId × Value → H} {P : Program} {w : World} {base : Nat} {spare : Nat → Bool} {held : Bool}

/-- What reads as a value of type t is one of kind d, and more. -/
def Opens {α : Type} (enc : TypeId × Value → H) (P : Program) (w : World) (base : Nat) (spare : Nat → Bool) (held : Bool) (t : TypeId) (d : Kd α) (ok : α → Prop) : Prop :=
  ∀ fuel cs x, DataW.trod enc P w base spare held fuel t cs = some x → ∃ a, d.K w a cs ∧ ok a
theorem Opens.int {t : TypeId} {k : IntKind} (ht : P.underlying t = some (.int k)) : Opens enc P w base spare held t (Kd.int k) (fun n => (Lit.int k n).wf = true) := fun fuel cs x h => by
  obtain ⟨n, rfl, _, hw⟩ := DataW.trod_int ht h
  exact ⟨n, rfl, hw⟩
theorem Opens.bool {t : TypeId} (ht : P.underlying t = some .bool) : Opens enc P w base spare held t Kd.bool (fun _ => True) := fun fuel cs x h => by
  obtain ⟨b, rfl, _⟩ := DataW.trod_bool ht h
  exact ⟨b, rfl, trivial⟩
theorem Opens.string {t : TypeId} (ht : P.underlying t = some .string) : Opens enc P w base spare held t Kd.string (fun s => s.size ≤ maxLen) := fun fuel cs x h => by
  obtain ⟨s, rfl, _, hw⟩ := DataW.trod_string ht h
  exact ⟨s, rfl, hw⟩
theorem Opens.imp {α : Type} {t : TypeId} {d : Kd α} {ok ok' : α → Prop} (h : Opens enc P w base spare held t d ok) (hi : ∀ a, ok a → ok' a) : Opens enc P w base spare held t d ok' := fun fuel cs x hx => by
  obtain ⟨a, h1, h2⟩ := h fuel cs x hx
  exact ⟨a, h1, hi a h2⟩
theorem Opens.iso {α β : Type} {t : TypeId} {d : Kd α} {ok : α → Prop} (h : Opens enc P w base spare held t d ok) (f : β → α) (g : α → β) (hfg : ∀ a, f (g a) = a) : Opens enc P w base spare held t (Kd.iso d f) (fun b => ok (f b)) := fun fuel cs x hx => by
  obtain ⟨a, h1, h2⟩ := h fuel cs x hx
  refine ⟨g a, ?_, ?_⟩
  · show d.K w (f (g a)) cs
    rw [hfg]; exact h1
  · show ok (f (g a)); rw [hfg]; exact h2
/-- A slice, its length told. -/
theorem Opens.slice {α : Type} {t e : TypeId} {d : Kd α} {ok : α → Prop} (e' : Nat) (ht : P.underlying t = some (.slice e)) (hc : P.cellsOf e = d.sz) (he : Opens enc P w base spare held e d ok) : Opens enc P w base spare held t (Kd.slice e' d) (fun l => (∀ a ∈ l, ok a) ∧ l.length ≤ maxLen) := fun fuel cs x h => by
  rcases Deep.open_slice ht h with ⟨rfl, _⟩ | ⟨a, len, cap, m, n, D, Pl, rfl, hb, hl, hm, hmm, _, hx⟩
  · exact ⟨[], ⟨none, 0, rfl, Nat.le_refl _, rfl, by simp, fun h => absurd h (by simp)⟩, ⟨fun a ha => (by cases ha), Nat.zero_le _⟩⟩
  · have hlm : len ≤ m := by rw [hmm]; split <;> omega
    obtain ⟨l, hll, hp⟩ := list_lt (p := fun i (b : α) => ok b ∧ ∃ c, c.length = d.sz ∧ d.K w b c ∧ ∀ j u, c[j]? = some u → w.cell? (a.add (i * d.sz + j)) = some u) len (fun i hi => by
      obtain ⟨cs', h1, h2⟩ := hx i (by omega)
      obtain ⟨b, hk, hok⟩ := he _ _ _ h2
      obtain ⟨_, hlen, hcell⟩ := World.cells?_some h1
      refine ⟨b, hok, cs', by rw [hlen, hc], hk, fun j u hu => ?_⟩
      have hj : j < P.cellsOf e := by rw [← hlen]; exact (List.getElem?_eq_some_iff.1 hu).1
      have := hcell j hj
      rw [hu, Deep.add_add, hc] at this
      exact this)
    subst hll
    refine ⟨l, ⟨some a, cap, rfl, hl, rfl, ?_, fun _ => ⟨a, rfl, fun j b hj => (hp j b hj).2⟩⟩, fun b hbm => ?_, Nat.le_trans hl hm⟩
    · have : maxLen = 9223372036854775807 := rfl
      omega
    · obtain ⟨i, hi, rfl⟩ := List.getElem_of_mem hbm
      exact (hp i _ (List.getElem?_eq_getElem hi)).1
/-- A struct's fields from one on. -/
def OpT {α : Type} (enc : TypeId × Value → H) (P : Program) (w : World) (base : Nat) (spare : Nat → Bool) (held : Bool) (fs : List Field) (off : Nat) (d : Kd α) (ok : α → Prop) : Prop :=
  ∀ cs : List Value, (∀ f ∈ fs, ∃ n x, DataW.trod enc P w base spare held n f.type ((cs.drop f.offset).take (P.cellsOf f.type)) = some x) → cs.length = off + d.sz → ∃ a, d.K w a (cs.drop off) ∧ ok a
theorem OpT.one {α : Type} {f : Field} {d : Kd α} {ok : α → Prop} (h : Opens enc P w base spare held f.type d ok) (hc : P.cellsOf f.type = d.sz) : OpT enc P w base spare held [f] f.offset d ok := fun cs hf hl => by
  obtain ⟨n, x, hx⟩ := hf f (List.mem_singleton.2 rfl)
  rw [List.take_of_length_le (by simp; omega)] at hx
  exact h _ _ _ hx
theorem OpT.cons {α β : Type} {f : Field} {fs : List Field} {off : Nat} {d : Kd α} {d' : Kd β} {ok : α → Prop} {ok' : β → Prop} (h : Opens enc P w base spare held f.type d ok) (hc : P.cellsOf f.type = d.sz) (ho : off = f.offset + d.sz) (hs : OpT enc P w base spare held fs off d' ok') :
    OpT enc P w base spare held (f :: fs) f.offset (Kd.pair d d') (fun p => ok p.1 ∧ ok' p.2) := fun cs hf hl => by
  obtain ⟨n, x, hx⟩ := hf f List.mem_cons_self
  obtain ⟨a, ha, hoa⟩ := h _ _ _ hx
  have hl' : cs.length = f.offset + (d.sz + d'.sz) := hl
  obtain ⟨b, hb, hob⟩ := hs cs (fun g hg => hf g (List.mem_cons_of_mem _ hg)) (by omega)
  refine ⟨(a, b), ⟨_, _, ?_, ha, hb⟩, hoa, hob⟩
  rw [hc, ho, ← List.drop_drop, List.take_append_drop]
theorem Opens.struct {α : Type} {t : TypeId} {fs : Array Field} {d : Kd α} {ok : α → Prop} (ht : P.underlying t = some (.struct fs)) (hc : P.cellsOf t = d.sz) (h : OpT enc P w base spare held fs.toList 0 d ok) : Opens enc P w base spare held t d ok := fun fuel cs x hx => by
  obtain ⟨xs, n, _, _, hl, hlen, hf⟩ := DataW.trod_struct ht hx
  obtain ⟨a, h1, h2⟩ := h cs (fun f hm => by
    obtain ⟨i, hi, rfl⟩ := List.getElem_of_mem hm
    have hi' : i < fs.size := by simpa using hi
    have e : fs[i]? = some fs.toList[i] := by simp [hi']
    have := hf i _ e
    rw [List.getElem?_eq_getElem (by omega)] at this
    exact ⟨n, _, this⟩) (by rw [hl, hc]; omega)
  exact ⟨a, by simpa using h1, h2⟩
/-- An array of two. -/
theorem Opens.two {α : Type} {t e : TypeId} {d : Kd α} {ok : α → Prop} (ht : P.underlying t = some (.array 2 e)) (hc : P.cellsOf e = d.sz) (hct : P.cellsOf t = d.sz + d.sz) (h : Opens enc P w base spare held e d ok) : Opens enc P w base spare held t (Kd.pair d d) (fun p => ok p.1 ∧ ok p.2) := fun fuel cs x hx => by
  obtain ⟨xs, n, _, _, hl, hlen, hf⟩ := DataW.trod_array ht hx
  have h0 := hf 0 (by omega)
  have h1 := hf 1 (by omega)
  rw [List.getElem?_eq_getElem (by omega)] at h0 h1
  obtain ⟨a, ha, hoa⟩ := h _ _ _ h0
  obtain ⟨b, hb, hob⟩ := h _ _ _ h1
  refine ⟨(a, b), ⟨_, _, ?_, ha, hb⟩, hoa, hob⟩
  rw [hc]
  simp only [Nat.zero_mul, List.drop_zero, Nat.one_mul]
  rw [List.take_of_length_le (l := cs.drop d.sz) (by simp; omega), List.take_append_drop]
end
end Go.Proofs.YtgipdacenppmdaaDoor.Opn
