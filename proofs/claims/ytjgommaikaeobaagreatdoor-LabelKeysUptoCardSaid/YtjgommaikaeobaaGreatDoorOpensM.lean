/- From a row's reading of an argument to what its cells say, and how great it is by the form's bulk. -/
import Derived.Test.YtjgommaikaeobaaGreatDoorOpens
import Derived.Test.YtjgommaikaeobaaGreatDoorRows
set_option linter.unusedVariables false
set_option linter.unusedSimpArgs false
namespace Go.Proofs.YtjgommaikaeobaaGreatDoor.OpnM
open Go.RowKit Go.Proofs.YtjgommaikaeobaaGreatDoorW.PrintWords Go.Proofs.YtjgommaikaeobaaGreatDoor.Opn Go.Proofs.YtjgommaikaeobaaGreatDoor.Rows

theorem bulk_append {H : Type} (l r : List (DataW H)) : uptoBulkAll (l ++ r) = uptoBulkAll l + uptoBulkAll r := by
  induction l with
  | nil => simp [uptoBulkAll]
  | cons x l ih => simp only [List.cons_append, uptoBulkAll, ih]; omega
theorem bulk_range {H : Type} {α : Type} (D : Nat → DataW H) (mu : α → Nat) : ∀ (n : Nat) (l : List α), l.length = n → (∀ i a, l[i]? = some a → mu a ≤ uptoBulk (D i)) → (l.map mu).sum ≤ uptoBulkAll ((List.range n).map D) := by
  intro n
  induction n with
  | zero => intro l hl _; rw [List.eq_nil_of_length_eq_zero hl]; simp
  | succ n ih =>
    intro l hl h
    have hne : l ≠ [] := by intro e; rw [e] at hl; cases hl
    obtain ⟨l', a, rfl⟩ : ∃ l' a, l = l' ++ [a] := ⟨l.dropLast, l.getLast hne, (List.dropLast_concat_getLast hne).symm⟩
    have hl' : l'.length = n := by simpa using hl
    rw [List.range_succ, List.map_append, List.map_append, bulk_append, List.sum_append]
    have h1 := ih l' hl' (fun i b hb => h i b (by
      obtain ⟨hi, _⟩ := List.getElem?_eq_some_iff.1 hb
      rw [List.getElem?_append_left hi]; exact hb))
    have h2 := h n a (by rw [← hl']; simp)
    simp only [List.map_cons, List.map_nil, List.sum_cons, List.sum_nil, uptoBulkAll]
    omega
section
variable {H : Type} {enc : TypeId × Value → H} {P : Program} {w : World} {base : Nat} {spare : Nat → Bool} {held : Bool}
/-- What reads as a value of type t is one of kind d, and more; it is no greater than its bulk. -/
def OpensM {α : Type} (enc : TypeId × Value → H) (P : Program) (w : World) (base : Nat) (spare : Nat → Bool) (held : Bool) (t : TypeId) (d : Kd α) (ok : α → Prop) (mu : α → Nat) : Prop :=
  ∀ fuel cs x, DataW.trod enc P w base spare held fuel t cs = some x → ∃ a, d.K w a cs ∧ ok a ∧ mu a ≤ uptoBulk x.1
theorem OpensM.int {t : TypeId} {k : IntKind} (ht : P.underlying t = some (.int k)) : OpensM enc P w base spare held t (Kd.int k) (fun n => (Lit.int k n).wf = true) (fun _ => 1) := fun fuel cs x h => by
  obtain ⟨n, rfl, rfl, hw⟩ := DataW.trod_int ht h
  exact ⟨n, rfl, hw, by simp [uptoBulk]⟩
theorem OpensM.bool {t : TypeId} (ht : P.underlying t = some .bool) : OpensM enc P w base spare held t Kd.bool (fun _ => True) (fun _ => 1) := fun fuel cs x h => by
  obtain ⟨b, rfl, rfl⟩ := DataW.trod_bool ht h
  exact ⟨b, rfl, trivial, by simp [uptoBulk]⟩
theorem OpensM.string {t : TypeId} (ht : P.underlying t = some .string) : OpensM enc P w base spare held t Kd.string (fun s => s.size ≤ maxLen) (fun s => s.size + 1) := fun fuel cs x h => by
  obtain ⟨s, rfl, rfl, hw⟩ := DataW.trod_string ht h
  exact ⟨s, rfl, hw, by simp [uptoBulk]⟩
theorem OpensM.imp {α : Type} {t : TypeId} {d : Kd α} {ok ok' : α → Prop} {mu mu' : α → Nat} (h : OpensM enc P w base spare held t d ok mu) (hi : ∀ a, ok a → ok' a) (hm : ∀ a, mu' a ≤ mu a) : OpensM enc P w base spare held t d ok' mu' := fun fuel cs x hx => by
  obtain ⟨a, h1, h2, h3⟩ := h fuel cs x hx
  exact ⟨a, h1, hi a h2, Nat.le_trans (hm a) h3⟩
theorem OpensM.iso {α β : Type} {t : TypeId} {d : Kd α} {ok : α → Prop} {mu : α → Nat} (h : OpensM enc P w base spare held t d ok mu) (f : β → α) (g : α → β) (hfg : ∀ a, f (g a) = a) : OpensM enc P w base spare held t (Kd.iso d f) (fun b => ok (f b)) (fun b => mu (f b)) := fun fuel cs x hx => by
  obtain ⟨a, h1, h2, h3⟩ := h fuel cs x hx
  refine ⟨g a, ?_, ?_, ?_⟩
  · show d.K w (f (g a)) cs
    rw [hfg]; exact h1
  · show ok (f (g a)); rw [hfg]; exact h2
  · show mu (f (g a)) ≤ _; rw [hfg]; exact h3
theorem OpensM.slice {α : Type} {t e : TypeId} {d : Kd α} {ok : α → Prop} {mu : α → Nat} (e' : Nat) (ht : P.underlying t = some (.slice e)) (hc : P.cellsOf e = d.sz) (he : OpensM enc P w base spare held e d ok mu) :
    OpensM enc P w base spare held t (Kd.slice e' d) (fun l => (∀ a ∈ l, ok a) ∧ l.length ≤ maxLen) (fun l => (l.map mu).sum + 1) := fun fuel cs x h => by
  rcases Deep.open_slice ht h with ⟨rfl, rfl⟩ | ⟨a, len, cap, m, n, D, Pl, rfl, hb, hl, hm, hmm, rfl, hx⟩
  · exact ⟨[], ⟨none, 0, rfl, Nat.le_refl _, rfl, by simp, fun h => absurd h (by simp)⟩, ⟨fun a ha => (by cases ha), Nat.zero_le _⟩, by simp [uptoBulk]⟩
  · have hlm : len ≤ m := by rw [hmm]; split <;> omega
    obtain ⟨l, hll, hp⟩ := list_lt (p := fun i (b : α) => (ok b ∧ mu b ≤ uptoBulk (D i)) ∧ ∃ c, c.length = d.sz ∧ d.K w b c ∧ ∀ j u, c[j]? = some u → w.cell? (a.add (i * d.sz + j)) = some u) len (fun i hi => by
      obtain ⟨cs', h1, h2⟩ := hx i (by omega)
      obtain ⟨b, hk, hok, hmu⟩ := he _ _ _ h2
      obtain ⟨_, hlen, hcell⟩ := World.cells?_some h1
      refine ⟨b, ⟨hok, hmu⟩, cs', by rw [hlen, hc], hk, fun j u hu => ?_⟩
      have hj : j < P.cellsOf e := by rw [← hlen]; exact (List.getElem?_eq_some_iff.1 hu).1
      have := hcell j hj
      rw [hu, Deep.add_add, hc] at this
      exact this)
    subst hll
    refine ⟨l, ⟨some a, cap, rfl, hl, rfl, ?_, fun _ => ⟨a, rfl, fun j b hj => (hp j b hj).2⟩⟩, ⟨fun b hbm => ?_, Nat.le_trans hl hm⟩, ?_⟩
    · have : maxLen = 9223372036854775807 := rfl
      omega
    · obtain ⟨i, hi, rfl⟩ := List.getElem_of_mem hbm
      exact (hp i _ (List.getElem?_eq_getElem hi)).1.1
    · have := bulk_range D mu l.length l rfl (fun i b hib => (hp i b hib).1.2)
      simp only [uptoBulk]
      omega
/-- A struct's fields from one on. -/
def OpTM {α : Type} (enc : TypeId × Value → H) (P : Program) (w : World) (base : Nat) (spare : Nat → Bool) (held : Bool) (fs : List Field) (off : Nat) (d : Kd α) (ok : α → Prop) (mu : α → Nat) : Prop :=
  ∀ (cs : List Value) (xs : List (DataW H × List MemPlace)), xs.length = fs.length → (∀ (i : Nat) f, fs[i]? = some f → ∃ n, DataW.trod enc P w base spare held n f.type ((cs.drop f.offset).take (P.cellsOf f.type)) = xs[i]?) → cs.length = off + d.sz → ∃ a, d.K w a (cs.drop off) ∧ ok a ∧ mu a ≤ uptoBulkAll (xs.map (·.1))
theorem OpTM.one {α : Type} {f : Field} {d : Kd α} {ok : α → Prop} {mu : α → Nat} (h : OpensM enc P w base spare held f.type d ok mu) (hc : P.cellsOf f.type = d.sz) : OpTM enc P w base spare held [f] f.offset d ok mu := fun cs xs hxl hf hl => by
  obtain ⟨n, hx⟩ := hf 0 f rfl
  obtain ⟨y, rfl⟩ : ∃ y, xs = [y] := by
    match xs, hxl with
    | [y], _ => exact ⟨y, rfl⟩
  rw [List.take_of_length_le (by simp; omega)] at hx
  obtain ⟨a, h1, h2, h3⟩ := h _ _ _ hx
  exact ⟨a, h1, h2, by simpa [uptoBulkAll] using h3⟩
theorem OpTM.cons {α β : Type} {f : Field} {fs : List Field} {off : Nat} {d : Kd α} {d' : Kd β} {ok : α → Prop} {ok' : β → Prop} {mu : α → Nat} {mu' : β → Nat} (h : OpensM enc P w base spare held f.type d ok mu) (hc : P.cellsOf f.type = d.sz) (ho : off = f.offset + d.sz) (hs : OpTM enc P w base spare held fs off d' ok' mu') :
    OpTM enc P w base spare held (f :: fs) f.offset (Kd.pair d d') (fun p => ok p.1 ∧ ok' p.2) (fun p => mu p.1 + mu' p.2) := fun cs xs hxl hf hl => by
  obtain ⟨n, hx⟩ := hf 0 f rfl
  obtain ⟨y, ys, rfl⟩ : ∃ y ys, xs = y :: ys := by
    match xs, hxl with
    | y :: ys, _ => exact ⟨y, ys, rfl⟩
  obtain ⟨a, ha, hoa, hma⟩ := h _ _ _ hx
  have hl' : cs.length = f.offset + (d.sz + d'.sz) := hl
  obtain ⟨b, hb, hob, hmb⟩ := hs cs ys (by simpa using hxl) (fun i g hg => hf (i + 1) g hg) (by omega)
  refine ⟨(a, b), ⟨_, _, ?_, ha, hb⟩, ⟨hoa, hob⟩, ?_⟩
  · rw [hc, ho, ← List.drop_drop, List.take_append_drop]
  · simp only [List.map_cons, uptoBulkAll]
    omega
theorem OpensM.struct {α : Type} {t : TypeId} {fs : Array Field} {d : Kd α} {ok : α → Prop} {mu : α → Nat} (ht : P.underlying t = some (.struct fs)) (hc : P.cellsOf t = d.sz) (h : OpTM enc P w base spare held fs.toList 0 d ok mu) : OpensM enc P w base spare held t d ok mu := fun fuel cs x hx => by
  obtain ⟨xs, n, _, rfl, hl, hlen, hf⟩ := DataW.trod_struct ht hx
  obtain ⟨a, h1, h2, h3⟩ := h cs xs (by simpa using hlen) (fun i f hif => by
    refine ⟨n, hf i f ?_⟩
    rw [← Array.getElem?_toList]; exact hif) (by rw [hl, hc]; omega)
  exact ⟨a, by simpa using h1, h2, by simp only [uptoBulk]; omega⟩
/-- A slice as an argument: its row. -/
theorem open_rowM {α : Type} {t : TypeId} {e' : Nat} {d : Kd α} {ok : List α → Prop} {mu : List α → Nat} {v : Value} {dd : DataW H} {ps : List MemPlace} (ho : OpensM enc P w base spare held t (Kd.slice e' d) ok mu) (hv : v.cells.toList = [v]) (h : DataW.Trod enc P w base spare held t v dd ps) :
    ∃ A c xs, v = .slice A xs.length c ∧ xs.length ≤ c ∧ d.C w A xs.length xs ∧ ok xs ∧ mu xs ≤ uptoBulk dd := by
  obtain ⟨fuel, hf⟩ := h
  rw [hv] at hf
  obtain ⟨xs, ⟨A, c, e1, e2, e3⟩, hok, hmu⟩ := ho _ _ _ hf
  exact ⟨A, c, xs, by simpa using e1, e2, e3, hok, hmu⟩
end
end Go.Proofs.YtjgommaikaeobaaGreatDoor.OpnM
