/- A region whose operations may read a slot that a later operation of it assigns: slots of operations that wait for one are, ahead of it, what they were. -/
import Derived.Test.YtmifpookhhkgeaaDoorReg
set_option linter.unusedVariables false
namespace Go.Proofs.YtmifpookhhkgeaaDoor.Reg
open Go
section
variable {P : Program} {ops : Array Oper} {Q : Exit → Act → World → Prop}
/-- THE REGION, whatever its order. -/
theorem regionL {id : Nat} {a0 : Act} {w0 : World} (hm : P.follows .mixedOrders = true) (ds : List (Option Tmp)) (G : World → Prop) (R : World → World → Prop) (F : Nat → Value → World → Prop) (hd : ops.toList.map (·.dst) = ds) (hap : apartD ds = true) (he : early ops = true)
    (hrefl : ∀ w, R w w) (hmono : ∀ i v w w', R w w' → F i v w → F i v w') (hG : G w0.drew)
    (hs : ∀ xs0 : List Value, xs0.length = ds.length → putL a0 ds xs0 = a0 → ∀ i o, ops[i]? = some o → ∀ xs : List Value, xs.length = ds.length → ∀ w, G w → (∀ j ∈ needs o, F j (xs.getD j undef) w) → (∀ j, i ∈ needsAt ops j → xs.getD j undef = xs0.getD j undef) → xs.getD i undef = xs0.getD i undef → Step P ops Q G R (F i) o (putL a0 ds xs) w)
    (hend : ∀ xs : List Value, xs.length = ds.length → ∀ w, G w → (∀ i, i < ds.length → F i (xs.getD i undef) w) → Q .normal (putL a0 ds xs) w) :
    (Code.region id ops true).wp P Q a0 w0 := by
  refine wp_region_any hm ?_
  obtain ⟨xs0, h1, h2⟩ := putL_self a0 ds
  have hn : ds.length = ops.size := by rw [← hd]; simp
  have h0 : ∀ i, (Array.replicate ops.size false).getD i false = false := by
    intro i
    rcases Nat.lt_or_ge i ops.size with h' | h' <;> simp [h']
  have := mono_all (P := P) (Q := Q) (a0 := a0) (G := G) (R := R) (F := F) (xs0 := xs0) hd hap he hrefl hmono (hs xs0 h1 h2) hend ops.size (Array.replicate ops.size false) xs0 w0.drew (by simp) ?_ h1 hG ?_ ?_ (fun _ _ => rfl)
  · rw [h2] at this; exact this
  · rw [List.filter_eq_self.2]
    · simp
    · intro i hi
      rw [List.mem_range] at hi
      simp [hi]
  · intro i hi
    rw [h0] at hi
    cases hi
  · intro i hi hl
    simp [show i < ops.size by omega] at hl

def StepsL (P : Program) (ops : Array Oper) (Q : Exit → Act → World → Prop) (G : World → Prop) (R : World → World → Prop) (Fs : List (Value → World → Prop)) (xs0 xs : List Value) (a : Act) (w : World) (N : List (List Nat)) : List (List Nat) → Nat → List Oper → Prop
  | n :: ns, i, o :: os => (Facts Fs xs w n → (∀ j, (N.getD j []).contains i = true → xs.getD j undef = xs0.getD j undef) → xs.getD i undef = xs0.getD i undef → Step P ops Q G R (Fs.getD i (fun _ _ => True)) o a w) ∧ StepsL P ops Q G R Fs xs0 xs a w N ns (i + 1) os
  | _, _, _ => True
theorem stepsL_to {G : World → Prop} {R : World → World → Prop} {Fs : List (Value → World → Prop)} {xs0 xs : List Value} {a : Act} {w : World} {N : List (List Nat)} (os : List Oper) : ∀ (ns : List (List Nat)) (k : Nat), os.map needs = ns → StepsL P ops Q G R Fs xs0 xs a w N ns k os →
    ∀ j o, os[j]? = some o → Facts Fs xs w (needs o) → (∀ i, (N.getD i []).contains (k + j) = true → xs.getD i undef = xs0.getD i undef) → xs.getD (k + j) undef = xs0.getD (k + j) undef → Step P ops Q G R (Fs.getD (k + j) (fun _ _ => True)) o a w := by
  induction os with
  | nil => intro ns k _ _ j o ho; simp at ho
  | cons o1 os ih =>
    intro ns k hn h j o ho hf hl hx
    cases ns with
    | nil => simp at hn
    | cons n ns =>
      rw [List.map_cons, List.cons.injEq] at hn
      obtain ⟨h1, h2⟩ := h
      cases j with
      | zero =>
        rw [List.getElem?_cons_zero, Option.some.injEq] at ho
        subst ho
        exact h1 (by rw [← hn.1]; exact hf) hl hx
      | succ j =>
        rw [List.getElem?_cons_succ] at ho
        have e : k + (j + 1) = k + 1 + j := by omega
        rw [e] at hx hl ⊢
        exact ih ns (k + 1) hn.2 h2 j o ho hf hl hx
theorem region_late {id : Nat} {a0 : Act} {w0 : World} {os : List Oper} (hm : P.follows .mixedOrders = true) (ds : List (Option Tmp)) (ns : List (List Nat)) (G : World → Prop) (R : World → World → Prop) (Fs : List (Value → World → Prop))
    (hd : os.map (·.dst) = ds) (hn : os.map needs = ns) (hok : okay os.toArray ds = true)
    (hrefl : ∀ w, R w w) (hmono : ∀ w w', R w w' → ∀ i v, (Fs.getD i (fun _ _ => True)) v w → (Fs.getD i (fun _ _ => True)) v w') (hG : G w0.drew)
    (hs : ∀ xs0 xs : List Value, putL a0 ds xs0 = a0 → xs0.length = ds.length → xs.length = ds.length → ∀ w, G w → StepsL P os.toArray Q G R Fs xs0 xs (putL a0 ds xs) w ns ns 0 os)
    (hend : ∀ xs : List Value, xs.length = ds.length → ∀ w, G w → Facts Fs xs w (List.range ds.length) → Q .normal (putL a0 ds xs) w) :
    (Code.region id os.toArray true).wp P Q a0 w0 := by
  simp only [okay, Bool.and_eq_true] at hok
  refine regionL hm ds G R (fun i => Fs.getD i (fun _ _ => True)) (by simpa using hd) hok.1 hok.2 hrefl (fun i v w w' h => hmono w w' h i v) hG (fun xs0 hz h0 i o ho xs hx w hg hf hl hi => ?_) (fun xs hx w hg hf => hend xs hx w hg (facts_of (fun j hj => hf j (List.mem_range.1 hj))))
  have := stepsL_to os ns 0 hn (hs xs0 xs h0 hz hx w hg) i o (by simpa using ho) (facts_of hf) (fun j hj => hl j ?_) (by rw [Nat.zero_add]; exact hi)
  · rwa [Nat.zero_add] at this
  · rw [Nat.zero_add] at hj
    rw [← hn] at hj
    unfold needsAt
    cases ho2 : os[j]? with
    | none => simp [ho2] at hj
    | some o2 => simpa [ho2] using hj
end
end Go.Proofs.YtmifpookhhkgeaaDoor.Reg
