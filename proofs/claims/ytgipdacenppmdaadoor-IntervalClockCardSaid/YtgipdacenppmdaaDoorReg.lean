/- A region whose order is open, by facts that stay: each operation is shown once, from what it waits for; whatever the order, all facts hold at the end. -/
import Derived.Orders
import Derived.Tactics
import Derived.Tactics2
set_option linter.unusedVariables false
set_option linter.unusedSimpArgs false
namespace Go.Proofs.YtgipdacenppmdaaDoor.Reg

def needs (o : Oper) : List Nat := (o.after.toList.filter fun e => Region.binds .any e).map (·.on)
def needsAt (ops : Array Oper) (i : Nat) : List Nat := match ops[i]? with
 | some o => needs o
 | none => []
def early (ops : Array Oper) : Bool := (List.range ops.size).all fun i => (needsAt ops i).all fun j => decide (j < i)
def apartD : List (Option Tmp) → Bool
 | [] => true
 | none :: r => apartD r
 | some d :: r => !r.contains (some d) && apartD r
def putL (a : Act) : List (Option Tmp) → List Value → Act
 | d :: ds, x :: xs => putL (a.put d x) ds xs
 | _, _ => a
def ung (o : Oper) : Oper := { o with guard := none }
def behind (Q : Exit → Act → World → Prop) (K : Act → World → Prop) : Exit → Act → World → Prop
 | .normal, a, w => K a w
 | e, a, w => Q e a w

theorem put_put (a : Act) (d : Option Tmp) (x y : Value) : (a.put d x).put d y = a.put d y := by
 cases d with
 | none => rfl
 | some d => simp [Act.put]
theorem put_swap (a : Act) {d e : Option Tmp} (h : d ≠ e) (x y : Value) : (a.put d x).put e y = (a.put e y).put d x := by
 cases d with
 | none => rfl
 | some d =>
  cases e with
  | none => rfl
  | some e =>
   have : d ≠ e := fun he => h (by rw [he])
   simp only [Act.put]
   rw [Array.setIfInBounds_comm _ _ this]
theorem putL_put {ds : List (Option Tmp)} : ∀ {a : Act} {xs : List Value} {d : Option Tmp} (x : Value), (d = none ∨ ds.contains d = false) → (putL a ds xs).put d x = putL (a.put d x) ds xs := by
 induction ds with
 | nil => intro a xs d x _; cases xs <;> rfl
 | cons e ds ih =>
  intro a xs d x h
  cases xs with
  | nil => rfl
  | cons y xs =>
   unfold putL
   rcases h with rfl | h
   ·rfl
   ·simp only [List.contains_cons, Bool.or_eq_false_iff, beq_eq_false_iff_ne] at h
    rw [ih x (.inr h.2), put_swap _ (Ne.symm h.1)]
theorem putL_set {ds : List (Option Tmp)} : ∀ {a : Act} {xs : List Value} {i : Nat} (x : Value), apartD ds = true → xs.length = ds.length → i < ds.length → (putL a ds xs).put (ds.getD i none) x = putL a ds (xs.set i x) := by
 induction ds with
 | nil => intro a xs i x _ _ h; simp at h
 | cons d ds ih =>
  intro a xs i x hd hl hi
  cases xs with
  | nil => simp at hl
  | cons y xs =>
   cases i with
   | zero =>
    simp only [List.getD_cons_zero, List.set_cons_zero]
    unfold putL
    cases d with
    | none => rfl
    | some d =>
     simp only [apartD, Bool.and_eq_true, Bool.not_eq_true'] at hd
     rw [putL_put x (.inr hd.1), put_put]
   | succ i =>
    simp only [List.getD_cons_succ, List.set_cons_succ]
    have hd' : apartD ds = true := by
     cases d with
     | none => exact hd
     | some d => simp only [apartD, Bool.and_eq_true] at hd; exact hd.2
    have h1 := ih (a := a.put d y) (xs := xs) (i := i) x hd' (by simpa using hl) (by simpa using hi)
    exact h1
theorem putL_self (a : Act) : ∀ ds : List (Option Tmp), ∃ xs : List Value, xs.length = ds.length ∧ putL a ds xs = a
 | [] => ⟨[], rfl, rfl⟩
 | d :: ds => by
  obtain ⟨xs, h1, h2⟩ := putL_self a ds
  cases d with
  | none => exact ⟨undef :: xs, by simp [h1], h2⟩
  | some d =>
   refine ⟨(a.tmps[d]?).getD undef :: xs, by simp [h1], ?_⟩
   unfold putL
   have h3 : a.tmps.setIfInBounds d ((a.tmps[d]?).getD undef) = a.tmps := by
    apply Array.ext_getElem?
    intro j
    by_cases hj : d = j
    ·subst hj
     by_cases hlt : d < a.tmps.size
     ·simp [hlt]
     ·have hge : a.tmps.size ≤ d := Nat.le_of_not_lt hlt
      rw [Array.getElem?_eq_none (by simpa using hge), Array.getElem?_eq_none hge]
    ·rw [Array.getElem?_setIfInBounds_ne hj]
   have : a.put (some d) ((a.tmps[d]?).getD undef) = a := by
    show ({ a with tmps := a.tmps.setIfInBounds d ((a.tmps[d]?).getD undef) } : Act) = a
    rw [h3]
   rw [this]
   exact h2

section
variable {P : Program} {ops : Array Oper} {Q : Exit → Act → World → Prop}

/-- What one operation does: carried out, or left out. -/
def Step (P : Program) (ops : Array Oper) (Q : Exit → Act → World → Prop) (G : World → Prop) (R : World → World → Prop) (F : Value → World → Prop) (o : Oper) (a : Act) (w : World) : Prop :=
 (Region.wanted o (yielded ops a.tmps) = true ∧ wpList P ops (behind Q fun a' w' => ∃ v, a' = a.put o.dst v ∧ G w' ∧ R w w' ∧ F v w') [ung o] a w) ∨
 (Region.wanted o (yielded ops a.tmps) = false ∧ F undef w)

theorem upon_behind {o : Oper} {a : Act} {K K' : Act → World → Prop} {r : Result Next} (hK : ∀ a w, K a w → K' a w) (h : o.upon P a K (behind Q K) r) : o.upon P a K' Q r := by
 cases r with
 | ok n w' =>
  cases n <;> simp only [Oper.upon] at h ⊢ <;>
   first
    | exact hK _ _ h
    | exact Calls.mono h (fun e w'' he => by
      cases e with
      | returned v => exact hK _ _ he
      | panicked c => exact he
      | outgrown => obtain ⟨a1, w1, h1⟩ := he; exact ⟨a1, w1, h1⟩)
    | exact Rows.mono h (fun _ _ he => hK _ _ he)
 | halt x w' => cases x <;> simp only [Oper.upon] at h ⊢ <;> first | exact h | exact h.elim

theorem Step.op {G : World → Prop} {R : World → World → Prop} {F : Value → World → Prop} {i : Nat} {o : Oper} {a : Act} {w : World} {K : Act → World → Prop} (ho : ops[i]? = some o)
  (h : Step P ops Q G R F o a w) (hrefl : R w w) (hG : G w) (hK : ∀ v w', G w' → R w w' → F v w' → K (a.put o.dst v) w') : wpOp P ops Q i K a w := by
 unfold wpOp
 rw [ho]
 simp only
 rcases h with ⟨h1, h2⟩ | ⟨h1, h2⟩
 ·rw [if_pos h1]
  unfold wpList at h2
  rw [if_pos (by simp [Region.wanted, ung])] at h2
  rcases h2 with h2 | ⟨h2, h3⟩
  ·refine .inl ?_
   have h4 : o.upon P a (fun a' w' => ∃ v, a' = a.put o.dst v ∧ G w' ∧ R w w' ∧ F v w') (behind Q fun a' w' => ∃ v, a' = a.put o.dst v ∧ G w' ∧ R w w' ∧ F v w') ((execOp a.eval o).run P w) := h2
   exact upon_behind (fun a' w' ⟨v, ha, hg, hr, hf⟩ => by subst ha; exact hK v w' hg hr hf) h4
  ·obtain ⟨a1, w1, h5⟩ := h3
   exact .inr ⟨h2, a1, w1, h5⟩
 ·rw [if_neg (by rw [h1]; simp)]
  exact hK undef w hG hrefl h2

theorem mono_all {ds : List (Option Tmp)} {a0 : Act} {G : World → Prop} {R : World → World → Prop} {F : Nat → Value → World → Prop} {xs0 : List Value} (hd : ops.toList.map (·.dst) = ds) (hap : apartD ds = true) (he : early ops = true)
  (hrefl : ∀ w, R w w) (hmono : ∀ i v w w', R w w' → F i v w → F i v w')
  (hs : ∀ i o, ops[i]? = some o → ∀ xs : List Value, xs.length = ds.length → ∀ w, G w → (∀ j ∈ needs o, F j (xs.getD j undef) w) → (∀ j, i ∈ needsAt ops j → xs.getD j undef = xs0.getD j undef) → xs.getD i undef = xs0.getD i undef → Step P ops Q G R (F i) o (putL a0 ds xs) w)
  (hend : ∀ xs : List Value, xs.length = ds.length → ∀ w, G w → (∀ i, i < ds.length → F i (xs.getD i undef) w) → Q .normal (putL a0 ds xs) w) :
  ∀ (m : Nat) (l : Array Bool) (xs : List Value) (w : World), l.size = ops.size → ((List.range ops.size).filter fun i => !l.getD i true).length = m → xs.length = ds.length → G w →
   (∀ i, l.getD i false = true → ∀ j ∈ needsAt ops i, l.getD j false = true) →
   (∀ i, i < ds.length → l.getD i true = true → F i (xs.getD i undef) w) → (∀ i, l.getD i true = false → xs.getD i undef = xs0.getD i undef) → wpAny P .any ops Q m l (putL a0 ds xs) w := by
 have hn : ds.length = ops.size := by rw [← hd]; simp
 have tf : ∀ (l : Array Bool) (i : Nat), i < l.size → l.getD i true = l.getD i false := fun l i h => by simp [h]
 intro m
 induction m with
 | zero =>
  intro l xs w hl hm hx hg hc hf hu
  have hall : ∀ i, i < ops.size → l.getD i true = true := by
   intro i hi
   cases h : l.getD i true with
   | true => rfl
   | false =>
    have : i ∈ (List.range ops.size).filter fun i => !l.getD i true := List.mem_filter.2 ⟨List.mem_range.2 hi, by simp [h]⟩
    rw [List.eq_nil_of_length_eq_zero hm] at this
    cases this
  refine ⟨?_, hend xs hx w hg (fun i hi => hf i hi (hall i (by omega)))⟩
  refine List.eq_nil_iff_forall_not_mem.2 (fun i hi => ?_)
  have h1 := mem_ready.1 hi
  obtain ⟨h2, o, ho, _⟩ := h1
  have := hall i (Array.getElem?_eq_some_iff.1 ho).1
  rw [h2] at this
  cases this
 | succ m ih =>
  intro l xs w hl hm hx hg hc hf hu
  refine ⟨fun hr => ?_, fun i hi => ?_⟩
  ·exfalso
   have hex : ∃ i, i < ops.size ∧ l.getD i true = false := by
    cases hq : (List.range ops.size).filter fun i => !l.getD i true with
    | nil => rw [hq] at hm; simp at hm
    | cons x r =>
     have hx : x ∈ (List.range ops.size).filter fun i => !l.getD i true := by rw [hq]; exact List.mem_cons_self
     rw [List.mem_filter, List.mem_range] at hx
     exact ⟨x, hx.1, by simpa using hx.2⟩
   have hmin : ∀ k, (∃ i, i ≤ k ∧ i < ops.size ∧ l.getD i true = false) → ∃ i, i < ops.size ∧ l.getD i true = false ∧ ∀ j, j < i → l.getD j true = true := by
    intro k
    induction k with
    | zero => rintro ⟨i, h0, h1, h2⟩; exact ⟨i, h1, h2, fun j hj => by omega⟩
    | succ k ihk =>
     rintro ⟨i, h0, h1, h2⟩
     by_cases hlow : ∃ j, j ≤ k ∧ j < ops.size ∧ l.getD j true = false
     ·exact ihk hlow
     ·refine ⟨i, h1, h2, fun j hj => ?_⟩
      cases hb : l.getD j true with
      | true => rfl
      | false => exact absurd ⟨j, by omega, by omega, hb⟩ hlow
   obtain ⟨i0, h1, h2⟩ := hex
   obtain ⟨i, hi1, hi2, hlow⟩ := hmin i0 ⟨i0, Nat.le_refl _, h1, h2⟩
   have ho : ops[i]? = some ops[i] := Array.getElem?_eq_getElem hi1
   have hin : i ∈ Region.ready .any ops l := by
    refine mem_ready.2 ⟨hi2, ops[i], ho, fun e hem hb => ?_⟩
    have h3 := List.all_eq_true.1 he i (List.mem_range.2 hi1)
    unfold needsAt at h3
    rw [ho] at h3
    have h4 : e.on ∈ needs ops[i] := by
     unfold needs
     exact List.mem_map.2 ⟨e, List.mem_filter.2 ⟨by simpa using hem, hb⟩, rfl⟩
    have h5 := List.all_eq_true.1 h3 e.on h4
    have h6 : e.on < i := by simpa using h5
    rw [← tf l e.on (by omega)]
    exact hlow e.on h6
   rw [hr] at hin
   cases hin
  ·obtain ⟨hb, o, ho, hedge⟩ := mem_ready.1 hi
   have hio : i < ops.size := (Array.getElem?_eq_some_iff.1 ho).1
   have hneed : ∀ j ∈ needs o, l.getD j false = true := by
    intro j hj
    obtain ⟨e, he1, rfl⟩ := List.mem_map.1 hj
    obtain ⟨he2, he3⟩ := List.mem_filter.1 he1
    exact hedge e (by simpa using he2) he3
   have hlt : ∀ j, l.getD j false = true → j < l.size := by
    intro j hj
    rcases Nat.lt_or_ge j l.size with h' | h'
    ·exact h'
    ·simp [Array.getElem?_eq_none h'] at hj
   have h1 := hs i o ho xs hx w hg (fun j hj => hf j (by have := hlt j (hneed j hj); omega) (by rw [tf l j (hlt j (hneed j hj))]; exact hneed j hj))
    (fun j hj => hu j (by
     cases hlj : l.getD j true with
     | false => rfl
     | true =>
      rcases Nat.lt_or_ge j l.size with h' | h'
      ·have h2 := hc j (by rw [← tf l j h']; exact hlj) i hj
       rw [← tf l i (by omega), hb] at h2
       cases h2
      ·unfold needsAt at hj
       rw [Array.getElem?_eq_none (by omega)] at hj
       cases hj)) (hu i hb)
   refine h1.op ho (hrefl w) hg (fun v w' hg' hr' hf' => ?_)
   have hdi : o.dst = ds.getD i none := by
    rw [← hd]
    simp [List.getD_eq_getElem?_getD, ho]
   rw [hdi, putL_set v hap hx (by omega)]
   refine ih (l.setIfInBounds i true) (xs.set i v) w' (by simp [hl]) ?_ (by simp [hx]) hg' ?_ ?_ ?_
   ·have hcount : ∀ (r : List Nat), r.Nodup → i ∈ r → (r.filter fun j => !(l.setIfInBounds i true).getD j true).length + 1 = (r.filter fun j => !l.getD j true).length := by
     intro r
     induction r with
     | nil => intro _ h; cases h
     | cons x r ihr =>
      intro hnd hmem
      rw [List.nodup_cons] at hnd
      by_cases hxi : x = i
      ·subst hxi
       have hsame : (r.filter fun j => !(l.setIfInBounds x true).getD j true) = r.filter fun j => !l.getD j true := by
        refine List.filter_congr (fun j hj => ?_)
        have : x ≠ j := fun e => hnd.1 (e ▸ hj)
        rw [getD_set_ne true this]
       have hself : (l.setIfInBounds x true).getD x true = true := by simp
       rw [List.filter_cons, List.filter_cons, hself, hb, hsame]
       simp
      ·have hmem' : i ∈ r := by
        rcases List.mem_cons.1 hmem with h | h
        ·exact absurd h.symm hxi
        ·exact h
       have := ihr hnd.2 hmem'
       rw [List.filter_cons, List.filter_cons, getD_set_ne true (Ne.symm hxi)]
       cases l.getD x true
       ·simp only [Bool.not_false, if_true, List.length_cons]; omega
       ·simpa using this
    have := hcount (List.range ops.size) List.nodup_range (List.mem_range.2 hio)
    omega
   ·intro k hk j hj
    by_cases hik : i = k
    ·subst hik
     unfold needsAt at hj
     rw [ho] at hj
     exact getD_set_true (hneed j hj)
    ·rw [getD_set_ne false hik] at hk
     exact getD_set_true (hc k hk j hj)
   ·intro k hk hlk
    by_cases hik : i = k
    ·subst hik
     have : (xs.set i v).getD i undef = v := by simp [List.getD_eq_getElem?_getD, hx, hk]
     rw [this]
     exact hf'
    ·rw [getD_set_ne true hik] at hlk
     have : (xs.set i v).getD k undef = xs.getD k undef := by simp [List.getD_eq_getElem?_getD, List.getElem?_set_ne hik]
     rw [this]
     exact hmono k _ w w' hr' (hf k hk hlk)
   ·intro k hlk
    by_cases hik : i = k
    ·subst hik
     have : (l.setIfInBounds i true).getD i true = true := by simp
     rw [this] at hlk
     cases hlk
    ·rw [getD_set_ne true hik] at hlk
     have : (xs.set i v).getD k undef = xs.getD k undef := by simp [List.getD_eq_getElem?_getD, List.getElem?_set_ne hik]
     rw [this]
     exact hu k hlk

/-- THE REGION, whatever its order. -/
theorem region {id : Nat} {a0 : Act} {w0 : World} (hm : P.follows .mixedOrders = true) (ds : List (Option Tmp)) (G : World → Prop) (R : World → World → Prop) (F : Nat → Value → World → Prop) (hd : ops.toList.map (·.dst) = ds) (hap : apartD ds = true) (he : early ops = true)
  (hrefl : ∀ w, R w w) (hmono : ∀ i v w w', R w w' → F i v w → F i v w') (hG : G w0.drew)
  (hs : ∀ xs0 : List Value, putL a0 ds xs0 = a0 → ∀ i o, ops[i]? = some o → ∀ xs : List Value, xs.length = ds.length → ∀ w, G w → (∀ j ∈ needs o, F j (xs.getD j undef) w) → (∀ j, i ∈ needsAt ops j → xs.getD j undef = xs0.getD j undef) → xs.getD i undef = xs0.getD i undef → Step P ops Q G R (F i) o (putL a0 ds xs) w)
  (hend : ∀ xs : List Value, xs.length = ds.length → ∀ w, G w → (∀ i, i < ds.length → F i (xs.getD i undef) w) → Q .normal (putL a0 ds xs) w) :
  (Code.region id ops true).wp P Q a0 w0 := by
 refine wp_region_any hm ?_
 obtain ⟨xs0, h1, h2⟩ := putL_self a0 ds
 have hn : ds.length = ops.size := by rw [← hd]; simp
 have h0 : ∀ i, (Array.replicate ops.size false).getD i false = false := by
  intro i
  rcases Nat.lt_or_ge i ops.size with h' | h' <;> simp [h']
 have := mono_all (P := P) (Q := Q) (a0 := a0) (G := G) (R := R) (F := F) (xs0 := xs0) hd hap he hrefl hmono (hs xs0 h2) hend ops.size (Array.replicate ops.size false) xs0 w0.drew (by simp) ?_ h1 hG ?_ ?_ (fun _ _ => rfl)
 ·rw [h2] at this; exact this
 ·rw [List.filter_eq_self.2]
  ·simp
  ·intro i hi
   rw [List.mem_range] at hi
   simp [hi]
 ·intro i hi
  rw [h0] at hi
  cases hi
 ·intro i hi hl
  simp [show i < ops.size by omega] at hl

/-- The facts of the operations whose numbers are listed. -/
def Facts (Fs : List (Value → World → Prop)) (xs : List Value) (w : World) : List Nat → Prop
 | [] => True
 | j :: r => (Fs.getD j (fun _ _ => True)) (xs.getD j undef) w ∧ Facts Fs xs w r
theorem facts_of {Fs : List (Value → World → Prop)} {xs : List Value} {w : World} : ∀ {l : List Nat}, (∀ j ∈ l, (Fs.getD j (fun _ _ => True)) (xs.getD j undef) w) → Facts Fs xs w l
 | [], _ => trivial
 | j :: r, h => ⟨h j List.mem_cons_self, facts_of (fun k hk => h k (List.mem_cons_of_mem _ hk))⟩
/-- All steps, one behind the other in the text's order; N: what each waits for. -/
def Steps (P : Program) (ops : Array Oper) (Q : Exit → Act → World → Prop) (G : World → Prop) (R : World → World → Prop) (Fs : List (Value → World → Prop)) (xs0 xs : List Value) (a : Act) (w : World) : List (List Nat) → Nat → List Oper → Prop
 | n :: ns, i, o :: os => (Facts Fs xs w n → xs.getD i undef = xs0.getD i undef → Step P ops Q G R (Fs.getD i (fun _ _ => True)) o a w) ∧ Steps P ops Q G R Fs xs0 xs a w ns (i + 1) os
 | _, _, _ => True
theorem steps_to {G : World → Prop} {R : World → World → Prop} {Fs : List (Value → World → Prop)} {xs0 xs : List Value} {a : Act} {w : World} (os : List Oper) : ∀ (ns : List (List Nat)) (k : Nat), os.map needs = ns → Steps P ops Q G R Fs xs0 xs a w ns k os →
  ∀ j o, os[j]? = some o → Facts Fs xs w (needs o) → xs.getD (k + j) undef = xs0.getD (k + j) undef → Step P ops Q G R (Fs.getD (k + j) (fun _ _ => True)) o a w := by
 induction os with
 | nil => intro ns k _ _ j o ho; simp at ho
 | cons o1 os ih =>
  intro ns k hn h j o ho hf hx
  cases ns with
  | nil => simp at hn
  | cons n ns =>
   rw [List.map_cons, List.cons.injEq] at hn
   obtain ⟨h1, h2⟩ := h
   cases j with
   | zero =>
    rw [List.getElem?_cons_zero, Option.some.injEq] at ho
    subst ho
    exact h1 (by rw [← hn.1]; exact hf) hx
   | succ j =>
    rw [List.getElem?_cons_succ] at ho
    have e : k + (j + 1) = k + 1 + j := by omega
    rw [e] at hx ⊢
    exact ih ns (k + 1) hn.2 h2 j o ho hf hx
/-- The destinations, what each operation waits for, and the three checks, by the kernel. -/
def okay (ops : Array Oper) (ds : List (Option Tmp)) : Bool := apartD ds && early ops

/-- THE REGION, its operations as a list. -/
theorem region_list {id : Nat} {a0 : Act} {w0 : World} {os : List Oper} (hm : P.follows .mixedOrders = true) (ds : List (Option Tmp)) (ns : List (List Nat)) (G : World → Prop) (R : World → World → Prop) (Fs : List (Value → World → Prop))
  (hd : os.map (·.dst) = ds) (hn : os.map needs = ns) (hok : okay os.toArray ds = true)
  (hrefl : ∀ w, R w w) (hmono : ∀ w w', R w w' → ∀ i v, (Fs.getD i (fun _ _ => True)) v w → (Fs.getD i (fun _ _ => True)) v w') (hG : G w0.drew)
  (hs : ∀ xs0 xs : List Value, putL a0 ds xs0 = a0 → xs.length = ds.length → ∀ w, G w → Steps P os.toArray Q G R Fs xs0 xs (putL a0 ds xs) w ns 0 os)
  (hend : ∀ xs : List Value, xs.length = ds.length → ∀ w, G w → Facts Fs xs w (List.range ds.length) → Q .normal (putL a0 ds xs) w) :
  (Code.region id os.toArray true).wp P Q a0 w0 := by
 simp only [okay, Bool.and_eq_true] at hok
 refine region hm ds G R (fun i => Fs.getD i (fun _ _ => True)) (by simpa using hd) hok.1 hok.2 hrefl (fun i v w w' h => hmono w w' h i v) hG (fun xs0 h0 i o ho xs hx w hg hf _ hi => ?_) (fun xs hx w hg hf => hend xs hx w hg (facts_of (fun j hj => hf j (List.mem_range.1 hj))))
 have := steps_to os ns 0 hn (hs xs0 xs h0 hx w hg) i o (by simpa using ho) (facts_of hf) (by rw [Nat.zero_add]; exact hi)
 rwa [Nat.zero_add] at this
end
theorem len_succ {xs : List Value} {n : Nat} (h : xs.length = n + 1) : ∃ y ys, xs = y :: ys ∧ ys.length = n := by
 cases xs with
 | nil => cases h
 | cons y ys => exact ⟨y, ys, rfl, by simpa using h⟩
theorem mono_nil {w w' : World} : ∀ i v, (([] : List (Value → World → Prop)).getD i (fun _ _ => True)) v w → (([] : List (Value → World → Prop)).getD i (fun _ _ => True)) v w' := fun i v _ => by simp
theorem mono_cons {w w' : World} {f : Value → World → Prop} {Fs : List (Value → World → Prop)} (h : ∀ v, f v w → f v w') (hs : ∀ i v, (Fs.getD i (fun _ _ => True)) v w → (Fs.getD i (fun _ _ => True)) v w') : ∀ i v, ((f :: Fs).getD i (fun _ _ => True)) v w → ((f :: Fs).getD i (fun _ _ => True)) v w'
 | 0, v, hv => h v hv
 | i + 1, v, hv => hs i v hv
end Go.Proofs.YtgipdacenppmdaaDoor.Reg

namespace Go.Proofs.YtgipdacenppmdaaDoor.Reg
open Go

theorem done_set {l : Array Bool} {i s : Nat} (hi : i < l.size) : (l.setIfInBounds i true).getD s true = (l.getD s true || i == s) := by
 by_cases h : i = s
 ·subst h
  simp [hi]
 ·rw [getD_set_ne true h]
  simp [h]
section
variable {P : Program} {ops : Array Oper} {Q : Exit → Act → World → Prop}
end
end Go.Proofs.YtgipdacenppmdaaDoor.Reg

namespace Go.Proofs.YtgipdacenppmdaaDoor.Reg
open Go

section
variable {P : Program} {ops : Array Oper} {Q : Exit → Act → World → Prop}
def StepV (P : Program) (ops : Array Oper) (Q : Exit → Act → World → Prop) (F : Value → World → Prop) (o : Oper) (a : Act) (w : World) : Prop :=
 (Region.wanted o (yielded ops a.tmps) = true ∧ wpList P ops (behind Q fun a' w' => ∃ v, a' = a.put o.dst v ∧ F v w') [ung o] a w) ∨
 (Region.wanted o (yielded ops a.tmps) = false ∧ F undef w)
theorem StepV.op {F : Value → World → Prop} {i : Nat} {o : Oper} {a : Act} {w : World} {K : Act → World → Prop} (ho : ops[i]? = some o)
  (h : StepV P ops Q F o a w) (hK : ∀ v w', F v w' → K (a.put o.dst v) w') : wpOp P ops Q i K a w := by
 unfold wpOp
 rw [ho]
 simp only
 rcases h with ⟨h1, h2⟩ | ⟨h1, h2⟩
 ·rw [if_pos h1]
  unfold wpList at h2
  rw [if_pos (by simp [Region.wanted, ung])] at h2
  rcases h2 with h2 | ⟨h2, h3⟩
  ·refine .inl ?_
   have h4 : o.upon P a (fun a' w' => ∃ v, a' = a.put o.dst v ∧ F v w') (behind Q fun a' w' => ∃ v, a' = a.put o.dst v ∧ F v w') ((execOp a.eval o).run P w) := h2
   exact upon_behind (fun a' w' ⟨v, ha, hf⟩ => by subst ha; exact hK v w' hf) h4
  ·obtain ⟨a1, w1, h5⟩ := h3
   exact .inr ⟨h2, a1, w1, h5⟩
 ·rw [if_neg (by rw [h1]; simp)]
  exact hK undef w h2

theorem rep_false (n i : Nat) : (Array.replicate n false).getD i false = false := by rcases Nat.lt_or_ge i n with h | h <;> simp [h]
theorem rep_true {n i : Nat} (h : i < n) : (Array.replicate n false).getD i true = false := by simp [h]
/-- The facts of the operations whose numbers are listed. -/
def FactsV (Fs : List (Value → Prop)) (xs : List Value) : List Nat → Prop
 | [] => True
 | j :: r => (Fs.getD j (fun _ => True)) (xs.getD j undef) ∧ FactsV Fs xs r
theorem factsV_of {Fs : List (Value → Prop)} {xs : List Value} : ∀ {l : List Nat}, (∀ j ∈ l, (Fs.getD j (fun _ => True)) (xs.getD j undef)) → FactsV Fs xs l
 | [], _ => trivial
 | j :: r, h => ⟨h j List.mem_cons_self, factsV_of (fun k hk => h k (List.mem_cons_of_mem _ hk))⟩
/-- The checks, by the kernel. -/
def okayV (ops : Array Oper) (ds : List (Option Tmp)) (p s : Nat) (pre : List Nat) : Bool :=
 apartD ds && early ops && decide (p < ops.size) && decide (s < ops.size) && !pre.contains s && !pre.contains p && (pre.all fun i => (p :: pre).any fun k => decide (i < k) && decide (k < ops.size) && (needsAt ops k).contains i) &&
 (List.range ops.size).all fun i => pre.contains i || i == p || (needsAt ops i).any fun j => decide (j < i) && !pre.contains j

end
end Go.Proofs.YtgipdacenppmdaaDoor.Reg

namespace Go.Proofs.YtgipdacenppmdaaDoor.Reg
open Go

theorem factsV_to {Fs : List (Value → Prop)} {xs : List Value} : ∀ {l : List Nat}, FactsV Fs xs l → ∀ j ∈ l, (Fs.getD j (fun _ => True)) (xs.getD j undef)
 | j :: r, h, k, hk => by
  rcases List.mem_cons.1 hk with rfl | hk
  ·exact h.1
  ·exact factsV_to h.2 k hk
section
variable {P : Program} {ops : Array Oper} {Q : Exit → Act → World → Prop}
theorem upon_behind2 {o : Oper} {a : Act} {K K' : Act → World → Prop} {r : Result Next} (hK : ∀ a w, K a w → K' a w) (h : o.upon P a K (behind Q K) r) : o.upon P a K' (behind Q K') r := by
 cases r with
 | ok n w' =>
  cases n <;> simp only [Oper.upon] at h ⊢ <;>
   first
    | exact hK _ _ h
    | exact Calls.mono h (fun e w'' he => by
      cases e with
      | returned v => exact hK _ _ he
      | panicked c => exact he
      | outgrown => obtain ⟨a1, w1, h1⟩ := he; exact ⟨a1, w1, h1⟩)
    | exact Rows.mono h (fun _ _ he => hK _ _ he)
 | halt x w' => cases x <;> simp only [Oper.upon] at h ⊢ <;> first | exact h | exact h.elim
theorem StepV.imp2 {F F' : Value → World → Prop} {o : Oper} {a : Act} {w : World} (h : StepV P ops Q F o a w) (hi : ∀ v w', F v w' → F' v w') : StepV P ops Q F' o a w := by
 rcases h with ⟨h1, h2⟩ | ⟨h1, h2⟩
 ·refine .inl ⟨h1, ?_⟩
  unfold wpList at h2 ⊢
  rw [if_pos (by simp [Region.wanted, ung])] at h2 ⊢
  rcases h2 with h2 | ⟨h2, h3⟩
  ·exact .inl (upon_behind2 (fun a' w' ⟨v, ha, hf⟩ => ⟨v, ha, hi _ _ hf⟩) h2)
  ·obtain ⟨a1, w1, h5⟩ := h3
   exact .inr ⟨h2, a1, w1, h5⟩
 ·exact .inr ⟨h1, hi _ _ h2⟩

theorem mono_all4 {Γ : Type} {ds : List (Option Tmp)} {a0 : Act} {G0 : World → Prop} {G1 : Γ → Bool → World → Prop} {R : World → World → Prop} {F : Nat → Value → World → Prop} {F1 : Γ → Nat → Value → Prop} {p s : Nat} {pre : List Nat} (hps : p < ops.size) (hss : s < ops.size) (hpre : ∀ i, i ∈ pre → ∃ k, (k = p ∨ k ∈ pre) ∧ i < k ∧ k < ops.size ∧ i ∈ needsAt ops k) (hpost : ∀ i, i < ops.size → i ∉ pre → i ≠ p → ∃ j ∈ needsAt ops i, j < i ∧ j ∉ pre) (hsp : s ∉ pre) (hpp : p ∉ pre) {xs0 : List Value} (hd : ops.toList.map (·.dst) = ds) (hap : apartD ds = true) (he : early ops = true)
  (hmono : ∀ i v w w', R w w' → F i v w → F i v w')
  (hs0 : ∀ i o, ops[i]? = some o → i ∈ pre → ∀ xs : List Value, xs.length = ds.length → ∀ w, G0 w → (∀ j ∈ needs o, F j (xs.getD j undef) w) → xs.getD i undef = xs0.getD i undef → (∀ j, j < ops.size → j ∉ pre → j ≠ p → xs.getD j undef = xs0.getD j undef) → StepV P ops Q (fun v w' => G0 w' ∧ R w w' ∧ F i v w') o (putL a0 ds xs) w)
  (hsp1 : ∀ o, ops[p]? = some o → ∀ xs : List Value, xs.length = ds.length → ∀ w, G0 w → (∀ j ∈ needs o, F j (xs.getD j undef) w) → xs.getD p undef = xs0.getD p undef → (∀ j, j < ops.size → j ∉ pre → j ≠ p → xs.getD j undef = xs0.getD j undef) → StepV P ops Q (fun v w' => ∃ γ, G1 γ (p == s) w' ∧ F1 γ p v ∧ ∀ j ∈ pre, F1 γ j (xs.getD j undef)) o (putL a0 ds xs) w)
  (hs1 : ∀ i o, ops[i]? = some o → i ∉ pre → i ≠ p → ∀ xs : List Value, xs.length = ds.length → ∀ γ (d : Bool) w, G1 γ d w → (∀ j ∈ needs o, F1 γ j (xs.getD j undef)) → xs.getD i undef = xs0.getD i undef → StepV P ops Q (fun v w' => G1 γ (d || i == s) w' ∧ F1 γ i v) o (putL a0 ds xs) w)
  (hend : ∀ xs : List Value, xs.length = ds.length → ∀ γ w, G1 γ true w → (∀ i, i < ds.length → F1 γ i (xs.getD i undef)) → Q .normal (putL a0 ds xs) w) :
  ∀ (m : Nat) (l : Array Bool) (xs : List Value) (w : World), l.size = ops.size → ((List.range ops.size).filter fun i => !l.getD i true).length = m → xs.length = ds.length →
   (∀ i, l.getD i false = true → ∀ j ∈ needsAt ops i, l.getD j false = true) →
   ((l.getD p true = false ∧ G0 w ∧ ∀ i, i < ds.length → l.getD i true = true → F i (xs.getD i undef) w) ∨ (l.getD p true = true ∧ ∃ γ, G1 γ (l.getD s true) w ∧ ∀ i, i < ds.length → l.getD i true = true → F1 γ i (xs.getD i undef))) → (∀ i, l.getD i true = false → xs.getD i undef = xs0.getD i undef) → wpAny P .any ops Q m l (putL a0 ds xs) w := by
 have hn : ds.length = ops.size := by rw [← hd]; simp
 have tf : ∀ (l : Array Bool) (i : Nat), i < l.size → l.getD i true = l.getD i false := fun l i h => by simp [h]
 intro m
 induction m with
 | zero =>
  intro l xs w hl hm hx hc hf hu
  have hall : ∀ i, i < ops.size → l.getD i true = true := by
   intro i hi
   cases h : l.getD i true with
   | true => rfl
   | false =>
    have : i ∈ (List.range ops.size).filter fun i => !l.getD i true := List.mem_filter.2 ⟨List.mem_range.2 hi, by simp [h]⟩
    rw [List.eq_nil_of_length_eq_zero hm] at this
    cases this
  have hq : Q .normal (putL a0 ds xs) w := by
   rcases hf with ⟨h1, _⟩ | ⟨_, γ, h2, h3⟩
   ·rw [hall p hps] at h1; cases h1
   ·rw [hall s hss] at h2
    exact hend xs hx γ w h2 (fun i hi => h3 i hi (hall i (by omega)))
  refine ⟨?_, hq⟩
  refine List.eq_nil_iff_forall_not_mem.2 (fun i hi => ?_)
  have h1 := mem_ready.1 hi
  obtain ⟨h2, o, ho, _⟩ := h1
  have := hall i (Array.getElem?_eq_some_iff.1 ho).1
  rw [h2] at this
  cases this
 | succ m ih =>
  intro l xs w hl hm hx hc hf hu
  refine ⟨fun hr => ?_, fun i hi => ?_⟩
  ·exfalso
   have hex : ∃ i, i < ops.size ∧ l.getD i true = false := by
    cases hq : (List.range ops.size).filter fun i => !l.getD i true with
    | nil => rw [hq] at hm; simp at hm
    | cons x r =>
     have hx : x ∈ (List.range ops.size).filter fun i => !l.getD i true := by rw [hq]; exact List.mem_cons_self
     rw [List.mem_filter, List.mem_range] at hx
     exact ⟨x, hx.1, by simpa using hx.2⟩
   have hmin : ∀ k, (∃ i, i ≤ k ∧ i < ops.size ∧ l.getD i true = false) → ∃ i, i < ops.size ∧ l.getD i true = false ∧ ∀ j, j < i → l.getD j true = true := by
    intro k
    induction k with
    | zero => rintro ⟨i, h0, h1, h2⟩; exact ⟨i, h1, h2, fun j hj => by omega⟩
    | succ k ihk =>
     rintro ⟨i, h0, h1, h2⟩
     by_cases hlow : ∃ j, j ≤ k ∧ j < ops.size ∧ l.getD j true = false
     ·exact ihk hlow
     ·refine ⟨i, h1, h2, fun j hj => ?_⟩
      cases hb : l.getD j true with
      | true => rfl
      | false => exact absurd ⟨j, by omega, by omega, hb⟩ hlow
   obtain ⟨i0, h1, h2⟩ := hex
   obtain ⟨i, hi1, hi2, hlow⟩ := hmin i0 ⟨i0, Nat.le_refl _, h1, h2⟩
   have ho : ops[i]? = some ops[i] := Array.getElem?_eq_getElem hi1
   have hin : i ∈ Region.ready .any ops l := by
    refine mem_ready.2 ⟨hi2, ops[i], ho, fun e hem hb => ?_⟩
    have h3 := List.all_eq_true.1 he i (List.mem_range.2 hi1)
    unfold needsAt at h3
    rw [ho] at h3
    have h4 : e.on ∈ needs ops[i] := by
     unfold needs
     exact List.mem_map.2 ⟨e, List.mem_filter.2 ⟨by simpa using hem, hb⟩, rfl⟩
    have h5 := List.all_eq_true.1 h3 e.on h4
    have h6 : e.on < i := by simpa using h5
    rw [← tf l e.on (by omega)]
    exact hlow e.on h6
   rw [hr] at hin
   cases hin
  ·obtain ⟨hb, o, ho, hedge⟩ := mem_ready.1 hi
   have hio : i < ops.size := (Array.getElem?_eq_some_iff.1 ho).1
   have hneed : ∀ j ∈ needs o, l.getD j false = true := by
    intro j hj
    obtain ⟨e, he1, rfl⟩ := List.mem_map.1 hj
    obtain ⟨he2, he3⟩ := List.mem_filter.1 he1
    exact hedge e (by simpa using he2) he3
   have hlt : ∀ j, l.getD j false = true → j < l.size := by
    intro j hj
    rcases Nat.lt_or_ge j l.size with h' | h'
    ·exact h'
    ·simp [Array.getElem?_eq_none h'] at hj
   have hkey : ∀ k, ∀ j, j ≤ k → j < ops.size → j ∉ pre → j ≠ p → (∀ z ∈ needsAt ops j, l.getD z false = true) → l.getD p true = true := by
    intro k
    induction k with
    | zero => intro j hj hjs h1 h2 _; obtain ⟨z, _, hz, _⟩ := hpost j hjs h1 h2; omega
    | succ k ihk =>
     intro j hj hjs h1 h2 h3
     obtain ⟨z, hz1, hz2, hz3⟩ := hpost j hjs h1 h2
     by_cases hzp : z = p
     ·rw [← hzp, tf l z (hlt z (h3 z hz1))]; exact h3 z hz1
     ·exact ihk z (by omega) (by omega) hz3 hzp (fun y hy => hc z (h3 z hz1) y hy)
   have hpd : i ∉ pre → i ≠ p → l.getD p true = true := fun h1 h2 => hkey i i (Nat.le_refl _) hio h1 h2 (fun z hz => hneed z (by unfold needsAt at hz; rw [ho] at hz; exact hz))
   have hlate : l.getD p true = false → ∀ j, j < ops.size → j ∉ pre → j ≠ p → xs.getD j undef = xs0.getD j undef := by
    intro hp0 j hj h1 h2
    refine hu j ?_
    cases hlj : l.getD j true with
    | false => rfl
    | true =>
     have := hkey j j (Nat.le_refl _) hj h1 h2 (fun z hz => hc j (by rw [← tf l j (by omega)]; exact hlj) z hz)
     rw [hp0] at this
     cases this
   have hdi : o.dst = ds.getD i none := by
    rw [← hd]
    simp [List.getD_eq_getElem?_getD, ho]
   have hdone : ∀ j ∈ needs o, j < ds.length ∧ l.getD j true = true := fun j hj => ⟨by have := hlt j (hneed j hj); omega, by rw [tf l j (hlt j (hneed j hj))]; exact hneed j hj⟩
   have hgo : ∀ v w', ((l.setIfInBounds i true).getD p true = false ∧ G0 w' ∧ ∀ k, k < ds.length → (l.setIfInBounds i true).getD k true = true → F k ((xs.set i v).getD k undef) w') ∨ ((l.setIfInBounds i true).getD p true = true ∧ ∃ γ, G1 γ ((l.setIfInBounds i true).getD s true) w' ∧ ∀ k, k < ds.length → (l.setIfInBounds i true).getD k true = true → F1 γ k ((xs.set i v).getD k undef)) → wpAny P .any ops Q m (l.setIfInBounds i true) ((putL a0 ds xs).put o.dst v) w' := by
    intro v w' hnew
    rw [hdi, putL_set v hap hx (by omega)]
    refine ih (l.setIfInBounds i true) (xs.set i v) w' (by simp [hl]) ?_ (by simp [hx]) ?_ hnew ?_
    ·have hcount : ∀ (r : List Nat), r.Nodup → i ∈ r → (r.filter fun j => !(l.setIfInBounds i true).getD j true).length + 1 = (r.filter fun j => !l.getD j true).length := by
      intro r
      induction r with
      | nil => intro _ h; cases h
      | cons x r ihr =>
       intro hnd hmem
       rw [List.nodup_cons] at hnd
       by_cases hxi : x = i
       ·subst hxi
        have hsame : (r.filter fun j => !(l.setIfInBounds x true).getD j true) = r.filter fun j => !l.getD j true := by
         refine List.filter_congr (fun j hj => ?_)
         have : x ≠ j := fun e => hnd.1 (e ▸ hj)
         rw [getD_set_ne true this]
        have hself : (l.setIfInBounds x true).getD x true = true := by simp
        rw [List.filter_cons, List.filter_cons, hself, hb, hsame]
        simp
       ·have hmem' : i ∈ r := by
         rcases List.mem_cons.1 hmem with h | h
         ·exact absurd h.symm hxi
         ·exact h
        have := ihr hnd.2 hmem'
        rw [List.filter_cons, List.filter_cons, getD_set_ne true (Ne.symm hxi)]
        cases l.getD x true
        ·simp only [Bool.not_false, if_true, List.length_cons]; omega
        ·simpa using this
     have := hcount (List.range ops.size) List.nodup_range (List.mem_range.2 hio)
     omega
    ·intro k hk j hj
     by_cases hik : i = k
     ·subst hik
      unfold needsAt at hj
      rw [ho] at hj
      exact getD_set_true (hneed j hj)
     ·rw [getD_set_ne false hik] at hk
      exact getD_set_true (hc k hk j hj)
    ·intro k hlk
     by_cases hik : i = k
     ·subst hik
      have : (l.setIfInBounds i true).getD i true = true := by simp
      rw [this] at hlk
      cases hlk
     ·rw [getD_set_ne true hik] at hlk
      have : (xs.set i v).getD k undef = xs.getD k undef := by simp [List.getD_eq_getElem?_getD, List.getElem?_set_ne hik]
      rw [this]
      exact hu k hlk
   have hset : ∀ (F' : Nat → Value → Prop) v, F' i v → (∀ k, k < ds.length → l.getD k true = true → F' k (xs.getD k undef)) → ∀ k, k < ds.length → (l.setIfInBounds i true).getD k true = true → F' k ((xs.set i v).getD k undef) := by
    intro F' v hv hold k hk hlk
    by_cases hik : i = k
    ·subst hik
     have : (xs.set i v).getD i undef = v := by simp [List.getD_eq_getElem?_getD, hx, hk]
     rw [this]
     exact hv
    ·rw [getD_set_ne true hik] at hlk
     have : (xs.set i v).getD k undef = xs.getD k undef := by simp [List.getD_eq_getElem?_getD, List.getElem?_set_ne hik]
     rw [this]
     exact hold k hk hlk
   rcases hf with ⟨hp0, hg0, hf0⟩ | ⟨hp1, γ, hg1, hf1⟩
   ·by_cases hip : i ∈ pre
    ·refine (hs0 i o ho hip xs hx w hg0 (fun j hj => hf0 j (hdone j hj).1 (hdone j hj).2) (hu i hb) (hlate hp0)).op ho (fun v w' ⟨h1, hr, h2⟩ => hgo v w' (.inl ⟨?_, h1, hset (fun k z => F k z w') v h2 (fun k hk hlk => hmono k _ w w' hr (hf0 k hk hlk))⟩))
     rw [getD_set_ne true (show i ≠ p by rintro rfl; exact hpp hip)]
     exact hp0
    ·by_cases hie : i = p
     ·subst hie
      have knot : ∀ k, ∀ j, j ≤ k → j < ops.size → j ∉ pre → j ≠ i → l.getD j false = true → False := by
       intro k
       induction k with
       | zero => intro j hj hjs h1 h2 _; obtain ⟨z, _, hz, _⟩ := hpost j hjs h1 h2; omega
       | succ k ihk =>
        intro j hj hjs h1 h2 h3
        obtain ⟨z, hz1, hz2, hz3⟩ := hpost j hjs h1 h2
        have h4 := hc j h3 z hz1
        by_cases hzp : z = i
        ·rw [hzp, ← tf l i (by omega), hb] at h4; cases h4
        ·exact ihk z (by omega) (by omega) hz3 hzp h4
      refine (hsp1 o ho xs hx w hg0 (fun j hj => hf0 j (hdone j hj).1 (hdone j hj).2) (hu i hb) (hlate hp0)).op ho (fun v w' ⟨γ, h1, h2, h3⟩ => hgo v w' (.inr ⟨by simp [hio, hl], γ, ?_, hset (F1 γ) v h2 (fun k hk hlk => h3 k ?_)⟩))
      rotate_left
      ·by_cases hkp : k ∈ pre
       ·exact hkp
       ·exfalso
        have hki : k ≠ i := fun e => by rw [e, hb] at hlk; cases hlk
        exact knot k k (Nat.le_refl _) (by omega) hkp hki (by rw [← tf l k (by omega)]; exact hlk)
      rw [done_set (by omega)]
      have hls : l.getD s true = true → False := by
       intro hls
       by_cases his : s = i
       ·rw [his, hb] at hls; cases hls
       ·exact knot s s (Nat.le_refl _) hss hsp his (by rw [← tf l s (by omega)]; exact hls)
      cases hls2 : l.getD s true with
      | true => exact (hls hls2).elim
      | false => simpa using h1
     ·rw [hpd hip hie] at hp0; cases hp0
   ·have hip : i ∉ pre := by
     intro hip
     have key : ∀ m j, ops.size - j ≤ m → j ∈ pre → l.getD j false = true := by
      intro m
      induction m with
      | zero => intro j hm hj; obtain ⟨k, _, h1, h2, _⟩ := hpre j hj; omega
      | succ m ihm =>
       intro j hm hj
       obtain ⟨k, h0, h1, h2, h3⟩ := hpre j hj
       rcases h0 with h0 | h0
       ·exact hc k (by rw [h0, ← tf l p (by omega)]; exact hp1) j h3
       ·exact hc k (ihm k (by omega) h0) j h3
     have h2 := key ops.size i (by omega) hip
     rw [← tf l i (by omega), hb] at h2
     cases h2
    have hie : i ≠ p := fun e => by rw [← e, hb] at hp1; cases hp1
    refine (hs1 i o ho hip hie xs hx γ (l.getD s true) w hg1 (fun j hj => hf1 j (hdone j hj).1 (hdone j hj).2) (hu i hb)).op ho (fun v w' ⟨h1, h2⟩ => hgo v w' (.inr ⟨by rw [getD_set_ne true hie]; exact hp1, γ, ?_, hset (F1 γ) v h2 hf1⟩))
    rw [done_set (by omega)]
    exact h1

/-- The steps, one behind the other: those of pre ahead of the pivot, the pivot, the others behind it. -/
def StepsX {Γ : Type} (P : Program) (ops : Array Oper) (Q : Exit → Act → World → Prop) (G0 : World → Prop) (G1 : Γ → Bool → World → Prop) (p s : Nat) (pre : List Nat) (R : World → World → Prop) (Fs : List (Value → World → Prop)) (Fs1 : Γ → List (Value → Prop)) (xs0 xs : List Value) (a : Act) : List (List Nat) → Nat → List Oper → Prop
 | n :: ns, i, o :: os => (bif pre.contains i then (∀ w, G0 w → Facts Fs xs w n → xs.getD i undef = xs0.getD i undef → (∀ j, j < ops.size → j ∉ pre → j ≠ p → xs.getD j undef = xs0.getD j undef) → StepV P ops Q (fun v w' => G0 w' ∧ R w w' ∧ (Fs.getD i (fun _ _ => True)) v w') o a w)
   else bif i == p then (∀ w, G0 w → Facts Fs xs w n → xs.getD i undef = xs0.getD i undef → (∀ j, j < ops.size → j ∉ pre → j ≠ p → xs.getD j undef = xs0.getD j undef) → StepV P ops Q (fun v w' => ∃ γ, G1 γ (p == s) w' ∧ ((Fs1 γ).getD i (fun _ => True)) v ∧ FactsV (Fs1 γ) xs pre) o a w)
   else (∀ γ d w, G1 γ d w → FactsV (Fs1 γ) xs n → xs.getD i undef = xs0.getD i undef → StepV P ops Q (fun v w' => G1 γ (d || i == s) w' ∧ ((Fs1 γ).getD i (fun _ => True)) v) o a w)) ∧ StepsX P ops Q G0 G1 p s pre R Fs Fs1 xs0 xs a ns (i + 1) os
 | _, _, _ => True
theorem stepsX_to {Γ : Type} {G0 : World → Prop} {G1 : Γ → Bool → World → Prop} {p s : Nat} {pre : List Nat} {R : World → World → Prop} {Fs : List (Value → World → Prop)} {Fs1 : Γ → List (Value → Prop)} {xs0 xs : List Value} {a : Act} (os : List Oper) : ∀ (ns : List (List Nat)) (k : Nat), os.map needs = ns → StepsX P ops Q G0 G1 p s pre R Fs Fs1 xs0 xs a ns k os →
  ∀ j o, os[j]? = some o → (bif pre.contains (k + j) then (∀ w, G0 w → Facts Fs xs w (needs o) → xs.getD (k + j) undef = xs0.getD (k + j) undef → (∀ z, z < ops.size → z ∉ pre → z ≠ p → xs.getD z undef = xs0.getD z undef) → StepV P ops Q (fun v w' => G0 w' ∧ R w w' ∧ (Fs.getD (k + j) (fun _ _ => True)) v w') o a w)
   else bif k + j == p then (∀ w, G0 w → Facts Fs xs w (needs o) → xs.getD (k + j) undef = xs0.getD (k + j) undef → (∀ z, z < ops.size → z ∉ pre → z ≠ p → xs.getD z undef = xs0.getD z undef) → StepV P ops Q (fun v w' => ∃ γ, G1 γ (p == s) w' ∧ ((Fs1 γ).getD (k + j) (fun _ => True)) v ∧ FactsV (Fs1 γ) xs pre) o a w)
   else (∀ γ d w, G1 γ d w → FactsV (Fs1 γ) xs (needs o) → xs.getD (k + j) undef = xs0.getD (k + j) undef → StepV P ops Q (fun v w' => G1 γ (d || k + j == s) w' ∧ ((Fs1 γ).getD (k + j) (fun _ => True)) v) o a w)) := by
 induction os with
 | nil => intro ns k _ _ j o ho; simp at ho
 | cons o1 os ih =>
  intro ns k hn h j o ho
  cases ns with
  | nil => simp at hn
  | cons n ns =>
   rw [List.map_cons, List.cons.injEq] at hn
   obtain ⟨h1, h2⟩ := h
   cases j with
   | zero =>
    rw [List.getElem?_cons_zero, Option.some.injEq] at ho
    subst ho
    rw [hn.1]
    exact h1
   | succ j =>
    rw [List.getElem?_cons_succ] at ho
    have e : k + (j + 1) = k + 1 + j := by omega
    rw [e]
    exact ih ns (k + 1) hn.2 h2 j o ho
/-- THE REGION with a pivot, its operations as a list. -/
theorem region_pivot2 {Γ : Type} {id : Nat} {a0 : Act} {w0 : World} {os : List Oper} (hm : P.follows .mixedOrders = true) (ds : List (Option Tmp)) (ns : List (List Nat)) (p s : Nat) (pre : List Nat) (G0 : World → Prop) (G1 : Γ → Bool → World → Prop) (R : World → World → Prop) (Fs : List (Value → World → Prop)) (Fs1 : Γ → List (Value → Prop))
  (hd : os.map (·.dst) = ds) (hn : os.map needs = ns) (hok : okayV os.toArray ds p s pre = true)
  (hmono : ∀ w w', R w w' → ∀ i v, (Fs.getD i (fun _ _ => True)) v w → (Fs.getD i (fun _ _ => True)) v w') (hG : G0 w0.drew)
  (hs : ∀ xs0 xs : List Value, putL a0 ds xs0 = a0 → xs0.length = ds.length → xs.length = ds.length → StepsX P os.toArray Q G0 G1 p s pre R Fs Fs1 xs0 xs (putL a0 ds xs) ns 0 os)
  (hend : ∀ xs : List Value, xs.length = ds.length → ∀ γ w, G1 γ true w → FactsV (Fs1 γ) xs (List.range ds.length) → Q .normal (putL a0 ds xs) w) :
  (Code.region id os.toArray true).wp P Q a0 w0 := by
 simp only [okayV, Bool.and_eq_true, decide_eq_true_eq] at hok
 obtain ⟨⟨⟨⟨⟨⟨⟨hok1, hok2⟩, hok3⟩, hok4⟩, hok5⟩, hok6⟩, hok7⟩, hok8⟩ := hok
 refine wp_region_any hm ?_
 obtain ⟨xs0, h1, h2⟩ := putL_self a0 ds
 have hn' : ds.length = os.toArray.size := by rw [← hd]; simp
 have h0 : ∀ i, (Array.replicate os.toArray.size false).getD i false = false := rep_false _
 have hpre : ∀ i, i ∈ pre → ∃ k, (k = p ∨ k ∈ pre) ∧ i < k ∧ k < os.toArray.size ∧ i ∈ needsAt os.toArray k := by
  intro i hi
  obtain ⟨k, hk1, hk2⟩ := List.any_eq_true.1 (List.all_eq_true.1 hok7 i hi)
  simp only [Bool.and_eq_true, decide_eq_true_eq] at hk2
  exact ⟨k, List.mem_cons.1 hk1, hk2.1.1, hk2.1.2, by simpa using hk2.2⟩
 have hpost : ∀ i, i < os.toArray.size → i ∉ pre → i ≠ p → ∃ j ∈ needsAt os.toArray i, j < i ∧ j ∉ pre := by
  intro i hi h3 h4
  have h5 := List.all_eq_true.1 hok8 i (List.mem_range.2 hi)
  simp only [Bool.or_eq_true, beq_iff_eq] at h5
  rcases h5 with (h5 | h5) | h5
  ·exact absurd (by simpa using h5) h3
  ·exact absurd h5 h4
  ·obtain ⟨j, hj1, hj2⟩ := List.any_eq_true.1 h5
   simp only [Bool.and_eq_true, decide_eq_true_eq, Bool.not_eq_true'] at hj2
   exact ⟨j, hj1, hj2.1, by simpa using hj2.2⟩
 have H := hs xs0
 have hfp : (Array.replicate os.toArray.size false).getD p true = false := rep_true hok3
 have := mono_all4 (P := P) (ops := os.toArray) (Q := Q) (a0 := a0) (G0 := G0) (G1 := G1) (R := R) (F := fun i => Fs.getD i (fun _ _ => True)) (F1 := fun γ i => (Fs1 γ).getD i (fun _ => True)) (xs0 := xs0) hok3 hok4 hpre hpost (by simpa using hok5) (by simpa using hok6) (by simpa using hd) hok1 hok2 (fun i v w w' h => hmono w w' h i v)
  (fun i o ho hi xs hx w hg hf hu hlt => by
   have h5 := stepsX_to os ns 0 hn (H xs h2 h1 hx) i o (by simpa using ho)
   rw [Nat.zero_add, show pre.contains i = true by simpa using hi] at h5
   exact h5 w hg (facts_of hf) hu hlt)
  (fun o ho xs hx w hg hf hu hlt => by
   have h5 := stepsX_to os ns 0 hn (H xs h2 h1 hx) p o (by simpa using ho)
   rw [Nat.zero_add, show pre.contains p = false by simpa using hok6] at h5
   simp only [cond_false, beq_self_eq_true, cond_true] at h5
   exact (h5 w hg (facts_of hf) hu hlt).imp2 (fun v w' ⟨γ, h1, h2, h3⟩ => ⟨γ, h1, h2, factsV_to h3⟩))
  (fun i o ho hi1 hi2 xs hx γ d w hg hf hu => by
   have h5 := stepsX_to os ns 0 hn (H xs h2 h1 hx) i o (by simpa using ho)
   rw [Nat.zero_add, show pre.contains i = false by simpa using hi1, show (i == p) = false by simpa using hi2] at h5
   exact h5 γ d w hg (factsV_of hf) hu)
  (fun xs hx γ w hg hf => hend xs hx γ w hg (factsV_of (fun j hj => hf j (List.mem_range.1 hj)))) os.toArray.size (Array.replicate os.toArray.size false) xs0 w0.drew (by simp) ?_ h1 ?_ (.inl ⟨hfp, hG, ?_⟩) (fun _ _ => rfl)
 ·rw [h2] at this; exact this
 ·rw [List.filter_eq_self.2]
  ·simp
  ·intro i hi
   rw [List.mem_range] at hi
   rw [rep_true hi]
   rfl
 ·intro i hi
  rw [h0] at hi
  cases hi
 ·intro i hi hl
  rw [rep_true (by omega)] at hl
  cases hl
end
end Go.Proofs.YtgipdacenppmdaaDoor.Reg
