/- The timers in memory: a map by keys that holds the entries of a list; what New, Next, Len, Seen, Set and Drop do to it, whatever the world. -/
import Derived.Test.YtbocdfpgjkjilaaPTimerPlaysx0
import Derived.Maps.Own
import Derived.Maps.OwnOps
import Derived.Maps.OwnSet
import Derived.Maps.Ext
import Derived.Lib.Hide
import Derived.Deep.Heap
set_option linter.unusedVariables false
set_option linter.unusedSimpArgs false
namespace Go.Proofs.Ytbocdfpgjkjilaa.T
open Go.RowKit Go.Maps Go.Proofs.YtbocdfpgjkjilaaW.PrintWords Go.Proofs.Ytbocdfpgjkjilaa.PTimerPlays

theorem law9 : Keyed Try.prog 9 := string_keyed Try.underlying9
theorem zero3 (w : World) : (zeroValue 3).run Try.prog w = .ok (.int .i64 0) w := by kernel_rfl

/-- An entry as the map's datum has it. -/
def ent (x : S52) : Lit × DataW Unit := (.string x.f0.data.toList, .lit (.int .i64 x.f1))
/-- A datum that holds just the entries of a list. -/
def RelD (D : DataW Unit) (L : List S52) : Prop := ∃ es, D = .map es ∧ es.Perm (L.map ent)
def Keys1 (L : List S52) : Prop := L.Pairwise (fun x y => x.f0 ≠ y.f0)
def Short (L : List S52) : Prop := ∀ x ∈ L, x.f0.size ≤ maxLen ∧ (Lit.int .i64 x.f1).wf = true

theorem key_ne {a b : ByteArray} (h : a ≠ b) : a.data.toList ≠ b.data.toList := by
  intro e
  apply h
  cases a; cases b
  simp only [ByteArray.mk.injEq]
  exact Array.toList_inj.1 e
theorem sameKey_str (a b : ByteArray) : Lit.sameKey (.string a.data.toList) (.string b.data.toList) = decide (a = b) := by
  by_cases h : a = b
  · subst h; simp [Lit.sameKey]
  · rw [decide_eq_false h]
    simp only [Lit.sameKey]
    exact beq_eq_false_iff_ne.2 (key_ne h)

theorem RelD.has {D : DataW Unit} {L : List S52} (h : RelD D L) (k : ByteArray) : Maps.has D (.string k.data.toList) = L.any (fun x => decide (x.f0 = k)) := by
  obtain ⟨es, rfl, hp⟩ := h
  rw [Maps.has_eq, hp.any_eq, List.any_map]
  congr 1
  funext x
  exact sameKey_str _ _
theorem RelD.size {D : DataW Unit} {L : List S52} (h : RelD D L) : Maps.size D = L.length := by
  obtain ⟨es, rfl, hp⟩ := h
  rw [Maps.size_eq, hp.length_eq, List.length_map]
theorem RelD.del {D : DataW Unit} {L : List S52} (h : RelD D L) (k : ByteArray) : RelD (D.del (.string k.data.toList)) (L.filter fun x => decide (x.f0 ≠ k)) := by
  obtain ⟨es, rfl, hp⟩ := h
  refine ⟨_, rfl, (hp.filter _).trans ?_⟩
  rw [List.filter_map]
  have : (fun x => !x.1.sameKey (Lit.string k.data.toList)) ∘ ent = fun x => decide (x.f0 ≠ k) := by
    funext x
    simp only [Function.comp, ent, sameKey_str]
    by_cases e : x.f0 = k <;> simp [e]
  rw [this]
theorem insert_perm' (x : Lit × DataW Unit) (l : List (Lit × DataW Unit)) : (DataW.insert x l).Perm (x :: l) := WideShapes.insert_perm x l
theorem RelD.put {D : DataW Unit} {L : List S52} (h : RelD D L) (k : ByteArray) (a : Int) : RelD (D.put (.string k.data.toList) (.lit (.int .i64 a))) (⟨k, a⟩ :: L.filter fun x => decide (x.f0 ≠ k)) := by
  obtain ⟨es1, e1, hp⟩ := RelD.del h k
  obtain ⟨es0, rfl, hp0⟩ := h
  simp only [DataW.del, DataW.map.injEq] at e1
  subst e1
  exact ⟨_, rfl, (insert_perm' _ _).trans (hp.cons _)⟩
theorem RelD.perm {D : DataW Unit} {L L' : List S52} (h : RelD D L) (hp : L.Perm L') : RelD D L' := by
  obtain ⟨es, rfl, h⟩ := h
  exact ⟨es, rfl, h.trans (hp.map _)⟩
def tHas (L : List S52) (k : ByteArray) : Bool := L.any fun x => decide (x.f0 = k)
def tAt (L : List S52) (k : ByteArray) : Int := match L.find? (fun x => decide (x.f0 = k)) with
  | some x => x.f1
  | none => 0
theorem find_perm_key {L : List S52} (hk : Keys1 L) (k : ByteArray) (x : S52) (hx : x ∈ L) (he : x.f0 = k) : L.find? (fun x => decide (x.f0 = k)) = some x := by
  induction L with
  | nil => cases hx
  | cons y L ih =>
    rw [List.find?_cons]
    rcases List.mem_cons.1 hx with rfl | hx
    · simp [he]
    · have hne : y.f0 ≠ x.f0 := (List.pairwise_cons.1 hk).1 x hx
      rw [show decide (y.f0 = k) = false from by simp; rw [← he]; exact hne]
      exact ih (List.pairwise_cons.1 hk).2 hx
theorem atKey_of_mem {es : List (Lit × DataW Unit)} (hd : es.Pairwise fun p q => p.1 ≠ q.1) {k : ByteArray} {d z : DataW Unit} (h : (Lit.string k.data.toList, d) ∈ es) : (DataW.map es).atKey (.string k.data.toList) z = d := by
  have : es.find? (fun p => p.1.sameKey (.string k.data.toList)) = some (Lit.string k.data.toList, d) := by
    induction es with
    | nil => cases h
    | cons y r ih =>
      rw [List.find?_cons]
      rcases List.mem_cons.1 h with rfl | h
      · simp [Lit.sameKey]
      · have hne := (List.pairwise_cons.1 hd).1 _ h
        rw [sameKey_ne hne]
        exact ih (List.pairwise_cons.1 hd).2 h
  simp only [DataW.atKey, this]
theorem RelD.at_ {D : DataW Unit} {L : List S52} (h : RelD D L) (hk : Keys1 L) (k : ByteArray) (c : Int) (hc : D.atKey (.string k.data.toList) (.lit (.int .i64 0)) = .lit (.int .i64 c)) : c = tAt L k := by
  obtain ⟨es, rfl, hp⟩ := h
  have hd : es.Pairwise fun p q => p.1 ≠ q.1 := by
    refine (hp.symm.pairwise_iff (fun {a b} (h : a.1 ≠ b.1) => h.symm)).1 ?_
    rw [List.pairwise_map]
    refine hk.imp (fun {a b} hab => ?_)
    intro e
    exact key_ne hab (by simpa [ent] using e)
  unfold tAt
  cases hf : L.find? (fun x => decide (x.f0 = k)) with
  | none =>
    have hn := List.find?_eq_none.1 hf
    have : es.find? (fun p => p.1.sameKey (.string k.data.toList)) = none := by
      rw [List.find?_eq_none]
      intro p hpm
      obtain ⟨x, hx, rfl⟩ := List.mem_map.1 (hp.mem_iff.1 hpm)
      simp only [ent, sameKey_str]
      exact hn x hx
    simp only [DataW.atKey, this, DataW.lit.injEq, Lit.int.injEq] at hc
    exact hc.2.symm
  | some x =>
    have hx := List.mem_of_find?_eq_some hf
    have he := List.find?_some hf
    simp only [decide_eq_true_eq] at he
    have hm : ent x ∈ es := hp.mem_iff.2 (List.mem_map.2 ⟨x, hx, rfl⟩)
    simp only [ent, he] at hm
    rw [atKey_of_mem hd hm] at hc
    simp only [DataW.lit.injEq, Lit.int.injEq] at hc
    exact hc.2.symm

theorem ownsMap_size {w : World} {b n : Nat} {D : DataW Unit} (h : w.ownsMap Try.prog 9 (plainElem Try.prog 3) b n D) : w.ownsMap Try.prog 9 (plainElem Try.prog 3) b (Maps.size D) D := by
  obtain ⟨es, clock, hb, F, hs, rfl⟩ := h
  exact ⟨es, clock, hb, F, by simp [Maps.size, length_sorted], rfl⟩

/-- The timers at g, their map in block b: the entries of L. -/
def Tm (w : World) (g b : Nat) (L : List S52) : Prop :=
  w.heap[g]? = some (.cells #[.map (some b)] 56 (0, 0)) ∧ Keys1 L ∧ Short L ∧ ∃ D, w.ownsMap Try.prog 9 (plainElem Try.prog 3) b L.length D ∧ RelD D L

theorem Tm.perm {w : World} {g b : Nat} {L L' : List S52} (h : Tm w g b L) (hp : L.Perm L') : Tm w g b L' := by
  obtain ⟨h1, h2, h3, D, h4, h5⟩ := h
  exact ⟨h1, (hp.pairwise_iff (fun {a b} h e => h e.symm)).1 h2, fun x hx => h3 x (hp.mem_iff.2 hx), D, by rw [← hp.length_eq]; exact h4, h5.perm hp⟩
theorem Tm.ne {w : World} {g b : Nat} {L : List S52} (h : Tm w g b L) : g ≠ b := by
  obtain ⟨h1, _, _, D, ⟨es, clock, hb, _⟩, _⟩ := h
  intro e
  subst e
  rw [h1] at hb
  cases hb
theorem Tm.kept {w w' : World} {g b : Nat} {L : List S52} {row : Option Nat} (h : Tm w g b L) (hg : w.grownBy w' row) (h1 : some g ≠ row) (h2 : some b ≠ row) : Tm w' g b L := by
  obtain ⟨e1, e2, e3, D, e4, e5⟩ := h
  exact ⟨blk_grown e1 hg h1, e2, e3, D, e4.kept hg h2, e5⟩
theorem Tm.below {w w' : World} {g b : Nat} {L : List S52} (h : Tm w g b L) (hb : Below w.heap.size w w') : Tm w' g b L := h.kept (grown_of_below hb none) (by simp) (by simp)
theorem Tm.gt {w : World} {g b : Nat} {L : List S52} (h : Tm w g b L) : g < w.heap.size ∧ b < w.heap.size := ⟨blk_lt h.1, by obtain ⟨_, _, _, D, e4, _⟩ := h; exact e4.lt⟩

/-- New. -/
theorem new_any (w : World) : Calls Try.prog 8 #[] w fun e w' => ∃ g b, e = .returned (.pointer (some ⟨g, 0, none⟩)) ∧ Tm w' g b [] ∧ Below w.heap.size w w' ∧ w.heap.size ≤ g ∧ w.heap.size ≤ b := by
  have hmm := @run_makeMap Try.prog
  go_enter Try.func8, Try.ntmps8
  go_wp2
  go_ret
  have e1 : ((w.alloc (Obj.map #[] 0)).alloc (Obj.cells #[Value.map (some w.heap.size)] 56)).heap[w.heap.size + 1]? = some (Obj.cells #[Value.map (some w.heap.size)] 56 (0, 0)) := by
    have := blk_new (w.alloc (Obj.map #[] 0)) (Obj.cells #[Value.map (some w.heap.size)] 56 (0, 0))
    simpa using this
  have e2 : Short [] := by intro x hx; cases hx
  refine ⟨w.heap.size + 1, w.heap.size, rfl, ⟨e1, List.Pairwise.nil, e2, DataW.map [], (World.ownsMap_made _ _ _ _).alloc _, ⟨[], rfl, .refl _⟩⟩, ?_, by omega, Nat.le_refl _⟩
  exact below_alloc (below_alloc (Below.refl _ _) _) _

/-- Next. -/
theorem next_any (g b : Nat) (L : List S52) (k : ByteArray) (w : World) (h : Tm w g b L) (hk : k.size ≤ maxLen) :
    Calls Try.prog 10 #[.pointer (some ⟨g, 0, none⟩), .string k] w fun e w' => e = .returned (.tuple #[.int .i64 (tAt L k), .bool (tHas L k)]) ∧ w' = w := by
  obtain ⟨h1, h2, h3, D, h4, h5⟩ := h
  have c0 : w.cell? ⟨g, 0, none⟩ = some (.map (some b)) := (blk_cell h1 0).trans rfl
  have hkey := WideMaps.keyOf_string_mk Try.underlying9 hk
  have H5 := Aside0.mk h5
  have H2 := Aside0.mk h2
  clear h1 h2 h3 h5
  go_enter Try.func10, Try.ntmps10
  go_wp2_with ((at_lookup; refine wpList_lookup_own_ok_int _ rfl _ _ 54 rfl 9 3 .i64 law9 Try.underlying54 Try.underlying3 (zero3 _) b _ D rfl h4 _ _ rfl hkey ?_; intro c hat hwc))
  go_ret2
  rw [← H5.out.at_ H2.out k c (by first | assumption | simpa using hat), ← show Maps.has D (.string k.data.toList) = tHas L k from H5.out.has k]
  exact ⟨rfl, rfl⟩

/-- Len. -/
theorem len_any (g b : Nat) (L : List S52) (w : World) (h : Tm w g b L) :
    Calls Try.prog 13 #[.pointer (some ⟨g, 0, none⟩)] w fun e w' => e = .returned (.int .i64 L.length) ∧ w' = w := by
  obtain ⟨h1, h2, h3, D, h4, h5⟩ := h
  have c0 : w.cell? ⟨g, 0, none⟩ = some (.map (some b)) := (blk_cell h1 0).trans rfl
  have H5 := Aside0.mk h5.size
  clear h1 h2 h3 h5
  go_enter Try.func13, Try.ntmps13
  go_wp2_with ((at_len; refine wpList_len_own _ rfl _ 54 rfl 9 3 Try.underlying54 _ b _ D rfl h4 ?_))
  go_ret
  rw [H5.out]
  exact ⟨rfl, rfl⟩

theorem may_any (a : Int) (w : World) : Calls Try.prog 21 #[.int .i64 a] w fun e w' => e = .returned (.bool (decide (0 ≤ a) && decide (a ≤ 1099511627776))) ∧ w' = w := by
  by_cases h : 0 ≤ a
  · go_enter Try.func21, Try.ntmps21
    go_wp2
    go_ret
    exact ⟨by simp [h], rfl⟩
  · have h' : decide (0 ≤ a) = false := decide_eq_false h
    go_enter Try.func21, Try.ntmps21
    go_wp2
    go_ret
    exact ⟨by simp [h], rfl⟩

/-- A time that may be. -/
def okT (a : Int) : Bool := decide (0 ≤ a) && decide (a ≤ 1099511627776)
theorem okT_iff {a : Int} : okT a = true ↔ 0 ≤ a ∧ a ≤ 1099511627776 := by simp [okT]
theorem may_ok (a : Int) (w : World) : Calls Try.prog 21 #[.int .i64 a] w fun e w' => e = .returned (.bool (okT a)) ∧ w' = w := may_any a w

theorem Tm.put_ {w w1 : World} {g b : Nat} {L : List S52} {D : DataW Unit} {k : ByteArray} {a : Int} (h1 : w.heap[g]? = some (.cells #[.map (some b)] 56 (0, 0))) (hgb : g ≠ b) (h2 : Keys1 L) (h3 : Short L) (h5 : RelD D L) (hk : k.size ≤ maxLen) (ha : (Lit.int .i64 a).wf = true)
    (hown : w1.ownsMap Try.prog 9 (plainElem Try.prog 3) b (L.length + 1) (D.put (.string k.data.toList) (.lit (.int .i64 a)))) (ht : w.mapTurned w1 b) : Tm w1 g b (⟨k, a⟩ :: L.filter fun x => decide (x.f0 ≠ k)) := by
  have hp := h5.put k a
  refine ⟨blk_grown h1 ht.grown (by simpa using hgb), ?_, ?_, _, ?_, hp⟩
  · refine List.pairwise_cons.2 ⟨fun x hx => ?_, h2.filter _⟩
    have := (List.mem_filter.1 hx).2
    exact fun e => by simp [← e] at this
  · intro x hx
    rcases List.mem_cons.1 hx with rfl | hx
    · exact ⟨hk, ha⟩
    · exact h3 x (List.mem_filter.1 hx).1
  · have := ownsMap_size hown
    rwa [hp.size] at this
theorem Tm.del_ {w w1 : World} {g b n : Nat} {L : List S52} {D : DataW Unit} {k : ByteArray} (h1 : w.heap[g]? = some (.cells #[.map (some b)] 56 (0, 0))) (hgb : g ≠ b) (h2 : Keys1 L) (h3 : Short L) (h5 : RelD D L)
    (hown : w1.ownsMap Try.prog 9 (plainElem Try.prog 3) b n (D.del (.string k.data.toList))) (ht : w.mapTurned w1 b) : Tm w1 g b (L.filter fun x => decide (x.f0 ≠ k)) := by
  have hp := h5.del k
  refine ⟨blk_grown h1 ht.grown (by simpa using hgb), h2.filter _, fun x hx => h3 x (List.mem_filter.1 hx).1, _, ?_, hp⟩
  have := ownsMap_size hown
  rwa [hp.size] at this

/-- What Seen answers, and what it leaves. -/
def seenB (L : List S52) (k : ByteArray) (a c : Int) : Bool := okT a && okT c && okT (a + c) && !tHas L k
def putL (L : List S52) (x : S52) : List S52 := x :: L.filter fun y => decide (y.f0 ≠ x.f0)
def seenL (L : List S52) (k : ByteArray) (a c : Int) : List S52 := if seenB L k a c = true then putL L ⟨k, a + c⟩ else L

theorem seen_any (g b : Nat) (L : List S52) (k : ByteArray) (a c : Int) (w : World) (h : Tm w g b L) (hk : k.size ≤ maxLen) (hL : L.length < maxLen) :
    Calls Try.prog 9 #[.pointer (some ⟨g, 0, none⟩), .string k, .int .i64 a, .int .i64 c] w fun e w' => e = .returned (.bool (seenB L k a c)) ∧ Tm w' g b (seenL L k a c) ∧ w.grownBy w' (some b) := by
  have HT := Aside0.mk h
  have hgb := h.ne
  obtain ⟨h1, h2, h3, D, h4, h5⟩ := h
  have c0 : w.cell? ⟨g, 0, none⟩ = some (.map (some b)) := (blk_cell h1 0).trans rfl
  have hkey := WideMaps.keyOf_string_mk Try.underlying9 hk
  have H1 := Aside0.mk h1
  have H2 := Aside0.mk h2
  have H3 := Aside0.mk h3
  have H5 := Aside0.mk h5
  have HG := Aside0.mk hgb
  have HL := Aside0.mk hL
  clear h1 h2 h3 h5 hgb hL
  have hno : seenB L k a c = false → (Ending.returned (.bool false) = .returned (.bool (seenB L k a c)) ∧ Tm w g b (seenL L k a c) ∧ w.grownBy w (some b)) := fun hx => ⟨by rw [hx], by unfold seenL; rw [if_neg (by rw [hx]; simp)]; exact HT.out, World.grownBy.refl _ _⟩
  have HN := Aside0.mk hno
  clear hno
  cases hA : okT a with
  | false =>
    go_enter Try.func9, Try.ntmps9
    go_wp2_with ((go_at_call 21; refine (may_ok a _).mono ?_; rintro e w' ⟨rfl, rfl⟩))
    go_ret
    exact HN.out (by simp [seenB, hA])
  | true =>
    cases hC : okT c with
    | false =>
      go_enter Try.func9, Try.ntmps9
      go_wp2_with (fail)
      refine (may_ok a _).mono ?_
      rintro e w' ⟨rfl, rfl⟩
      go_wp2_with (fail)
      refine (may_ok c _).mono ?_
      rintro e w' ⟨rfl, rfl⟩
      go_wp2_with (fail)
      go_ret
      exact HN.out (by simp [seenB, hC])
    | true =>
      obtain ⟨a1, a2⟩ := okT_iff.1 hA
      obtain ⟨c1, c2⟩ := okT_iff.1 hC
      cases hS : okT (a + c) with
      | false =>
        go_enter Try.func9, Try.ntmps9
        go_wp2_with (fail)
        refine (may_ok a _).mono ?_
        rintro e w' ⟨rfl, rfl⟩
        go_wp2_with (fail)
        refine (may_ok c _).mono ?_
        rintro e w' ⟨rfl, rfl⟩
        go_wp2_with (fail)
        refine (may_ok (a + c) _).mono ?_
        rintro e w' ⟨rfl, rfl⟩
        go_wp2_with (fail)
        go_ret
        exact HN.out (by simp [seenB, hS])
      | true =>
        have hwf : (Lit.int .i64 (a + c)).wf = true := WalkArith.wf_i64 (by omega)
        have e1 : IntKind.i64.wrap (a + c) = a + c := IntWalk.i64_in _ (by omega)
        cases hH : Maps.has D (.string k.data.toList) with
        | true =>
          go_enter Try.func9, Try.ntmps9
          go_wp2_with (fail)
          refine (may_ok a _).mono ?_
          rintro e w' ⟨rfl, rfl⟩
          go_wp2_with (fail)
          refine (may_ok c _).mono ?_
          rintro e w' ⟨rfl, rfl⟩
          go_wp2_with (fail)
          refine (may_ok (a + c) _).mono ?_
          rintro e w' ⟨rfl, rfl⟩
          go_wp2_with ((at_lookup; refine wpList_lookup_own_ok_int _ rfl _ _ 54 rfl 9 3 .i64 law9 Try.underlying54 Try.underlying3 (zero3 _) b _ D rfl h4 _ _ rfl hkey ?_; intro c hat hwc))
          go_ret
          exact HN.out (by have := H5.out.has k; rw [hH] at this; simp [seenB, tHas, ← this])
        | false =>
          have hB : seenB L k a c = true := by have := H5.out.has k; rw [hH] at this; simp [seenB, tHas, ← this, hA, hC, hS]
          have HB := Aside0.mk hB
          clear hB
          go_enter Try.func9, Try.ntmps9
          go_wp2_with (fail)
          refine (may_ok a _).mono ?_
          rintro e w' ⟨rfl, rfl⟩
          go_wp2_with (fail)
          refine (may_ok c _).mono ?_
          rintro e w' ⟨rfl, rfl⟩
          go_wp2_with (fail)
          refine (may_ok (a + c) _).mono ?_
          rintro e w' ⟨rfl, rfl⟩
          go_wp2_with (first
            | (at_lookup; refine wpList_lookup_own_ok_int _ rfl _ _ 54 rfl 9 3 .i64 law9 Try.underlying54 Try.underlying3 (zero3 _) b _ D rfl h4 _ _ rfl hkey ?_; intro cc hat hwc; clear hat hwc)
            | (at_mapUpdate; refine wpList_mapUpdate_in _ rfl _ _ _ 54 rfl 9 3 law9 Try.underlying54 _ b _ D rfl h4 HL.out _ _ _ rfl rfl hkey _ [] (plainElem_int Try.underlying3 hwf) ?_; intro w1 hown1 hturn1))
          go_ret
          refine ⟨by rw [HB.out]; rfl, ?_, hturn1.grown⟩
          unfold seenL
          rw [if_pos HB.out]
          exact Tm.put_ H1.out HG.out H2.out H3.out H5.out hk hwf hown1 hturn1

/-- What Set answers, and what it leaves. -/
def setB (L : List S52) (k : ByteArray) (a : Int) : Bool := tHas L k && okT a
def setL (L : List S52) (k : ByteArray) (a : Int) : List S52 := if setB L k a = true then putL L ⟨k, a⟩ else L

theorem set_any (g b : Nat) (L : List S52) (k : ByteArray) (a : Int) (w : World) (h : Tm w g b L) (hk : k.size ≤ maxLen) (hL : L.length < maxLen) :
    Calls Try.prog 11 #[.pointer (some ⟨g, 0, none⟩), .string k, .int .i64 a] w fun e w' => e = .returned (.bool (setB L k a)) ∧ Tm w' g b (setL L k a) ∧ w.grownBy w' (some b) := by
  have hnx := next_any g b L k w h hk
  have HX := Aside0.mk hnx
  clear hnx
  have HT := Aside0.mk h
  have hgb := h.ne
  obtain ⟨h1, h2, h3, D, h4, h5⟩ := h
  have c0 : w.cell? ⟨g, 0, none⟩ = some (.map (some b)) := (blk_cell h1 0).trans rfl
  have hkey := WideMaps.keyOf_string_mk Try.underlying9 hk
  have H1 := Aside0.mk h1
  have H2 := Aside0.mk h2
  have H3 := Aside0.mk h3
  have H5 := Aside0.mk h5
  have HG := Aside0.mk hgb
  have HL := Aside0.mk hL
  clear h1 h2 h3 h5 hgb hL
  have HN := Aside0.mk (show setB L k a = false → (Ending.returned (.bool false) = .returned (.bool (setB L k a)) ∧ Tm w g b (setL L k a) ∧ w.grownBy w (some b)) from fun hx => ⟨by rw [hx], by unfold setL; rw [if_neg (by rw [hx]; simp)]; exact HT.out, World.grownBy.refl _ _⟩)
  cases hH : tHas L k with
  | false =>
    go_enter Try.func11, Try.ntmps11
    go_wp2_with (fail)
    refine HX.out.mono ?_
    rintro e w' ⟨rfl, rfl⟩
    go_wp2_with (fail)
    go_ret
    exact HN.out (by simp [setB, hH])
  | true =>
    cases hA : okT a with
    | false =>
      go_enter Try.func11, Try.ntmps11
      go_wp2_with (fail)
      refine HX.out.mono ?_
      rintro e w' ⟨rfl, rfl⟩
      go_wp2_with (fail)
      refine (may_ok a _).mono ?_
      rintro e w' ⟨rfl, rfl⟩
      go_wp2_with (fail)
      go_ret
      exact HN.out (by simp [setB, hA])
    | true =>
      obtain ⟨a1, a2⟩ := okT_iff.1 hA
      have hwf : (Lit.int .i64 a).wf = true := WalkArith.wf_i64 (by omega)
      have HB := Aside0.mk (show setB L k a = true by simp [setB, hA, hH])
      go_enter Try.func11, Try.ntmps11
      go_wp2_with (fail)
      refine HX.out.mono ?_
      rintro e w' ⟨rfl, rfl⟩
      go_wp2_with (fail)
      refine (may_ok a _).mono ?_
      rintro e w' ⟨rfl, rfl⟩
      go_wp2_with ((at_mapUpdate; refine wpList_mapUpdate_in _ rfl _ _ _ 54 rfl 9 3 law9 Try.underlying54 _ b _ D rfl h4 HL.out _ _ _ rfl rfl hkey _ [] (plainElem_int Try.underlying3 hwf) ?_; intro w1 hown1 hturn1))
      go_ret
      refine ⟨by rw [HB.out]; rfl, ?_, hturn1.grown⟩
      unfold setL
      rw [if_pos HB.out]
      exact Tm.put_ H1.out HG.out H2.out H3.out H5.out hk hwf hown1 hturn1

def delL (L : List S52) (k : ByteArray) : List S52 := L.filter fun y => decide (y.f0 ≠ k)
theorem delL_no {L : List S52} {k : ByteArray} (h : tHas L k = false) : delL L k = L := by
  unfold delL
  rw [List.filter_eq_self]
  intro x hx
  have := List.any_eq_false.1 h x hx
  simpa using this

theorem drop_any (g b : Nat) (L : List S52) (k : ByteArray) (w : World) (h : Tm w g b L) (hk : k.size ≤ maxLen) :
    Calls Try.prog 12 #[.pointer (some ⟨g, 0, none⟩), .string k] w fun e w' => e = .returned (.bool (tHas L k)) ∧ Tm w' g b (delL L k) ∧ w.grownBy w' (some b) := by
  have hnx := next_any g b L k w h hk
  have HX := Aside0.mk hnx
  clear hnx
  have HT := Aside0.mk h
  have hgb := h.ne
  obtain ⟨h1, h2, h3, D, h4, h5⟩ := h
  have c0 : w.cell? ⟨g, 0, none⟩ = some (.map (some b)) := (blk_cell h1 0).trans rfl
  have hkey := WideMaps.keyOf_string_mk Try.underlying9 hk
  have H1 := Aside0.mk h1
  have H2 := Aside0.mk h2
  have H3 := Aside0.mk h3
  have H5 := Aside0.mk h5
  have HG := Aside0.mk hgb
  clear h1 h2 h3 h5 hgb
  cases hH : tHas L k with
  | false =>
    go_enter Try.func12, Try.ntmps12
    go_wp2_with (fail)
    refine HX.out.mono ?_
    rintro e w' ⟨rfl, rfl⟩
    go_wp2_with (fail)
    go_ret
    exact ⟨rfl, by rw [delL_no hH]; exact HT.out, World.grownBy.refl _ _⟩
  | true =>
    go_enter Try.func12, Try.ntmps12
    go_wp2_with (fail)
    refine HX.out.mono ?_
    rintro e w' ⟨rfl, rfl⟩
    go_wp2_with ((at_delete; refine wpList_delete_own _ rfl _ _ 54 9 rfl 3 law9 Try.underlying54 _ b _ D rfl h4 _ _ rfl hkey ?_; intro w1 hown1 hturn1))
    go_ret
    exact ⟨rfl, Tm.del_ H1.out HG.out H2.out H3.out H5.out hown1 hturn1, hturn1.grown⟩

/-! Timers that are not there. -/
theorem next_nil (k : ByteArray) (w : World) : Calls Try.prog 10 #[.pointer none, .string k] w fun e w' => e = .returned (.tuple #[.int .i64 0, .bool false]) ∧ w' = w := by
  go_enter Try.func10, Try.ntmps10
  go_wp2
  go_ret2
  exact ⟨rfl, rfl⟩
theorem len_nil (w : World) : Calls Try.prog 13 #[.pointer none] w fun e w' => e = .returned (.int .i64 0) ∧ w' = w := by
  go_enter Try.func13, Try.ntmps13
  go_wp2
  go_ret
  exact ⟨rfl, rfl⟩
theorem seen_nil (k : ByteArray) (a c : Int) (w : World) : Calls Try.prog 9 #[.pointer none, .string k, .int .i64 a, .int .i64 c] w fun e w' => e = .returned (.bool false) ∧ w' = w := by
  go_enter Try.func9, Try.ntmps9
  go_wp2
  go_ret
  exact ⟨rfl, rfl⟩
theorem set_nil (k : ByteArray) (a : Int) (w : World) : Calls Try.prog 11 #[.pointer none, .string k, .int .i64 a] w fun e w' => e = .returned (.bool false) ∧ w' = w := by
  go_enter Try.func11, Try.ntmps11
  go_wp2_with ((go_at_call 10; refine (next_nil _ _).mono ?_; rintro e w' ⟨rfl, rfl⟩))
  go_ret
  exact ⟨rfl, rfl⟩
theorem drop_nil (k : ByteArray) (w : World) : Calls Try.prog 12 #[.pointer none, .string k] w fun e w' => e = .returned (.bool false) ∧ w' = w := by
  go_enter Try.func12, Try.ntmps12
  go_wp2_with ((go_at_call 10; refine (next_nil _ _).mono ?_; rintro e w' ⟨rfl, rfl⟩))
  go_ret
  exact ⟨rfl, rfl⟩
end Go.Proofs.Ytbocdfpgjkjilaa.T
