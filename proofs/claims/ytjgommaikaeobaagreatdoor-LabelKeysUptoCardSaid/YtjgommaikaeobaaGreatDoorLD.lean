/- Sort: the pairs in a row of the call's own, by rising names, or it is told why not. -/
import Derived.Test.YtjgommaikaeobaaGreatDoorLC
import Derived.Test.YtjgommaikaeobaaGreatDoorSortG
set_option linter.unusedVariables false
set_option linter.unusedSimpArgs false
namespace Go.Proofs.YtjgommaikaeobaaGreatDoor.L
open Go.RowKit Go.Shelf Go.Lib Go.Sort Go.Proofs.YtjgommaikaeobaaGreatDoorW.PrintWords Go.Proofs.YtjgommaikaeobaaGreatDoor.P

def flatL (l : List S37) : List Value := (flatK enc35 2 l.toArray).toList
theorem flat_len (l : List S37) : (flatL l).length = l.length * 2 := by simp [flatL]
theorem flat_get (l : List S37) (j i : Nat) (hj : j < l.length) (hi : i < 2) : (flatL l)[j * 2 + i]? = (enc35 l[j]!)[i]? := by
  have ht : j * 2 + i < l.toArray.size * 2 := by simp; omega
  have h := get_flatK enc35 2 l.toArray (j * 2 + i) ht
  have e1 : (j * 2 + i) / 2 = j := by omega
  have e2 : (j * 2 + i) % 2 = i := by omega
  rw [e1, e2] at h
  have hlt : j * 2 + i < (flatK enc35 2 l.toArray).size := by rw [size_flatK]; exact ht
  unfold flatL
  rw [Array.getElem?_toList, Array.getElem?_eq_getElem hlt, ← getElem!_pos (flatK enc35 2 l.toArray) (j * 2 + i) hlt, h]
  have hb : l.toArray[j]! = l[j]! := by simp
  rw [hb]
  rcases i with _ | _ | i
  · rfl
  · rfl
  · omega
theorem flat_reps {R : S37 → List Value → Prop} (l : List S37) (hR : ∀ x, R x (enc35 x)) : Reps R 2 l (flatL l) := by
  refine ⟨flat_len l, fun j p hp => ?_⟩
  obtain ⟨hj, rfl⟩ := List.getElem?_eq_some_iff.1 hp
  have e : ((flatL l).drop (j * 2)).take 2 = enc35 l[j] := by
    apply List.ext_getElem?
    intro i
    have hb : l[j]! = l[j] := by simp [hj]
    by_cases hi : i < 2
    · rw [List.getElem?_take_of_lt hi, List.getElem?_drop, flat_get l j i hj hi, hb]
    · rw [List.getElem?_take_eq_none (by omega), List.getElem?_eq_none (by simp [enc35]; omega)]
  rw [e]
  exact hR _
theorem R_of_flat {w : World} {base : Nat} {v : Value} {l : List S37} (h : w.ownsRow base 37 2 v l.length (flatL l)) : Kd.R k37 37 w base (fun _ => True) v l :=
  ⟨fun _ _ => trivial, flatL l, h, flat_reps l (fun x => k37_mkM w base _ x)⟩

theorem info37' : ∃ i0 : TypeInfo, Tryz.prog.info? 37 = some i0 ∧ i0.zero = some (.agg #[.string ⟨#[]⟩, .string ⟨#[]⟩]) ∧ i0.size = 2 ∧ i0.bytes = 32 := by
  have h := info37
  cases hi : Tryz.prog.info? 37 with
  | none => rw [hi] at h; cases h
  | some i0 =>
    rw [hi] at h
    simp only [Option.map_some, Option.some.injEq, Prod.mk.injEq] at h
    exact ⟨i0, rfl, h.1, h.2.1, h.2.2⟩
/-- Clone of some pairs. -/
theorem clone_any (A : Option Addr) (c : Nat) (l : List S37) (w : World) (h : Kd.C k37 w A l.length l) (hl : 0 < l.length) (h8 : l.length ≤ 1000000) :
    Calls Tryz.prog 42 #[.slice A l.length c] w fun e w' => ∃ v, e = .returned v ∧ w'.ownsRow w.heap.size 37 2 v l.length (flatL l) ∧ v ≠ .slice none 0 0 ∧ Below w.heap.size w w' := by
  obtain ⟨b, off, rfl, hb, hc⟩ := pairs_cells h hl
  obtain ⟨i0, e0, e1, e2, e3⟩ := info37'
  refine AnyE.slices_Clone Tryz.layCl i0 _ 2 32 e0 e1 e2 e3 rfl (by omega) Tryz.sizeOf37 b off l.length c (flatL l) w (flat_len l) (by have : maxLen = 9223372036854775807 := rfl; omega) (by omega) (fun j u hu => ?_) (fun u hu => ?_)
  · have hj : j < l.length * 2 := by rw [← flat_len l]; exact (List.getElem?_eq_some_iff.1 hu).1
    have e : j = (j / 2) * 2 + j % 2 := by omega
    have hj2 : j / 2 < l.length := by omega
    have := hc (j / 2) hj2 (j % 2) u (by rw [← flat_get l (j / 2) (j % 2) hj2 (by omega), ← e]; exact hu)
    rw [Nat.add_assoc, ← e] at this
    exact this
  · obtain ⟨j, hj, rfl⟩ := List.getElem_of_mem hu
    have hj' : j < l.length * 2 := by rw [← flat_len l]; exact hj
    have e : j = (j / 2) * 2 + j % 2 := by omega
    have := flat_get l (j / 2) (j % 2) (by omega) (by omega)
    rw [← e, List.getElem?_eq_getElem hj] at this
    have hm := List.mem_of_getElem? this.symm
    simp [enc35] at hm
    rcases hm with hm | hm <;> rw [hm] <;> rfl

/-! ### the sort -/
def cmpN (x y : S37) : Int := Lib.compareBytes x.f0.data.toList y.f0.data.toList
theorem ltOf_N (x y : S37) : ltOf cmpN x y = ltN x y := by
  unfold ltOf cmpN ltN
  exact decide_eq_decide.2 (compareBytes_lt _ _).1
theorem swoN : SWO (ltOf cmpN) where
  irrefl x := by rw [ltOf_N]; simp [ltN, List.lt_irrefl]
  trans x y z h1 h2 := by
    rw [ltOf_N] at *
    simp only [ltN, decide_eq_true_eq] at *
    exact List.lt_trans h1 h2
  ntrans x y z h1 h2 := by
    rw [ltOf_N] at *
    simp only [ltN, decide_eq_false_iff_not] at *
    exact fun h => by
      rcases List.le_iff_lt_or_eq.1 (List.not_lt.1 h1) with h3 | h3
      · exact h2 (List.lt_trans h3 h)
      · rw [← h3] at h; exact h2 h
def Gr (w w' : World) : Prop := ∃ q os, w' = grow (w.drewN q) os
theorem Gr.refl (w : World) : Gr w w := ⟨0, #[], by rw [grow_empty]; rfl⟩
theorem Gr.trans {a b c : World} (h : Gr a b) (k : Gr b c) : Gr a c := by
  obtain ⟨q, os, rfl⟩ := h
  obtain ⟨r, os', rfl⟩ := k
  exact ⟨q + r, os ++ os', by show grow (grow ((a.drewN q).drewN r) os) os' = _; rw [grow_grow, World.drewN_drewN]⟩
theorem Gr.alloc {a b : World} (h : Gr a b) (o : Obj) : Gr a (b.alloc o) := h.trans ⟨0, #[o], by rw [alloc_eq_grow]; rfl⟩
theorem cmpLays (blk off size : Nat) (w : World) : CmpLays Tryz.prog 35 #[] enc35 2 cmpN blk off size w := by
  intro m os dk hs x y
  refine (byName_at x y _).mono ?_
  rintro e w' ⟨rfl, rfl⟩
  exact ⟨rfl, Gr.alloc (Gr.alloc (Gr.refl _) _) _⟩
theorem eg25 : ∀ args w, (callFunc 35 args).run Tryz.prog w = .ok (.enter 35 args) w := enters_of Tryz.func35 (by kernel_rfl) rfl
/-- No pair comes ahead of a lesser one. -/
def SortedN (l : List S37) : Prop := l.Pairwise fun x y => ltN y x = false
theorem sortFunc_any (v : Value) (l : List S37) (w : World) (base : Nat) (h : w.ownsRow base 37 2 v l.length (flatL l)) (hv : v ≠ .slice none 0 0) (h8 : l.length ≤ 1000000) :
    Calls Tryz.prog 43 #[v, .func (.func 35) #[] #[]] w fun e w' => e = .returned (.tuple #[]) ∧ ∃ l', l'.Perm l ∧ SortedN l' ∧ Kd.R k37 37 w' base (fun _ => True) v l' ∧ Below base w w' := by
  obtain ⟨hlen, h⟩ := h
  rcases h with ⟨rfl, _⟩ | ⟨g, cap, cur, rfl, hg, hb, h1, h2, h3, h4⟩
  · exact absurd rfl hv
  have hH : HoldsK enc35 2 w g 0 l.toArray := by
    have := SortG.holds_of_block (enc := id) (ss := flatL l) hb (by rw [hlen, h4]; simp)
    unfold HoldsK
    rw [show (flatL l).toArray = flatK enc35 2 l.toArray by simp [flatL]] at this
    exact this
  have := AnyQ.slices_SortFunc Tryz.laySF 2 Tryz.isAgg37 Tryz.sizeOf37 enc35 (fun _ => rfl) (fun x u hu => by
    simp [enc35] at hu
    rcases hu with hu | hu <;> rw [hu] <;> rfl) cmpN swoN 35 #[] g 0 cap l.toArray w eg25 (cmpLays g 0 _ w) hH (blk_lt hb) (by simp; omega)
  refine Calls.mono this ?_
  rintro e w' ⟨rfl, d', n, os, hp, hs, rfl⟩
  obtain ⟨p1, _, p3⟩ := hp
  refine ⟨rfl, d'.toList, ?_, ?_, ?_, ?_⟩
  · have e1 : d'.extract 0 l.toArray.size = d' := by rw [← p1]; simp
    rw [e1] at p3
    simpa using p3
  · unfold SortedN
    rw [List.pairwise_iff_getElem]
    intro i j hi hj hij
    have := hs i j (Nat.zero_le _) hij (by rw [← p1]; simpa using hj)
    rw [ltOf_N] at this
    simp at hi hj
    rw [getElem!_pos d' j hj, getElem!_pos d' i hi] at this
    simpa using this
  · have hl : d'.toList.length = l.length := by simpa using p1
    have hfl : (flatL d'.toList).length ≤ cur.size := by rw [flat_len, hl, h3]; omega
    refine R_of_flat ⟨flat_len _, .inr ⟨g, cap, putCells id 0 (flatK enc35 2 d') cur, by rw [hl], hg, ?_, by rw [hl]; exact h1, h2, by simp [putCells, h3], ?_⟩⟩
    · exact SortG.heap_sorted (enc := id) (flatK enc35 2 d') hb
    · have := SortG.take_putCells (enc := id) cur (flatL d'.toList) hfl
      rw [flat_len] at this
      rw [show (flatL d'.toList).toArray = flatK enc35 2 d' by simp [flatL]] at this
      simpa using this
  · exact (Below.refl _ _).grown (SortG.grownBy_sorted (enc := id) (o := 0) (flatK enc35 2 d')) (by have := blk_lt hb; omega) (fun j hj => by cases hj; exact hg)
end Go.Proofs.YtjgommaikaeobaaGreatDoor.L
