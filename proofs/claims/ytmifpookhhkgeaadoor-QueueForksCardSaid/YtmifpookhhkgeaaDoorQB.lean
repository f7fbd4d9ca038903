/- SortFunc, Clone and IndexFunc of items: contracts over the shelf's. -/
import Derived.Test.YtmifpookhhkgeaaDoorQA
set_option linter.unusedVariables false
set_option linter.unusedSimpArgs false
namespace Go.Proofs.YtmifpookhhkgeaaDoor.Q
open Go.RowKit Go.Shelf Go.Lib Go.Sort Go.Proofs.YtmifpookhhkgeaaDoorW.PrintWords Go.Proofs.YtmifpookhhkgeaaDoor.P
instance : Inhabited S47 := ⟨z47⟩
def flatL (l : List S47) : List Value := (flatK enc47 7 l.toArray).toList
theorem flat_len (l : List S47) : (flatL l).length = l.length * 7 := by simp [flatL]
theorem enc_len (x : S47) : (enc47 x).length = 7 := rfl
theorem flat_get (l : List S47) (j i : Nat) (hj : j < l.length) (hi : i < 7) : (flatL l)[j * 7 + i]? = (enc47 l[j]!)[i]? := by
  have ht : j * 7 + i < l.toArray.size * 7 := by simp; omega
  have h := get_flatK enc47 7 l.toArray (j * 7 + i) ht
  have e1 : (j * 7 + i) / 7 = j := by omega
  have e2 : (j * 7 + i) % 7 = i := by omega
  rw [e1, e2] at h
  have hlt : j * 7 + i < (flatK enc47 7 l.toArray).size := by rw [size_flatK]; exact ht
  unfold flatL
  rw [Array.getElem?_toList, Array.getElem?_eq_getElem hlt, ← getElem!_pos (flatK enc47 7 l.toArray) (j * 7 + i) hlt, h]
  have hb : l.toArray[j]! = l[j]! := by simp
  rw [hb]
  have hl : i < (enc47 l[j]!).length := by rw [enc_len]; exact hi
  rw [List.getElem?_eq_getElem hl]
  exact congrArg some (getElem!_pos (enc47 l[j]!) i hl)
theorem flat_drop (l : List S47) (j : Nat) (hj : j < l.length) : ((flatL l).drop (j * 7)).take 7 = enc47 l[j] := by
  apply List.ext_getElem?
  intro i
  have hb : l[j]! = l[j] := by simp [hj]
  by_cases hi : i < 7
  · rw [List.getElem?_take_of_lt hi, List.getElem?_drop, flat_get l j i hj hi, hb]
  · rw [List.getElem?_take_eq_none (by omega), List.getElem?_eq_none (by simp [enc47]; omega)]
theorem flat_reps {R : S47 → List Value → Prop} (l : List S47) (hR : ∀ x, R x (enc47 x)) : Reps R 7 l (flatL l) := by
  refine ⟨flat_len l, fun j p hp => ?_⟩
  obtain ⟨hj, rfl⟩ := List.getElem?_eq_some_iff.1 hp
  rw [flat_drop l j hj]
  exact hR _
theorem R_of_flat {w : World} {base : Nat} {v : Value} {l : List S47} (ok : Nat → Prop) (hok : ∀ k, v.ownBlock = some k → ok k) (h : w.ownsRow base 47 7 v l.length (flatL l)) : Kd.R k47 47 w base ok v l :=
  ⟨hok, flatL l, h, flat_reps l (fun x => k47_mkM w base _ x)⟩
theorem flat_of_R {w : World} {base : Nat} {v : Value} {l : List S47} {ok : Nat → Prop} (h : Kd.R k47 47 w base ok v l) : w.ownsRow base 47 7 v l.length (flatL l) := by
  obtain ⟨_, inner, ho, hr⟩ := h
  have e : inner = flatL l := by
    obtain ⟨hlen, hr⟩ := hr
    apply List.ext_getElem?
    intro i
    by_cases hi : i < l.length * 7
    · have hj : i / 7 < l.length := by omega
      have e1 : i = i / 7 * 7 + i % 7 := by omega
      have h1 := hr (i / 7) l[i / 7] (List.getElem?_eq_getElem hj)
      have h2 := k47_openM h1
      have h3 : (inner.drop (i / 7 * 7)).take 7 = enc47 l[i / 7] := h2
      have h4 : inner[i]? = ((inner.drop (i / 7 * 7)).take 7)[i % 7]? := by
        rw [List.getElem?_take_of_lt (by omega), List.getElem?_drop, ← e1]
      have h5 : (flatL l)[i]? = (((flatL l).drop (i / 7 * 7)).take 7)[i % 7]? := by
        rw [List.getElem?_take_of_lt (by omega), List.getElem?_drop, ← e1]
      rw [h4, h3, h5, flat_drop l _ hj]
    · rw [List.getElem?_eq_none (by have : inner.length = l.length * 7 := hlen; omega), List.getElem?_eq_none (by rw [flat_len]; omega)]
  rw [← e]
  exact ho
theorem items_cells {w : World} {A : Option Addr} {l : List S47} (h : Kd.C k47 w A l.length l) (hp : 0 < l.length) :
    ∃ b off, A = some ⟨b, off, none⟩ ∧ b < w.heap.size ∧ ∀ j, j < l.length → ∀ i v, (enc47 l[j]!)[i]? = some v → w.cell? ⟨b, off + j * 7 + i, none⟩ = some v := by
  obtain ⟨ad, c, rfl, _, hK, hc0⟩ := Kd.C_get h z47 0 (by omega) (by omega)
  obtain rfl := k47_open hK
  have hcell := hc0 0 _ rfl
  obtain ⟨b, off, sp⟩ := ad
  cases sp with
  | some s =>
    exfalso
    simp only [World.cell?, Addr.add] at hcell
    split at hcell <;> simp_all
  | none =>
    refine ⟨b, off, rfl, ?_, fun j hj i v hv => ?_⟩
    · have h1 := World.block_lt_of_cell? w _ hcell
      have h2 : ((⟨b, off, none⟩ : Addr).add ((0 : Int).toNat * k47.sz + 0)).block = b := by unfold Addr.add; split <;> rfl
      rw [h2] at h1
      exact h1
    · obtain ⟨ad2, c2, e2, _, hK2, hc2⟩ := Kd.C_get h z47 (j : Int) (by omega) (by omega)
      obtain rfl : (⟨b, off, none⟩ : Addr) = ad2 := Option.some.inj e2
      obtain rfl := k47_open hK2
      have h3 := hc2 i v (by
        rw [← hv]
        have : l[j]! = l.getD (j : Int).toNat z47 := by simp [hj]
        rw [this]
        rfl)
      have hsz : k47.sz = 7 := rfl
      rw [hsz, Int.toNat_natCast, add_at] at h3
      rw [Nat.add_assoc]
      exact h3

theorem info47' : ∃ i0 : TypeInfo, Tryd.prog.info? 47 = some i0 ∧ i0.zero = some (.agg #[(.string ⟨#[]⟩), (.int .i64 0), (.int .u16 0), (.string ⟨#[]⟩), (.int .i64 0), (.int .i64 0), (.int .i64 0)]) ∧ i0.size = 7 ∧ i0.bytes = 72 := by
  have h : (Tryd.prog.info? 47).map (fun i => (i.zero, i.size, i.bytes)) = some (some (.agg #[(.string ⟨#[]⟩), (.int .i64 0), (.int .u16 0), (.string ⟨#[]⟩), (.int .i64 0), (.int .i64 0), (.int .i64 0)]), 7, 72) := by kernel_rfl
  cases hi : Tryd.prog.info? 47 with
  | none => rw [hi] at h; cases h
  | some i0 =>
    rw [hi] at h
    simp only [Option.map_some, Option.some.injEq, Prod.mk.injEq] at h
    exact ⟨i0, rfl, h.1, h.2.1, h.2.2⟩
/-- Clone of some items. -/
theorem clone_any (A : Option Addr) (c : Nat) (l : List S47) (w : World) (h : Kd.C k47 w A l.length l) (hl : 0 < l.length) (h8 : l.length ≤ 1000000) :
    Calls Tryd.prog 31 #[.slice A l.length c] w fun e w' => ∃ v, e = .returned v ∧ w'.ownsRow w.heap.size 47 7 v l.length (flatL l) ∧ v ≠ .slice none 0 0 ∧ Below w.heap.size w w' := by
  obtain ⟨b, off, rfl, hb, hc⟩ := items_cells h hl
  obtain ⟨i0, e0, e1, e2, e3⟩ := info47'
  refine AnyE.slices_Clone Tryd.layCl i0 _ 7 72 e0 e1 e2 e3 rfl (by omega) Tryd.sizeOf47 b off l.length c (flatL l) w (flat_len l) (by have : maxLen = 9223372036854775807 := rfl; omega) (by omega) (fun j u hu => ?_) (fun u hu => ?_)
  · have hj : j < l.length * 7 := by rw [← flat_len l]; exact (List.getElem?_eq_some_iff.1 hu).1
    have e : j = (j / 7) * 7 + j % 7 := by omega
    have hj2 : j / 7 < l.length := by omega
    have := hc (j / 7) hj2 (j % 7) u (by rw [← flat_get l (j / 7) (j % 7) hj2 (by omega), ← e]; exact hu)
    rw [Nat.add_assoc, ← e] at this
    exact this
  · obtain ⟨j, hj, rfl⟩ := List.getElem_of_mem hu
    have hj' : j < l.length * 7 := by rw [← flat_len l]; exact hj
    have e : j = (j / 7) * 7 + j % 7 := by omega
    have := flat_get l (j / 7) (j % 7) (by omega) (by omega)
    rw [← e, List.getElem?_eq_getElem hj] at this
    have hm := List.mem_of_getElem? this.symm
    simp [enc47] at hm
    rcases hm with hm | hm | hm | hm | hm | hm | hm <;> rw [hm] <;> rfl
theorem clone_nil (n c : Nat) (w : World) : Calls Tryd.prog 31 #[.slice none n c] w fun e w' => e = .returned (.slice none 0 0) ∧ w' = w :=
  AnyE.slices_Clone_nil Tryd.layCl n c w
/-- One item is taken ahead of another one. -/
def ltQ (x y : S47) : Bool := decide (x.f1 < y.f1) || (decide (x.f1 = y.f1) && decide (y.f2 < x.f2))
theorem ltOf_Q (x y : S47) : ltOf ordI x y = ltQ x y := by
  unfold ltOf ordI orI cmpI ltQ
  by_cases h1 : x.f1 < y.f1
  · simp [h1]
  · by_cases h2 : x.f1 > y.f1
    · have h3 : ¬ x.f1 = y.f1 := by omega
      simp [h1, h2, h3]
    · have h3 : x.f1 = y.f1 := by omega
      by_cases h4 : y.f2 < x.f2
      · simp [h3, h4]
      · by_cases h5 : y.f2 > x.f2 <;> simp [h3, h4, h5]
theorem swoQ : SWO (ltOf ordI) where
  irrefl x := by rw [ltOf_Q]; simp [ltQ]
  trans x y z h1 h2 := by
    rw [ltOf_Q] at *
    simp only [ltQ, Bool.or_eq_true, Bool.and_eq_true, decide_eq_true_eq] at *
    omega
  ntrans x y z h1 h2 := by
    rw [ltOf_Q] at *
    simp only [ltQ, Bool.or_eq_false_iff, Bool.and_eq_false_iff, decide_eq_false_iff_not] at *
    omega
theorem cmpLays (blk off size : Nat) (w : World) : CmpLays Tryd.prog 27 #[] enc47 7 ordI blk off size w := by
  intro m os dk hs x y
  refine (order_any x y _).mono ?_
  rintro e w' ⟨rfl, q, os', rfl⟩
  exact ⟨rfl, q, os', rfl⟩
theorem eg27 : ∀ args w, (callFunc 27 args).run Tryd.prog w = .ok (.enter 27 args) w := enters_of Tryd.func27 (by kernel_rfl) rfl
def SortedQ (l : List S47) : Prop := l.Pairwise fun x y => ltQ y x = false
theorem sortFunc_any (A : Option Addr) (c c' : Nat) (l : List S47) (w : World) (base : Nat) (ok : Nat → Prop) (hR : Kd.R k47 47 w base ok (.slice A l.length c') l) (hv : 0 < l.length) (h8 : l.length ≤ 1000000) :
    Calls Tryd.prog 26 #[.slice A l.length c, .func (.func 27) #[] #[]] w fun e w' => e = .returned (.tuple #[]) ∧ ∃ l', l'.Perm l ∧ SortedQ l' ∧ Kd.R k47 47 w' base ok (.slice A l.length c') l' ∧ w.grownBy w' (Value.slice A l.length c').ownBlock := by
  have hok := hR.1
  obtain ⟨hlen, h⟩ := flat_of_R hR
  rcases h with ⟨_, h0⟩ | ⟨g, cap, cur, he, hg, hb, h1, h2, h3, h4⟩
  · omega
  obtain ⟨rfl, rfl⟩ : A = some ⟨g, 0, none⟩ ∧ c' = cap := by simpa using he
  have hH : HoldsK enc47 7 w g 0 l.toArray := by
    have := SortG.holds_of_block (enc := id) (ss := flatL l) hb (by rw [hlen, h4]; simp)
    unfold HoldsK
    rw [show (flatL l).toArray = flatK enc47 7 l.toArray by simp [flatL]] at this
    exact this
  have := AnyQ.slices_SortFunc Tryd.laySF 7 Tryd.isAgg47 Tryd.sizeOf47 enc47 (fun _ => rfl) (fun x u hu => by
    simp [enc47] at hu
    rcases hu with hu | hu | hu | hu | hu | hu | hu <;> rw [hu] <;> rfl) ordI swoQ 27 #[] g 0 c l.toArray w eg27 (cmpLays g 0 _ w) hH (blk_lt hb) (by simp; omega)
  refine Calls.mono this ?_
  rintro e w' ⟨rfl, d', n, os, hp, hs, rfl⟩
  obtain ⟨p1, _, p3⟩ := hp
  refine ⟨rfl, d'.toList, ?_, ?_, ?_, ?_⟩
  · have e1 : d'.extract 0 l.toArray.size = d' := by rw [← p1]; simp
    rw [e1] at p3
    simpa using p3
  · unfold SortedQ
    rw [List.pairwise_iff_getElem]
    intro i j hi hj hij
    have := hs i j (Nat.zero_le _) hij (by rw [← p1]; simpa using hj)
    rw [ltOf_Q] at this
    simp at hi hj
    rw [getElem!_pos d' j hj, getElem!_pos d' i hi] at this
    simpa using this
  · have hl : d'.toList.length = l.length := by simpa using p1
    have hfl : (flatL d'.toList).length ≤ cur.size := by rw [flat_len, hl, h3]; omega
    refine R_of_flat ok hok ⟨flat_len _, .inr ⟨g, c', putCells id 0 (flatK enc47 7 d') cur, by rw [hl], hg, ?_, by rw [hl]; exact h1, h2, by simp [putCells, h3], ?_⟩⟩
    · exact SortG.heap_sorted (enc := id) (flatK enc47 7 d') hb
    · have := SortG.take_putCells (enc := id) cur (flatL d'.toList) hfl
      rw [flat_len] at this
      rw [show (flatL d'.toList).toArray = flatK enc47 7 d' by simp [flatL]] at this
      simpa using this
  · exact SortG.grownBy_sorted (enc := id) (o := 0) (flatK enc47 7 d')
theorem sortFunc_nil (w : World) : Calls Tryd.prog 26 #[.slice none 0 0, .func (.func 27) #[] #[]] w fun e w' => e = .returned (.tuple #[]) ∧ w' = w :=
  AnyF.slices_SortFunc_none Tryd.laySF none 0 _ w
/-- The closure of Push: has an item the key? -/
theorem key_at (y : S47) (key : ByteArray) (bx : Nat) (w : World) (h : ∃ cs, w.heap[bx]? = some (.cells cs 27 (0, 0)) ∧ cs[0]? = some (.string key)) :
    Calls Tryd.prog 24 #[.agg (enc47 y).toArray, .pointer (some ⟨bx, 0, none⟩)] w fun e w' => e = .returned (.bool (decide (y.f0.f0 = key))) ∧ Below w.heap.size w w' := by
  obtain ⟨cs, hb, hc0⟩ := h
  have hc : w.cell? ⟨bx, 0, none⟩ = some (.string key) := (blk_cell hb 0).trans hc0
  have hne : bx ≠ w.heap.size := by have := blk_lt hb; omega
  unfold enc47
  have HE := Aside0.mk (show (y.f0.f0.toList == key.toList) = decide (y.f0.f0 = key) by
    by_cases h : y.f0.f0 = key
    · rw [h]; simp
    · rw [decide_eq_false h]
      exact beq_eq_false_iff_ne.2 (fun h2 => h (by
        have h3 := congrArg List.toArray h2
        apply ByteArray.ext
        have e : ∀ s : ByteArray, s.data = s.toList.toArray := fun s => by rw [ByteArray.toList_eq]
        rw [e, e, h2])))
  clear hb hc0
  have hlt : bx < w.heap.size := World.block_lt_of_cell? w _ hc
  go_enter Tryd.func24, Tryd.ntmps24
  go_wp2_with (fail)
  go_ret
  rw [← HE.out]
  exact ⟨rfl, below_alloc (Below.refl _ w) _⟩
theorem eg24 : ∀ args w, (callFunc 24 args).run Tryd.prog w = .ok (.enter 24 args) w := enters_of Tryd.func24 (by kernel_rfl) rfl
def idxK (l : List S47) (key : ByteArray) : Int := Lib.idxBy (fun _ y => decide (y.f0.f0 = key)) l default
theorem index_any (A : Option Addr) (c : Nat) (l : List S47) (key : ByteArray) (bx : Nat) (w : World) (h : Kd.C k47 w A l.length l) (hl : 0 < l.length) (hb : ∃ cs, w.heap[bx]? = some (.cells cs 27 (0, 0)) ∧ cs[0]? = some (.string key)) :
    Calls Tryd.prog 23 #[.slice A l.length c, .func (.func 24) #[] #[.pointer (some ⟨bx, 0, none⟩)]] w fun e w' => e = .returned (.int .i64 (idxK l key)) ∧ Below w.heap.size w w' := by
  obtain ⟨b, off, rfl, hb0, hc⟩ := items_cells h hl
  have hp : PredBelow Tryd.prog 24 #[.pointer (some ⟨bx, 0, none⟩)] (fun x => .agg (enc47 x).toArray) (fun x => decide (x.f0.f0 = key)) w := fun W x hW => by
    obtain ⟨cs, h1, h2⟩ := hb
    refine (key_at x key bx W ⟨cs, (hW.block _ (blk_lt h1)).trans h1, h2⟩).mono ?_
    rintro e w' ⟨rfl, hb2⟩
    exact ⟨rfl, hW.trans (hb2.mono hW.size)⟩
  have := AnyQ.slices_IndexFunc Tryd.layIF 7 Tryd.isAgg47 Tryd.sizeOf47 enc47 (fun _ => rfl) (fun x => decide (x.f0.f0 = key)) 24 #[.pointer (some ⟨bx, 0, none⟩)] eg24 b off l.length c l w hp (Nat.le_refl _) h.2.1 hb0 hc
  rw [List.take_length] at this
  exact this
end Go.Proofs.YtmifpookhhkgeaaDoor.Q
