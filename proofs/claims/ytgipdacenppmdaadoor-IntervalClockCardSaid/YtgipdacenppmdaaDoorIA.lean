/- The library's functions at this seat, as plain Lean functions; what is asked of the tables. -/
import Derived.Test.YtgipdacenppmdaaDoorP0
import Derived.Test.YtgipdacenppmdaaDoorLayI
import Derived.Lib.LaidTab
import Derived.Lib.SplitLaws
import Derived.Lib.AppendIntMem
import Derived.Lib.AtoiErrMem
set_option linter.unusedVariables false
set_option linter.unusedSimpArgs false
namespace Go.Proofs.YtgipdacenppmdaaDoor.G
open Go.RowKit Go.Lib Go.Proofs.YtgipdacenppmdaaDoorW.PrintWords Go.Proofs.YtgipdacenppmdaaDoor.P
/-- A variable of the program reads on as it did. -/
theorem var_below {P : Program} {w w' : World} {name : String} {cs : Array Value} (hb : Below w.heap.size w w') (h : w.var? P name = some cs) : w'.var? P name = some cs := by
  unfold World.var? at *
  cases hg : P.globalNamed name with
  | none => simp [hg] at h
  | some g =>
    simp only [hg, Option.bind_some] at h ⊢
    have hlt : g < w.heap.size := by
      rcases Nat.lt_or_ge g w.heap.size with h' | h'
      · exact h'
      · rw [Array.getElem?_eq_none h'] at h; simp at h
    rw [hb.block g hlt]
    exact h
theorem var_cell {P : Program} {w : World} {name : String} {cs : Array Value} {g : Nat} (hg : P.globalNamed name = some g) (h : w.var? P name = some cs) (i : Nat) : w.cell? ⟨g, i, none⟩ = cs[i]? := by
  unfold World.var? at h
  rw [hg] at h
  simp only [Option.bind_some] at h
  cases hh : w.heap[g]? with
  | none => simp [hh] at h
  | some o =>
    cases o with
    | cells c t f =>
      simp only [hh, Option.some.injEq] at h
      subst h
      exact cell_of_row w g i c t f hh
    | _ => simp [hh] at h
def aheadTab : List Int := [0, 0, 31, 59, 90, 120, 151, 181, 212, 243, 273, 304, 334, 365]
/-- The tables, as they were laid; the longest needle (a machine's number); the library's two errors of numerals. -/
structure TabS (w : World) : Prop where
  pow : Lib.TabIs Tryd.prog w "internal/strconv.uint64pow10" .u64 Lib.pow10Tab
  spc : Lib.TabIs Tryd.prog w "strings.asciiSpace" .u8 Lib.asciiSpaceTab
  ahd : Lib.TabIs Tryd.prog w "watchfire/civil.ahead" .i64 aheadTab
  max : ∃ m, w.cell? ⟨1, 0, none⟩ = some (.int .i64 m)
  syn : ∃ tp p, w.var? Tryd.prog "strconv.ErrSyntax" = some #[.iface tp p]
  rng : ∃ tp p, w.var? Tryd.prog "strconv.ErrRange" = some #[.iface tp p]
theorem TabS.below {w w' : World} (h : TabS w) (hb : Below w.heap.size w w') : TabS w' := by
  obtain ⟨h1, h2, h3, ⟨m, h4⟩, ⟨tp, p, h5⟩, ⟨tq, q, h6⟩⟩ := h
  exact ⟨var_below hb h1, var_below hb h2, var_below hb h3, ⟨m, (hb.cell (World.block_lt_of_cell? w _ h4)).trans h4⟩, ⟨tp, p, var_below hb h5⟩, ⟨tq, q, var_below hb h6⟩⟩
/-- A new block of texts is a row of them. -/
theorem row_new (w : World) (l : List ByteArray) (h0 : l.length ≤ maxLen) : Kd.R Kd.string 9 (w.alloc (.cells (l.map Value.string).toArray 9)) w.heap.size (fun _ => True) (.slice (some ⟨w.heap.size, 0, none⟩) l.length l.length) l := by
  refine Kd.R_of_own (enc := Value.string) ⟨by simp [encs], .inr ⟨w.heap.size, l.length, (l.map Value.string).toArray, rfl, Nat.le_refl _, heap_alloc_new w _, Nat.le_refl _, h0, by simp, ?_⟩⟩ (fun _ _ => trivial)
  simp [encs]
  exact List.take_of_length_le (by simp)
set_option maxRecDepth 4000 in
theorem cntF_le : ∀ (b : Bool) (l : List UInt8), Lib.cntF b l ≤ l.length
  | _, [] => Nat.le_refl _
  | b, x :: l => by
    have := cntF_le (Lib.isSp x) l
    unfold Lib.cntF
    rw [List.length_cons]
    split <;> omega
def SSplit.f (a0 : ByteArray) (a1 : ByteArray) : Option (List ByteArray) := if a0.size < 4294967281 ∧ 1 ≤ a1.size then some (Lib.splitB a1 0 (Lib.countB a0 a1) a0) else none
theorem SSplit.calls (a0 : ByteArray) (a1 : ByteArray) (r : List ByteArray) (w : World) (hT : TabS w) (h : SSplit.f a0 a1 = some r) :
    Calls Tryd.prog 24 #[.string a0, .string a1] w fun e w' => ∃ v0_ : Value, e = .returned (v0_) ∧ Kd.R Kd.string 9 w' w.heap.size (fun _ => True) v0_ r ∧ Below w.heap.size w w' := by
  unfold SSplit.f at h
  by_cases hc : a0.size < 4294967281 ∧ 1 ≤ a1.size
  · rw [if_pos hc] at h
    obtain rfl := Option.some.inj h
    obtain ⟨m, hm⟩ := hT.max
    refine (Tryd.strings_Split a0 a1 m w hc.1 hm hc.2).mono ?_
    rintro e w' ⟨rfl, rfl⟩
    have hl : (Lib.splitB a1 0 (Lib.countB a0 a1) a0).length = Lib.countB a0 a1 + 1 := splitB_all a1 hc.2 0 _ a0 rfl
    refine ⟨_, rfl, ?_, below_alloc (Below.refl _ _) _⟩
    rw [← hl]
    refine row_new w _ ?_
    rw [hl]
    have := Lib.countB_le a1 hc.2 a0.size a0 (Nat.le_refl _)
    unfold maxLen
    omega
  · rw [if_neg hc] at h; cases h
def SCut.f (a0 : ByteArray) (a1 : ByteArray) : Option (ByteArray × ByteArray × Bool) := if a0.size < 4294967281 then some (⟨(Lib.cut a0.data.toList a1.data.toList).1.toArray⟩, ⟨(Lib.cut a0.data.toList a1.data.toList).2.1.toArray⟩, (Lib.cut a0.data.toList a1.data.toList).2.2) else none
theorem SCut.calls (a0 : ByteArray) (a1 : ByteArray) (r1 : ByteArray) (r2 : ByteArray) (r3 : Bool) (w : World) (hT : TabS w) (h : SCut.f a0 a1 = some (r1, r2, r3)) :
    Calls Tryd.prog 25 #[.string a0, .string a1] w fun e w' => e = .returned (.tuple #[.string r1, .string r2, .bool r3]) ∧ Below w.heap.size w w' := by
  unfold SCut.f at h
  by_cases hc : a0.size < 4294967281
  · rw [if_pos hc] at h
    have h' := Option.some.inj h
    simp only [Prod.mk.injEq] at h'
    obtain ⟨rfl, rfl, rfl⟩ := h'
    obtain ⟨m, hm⟩ := hT.max
    refine (Tryd.strings_Cut a0 a1 m w hc hm).mono ?_
    rintro e w' ⟨rfl, n, rfl⟩
    exact ⟨rfl, pw_below_drewN (Below.refl _ _) n⟩
  · rw [if_neg hc] at h; cases h
def SFields.f (a0 : ByteArray) : Option (List ByteArray) := if a0.size < 4294967281 ∧ (a0.data.toList.all fun b => decide (b.toNat < 128)) = true then some ((Lib.fields a0.data.toList).map fun l => ⟨l.toArray⟩) else none
theorem SFields.calls (a0 : ByteArray) (r : List ByteArray) (w : World) (hT : TabS w) (h : SFields.f a0 = some r) :
    Calls Tryd.prog 57 #[.string a0] w fun e w' => ∃ v0_ : Value, e = .returned (v0_) ∧ Kd.R Kd.string 9 w' w.heap.size (fun _ => True) v0_ r ∧ Below w.heap.size w w' := by
  unfold SFields.f at h
  by_cases hc : a0.size < 4294967281 ∧ (a0.data.toList.all fun b => decide (b.toNat < 128)) = true
  · rw [if_pos hc] at h
    obtain rfl := Option.some.inj h
    have ha : ∀ (j : Nat) b, a0.data.toList[j]? = some b → b.toNat < 128 := fun j b hj => by
      have := List.all_eq_true.1 hc.2 b (List.mem_of_getElem? hj)
      simpa using this
    refine (Tryd.strings_Fields_laid a0 w hc.1 ha hT.spc).mono ?_
    rintro e w' ⟨rfl, rfl⟩
    refine ⟨_, rfl, ?_, below_alloc (Below.refl _ _) _⟩
    have hrow := row_new w ((Lib.fields a0.data.toList).map fun l => ⟨l.toArray⟩) (by
      rw [List.length_map]
      have := cntF_le true a0.data.toList
      rw [← Lib.fields_length] at this
      have h2 : a0.data.toList.length = a0.size := by rw [Array.length_toList]; rfl
      unfold maxLen
      omega)
    rw [List.length_map, List.map_map] at hrow
    exact hrow
  · rw [if_neg hc] at h; cases h
def SItoa.f (a0 : Int) : Option (ByteArray) := if -9223372036854775808 ≤ a0 ∧ a0 ≤ 9223372036854775807 then some ⟨(Lib.itoa a0).toArray⟩ else none
theorem SItoa.calls (a0 : Int) (r : ByteArray) (w : World) (hT : TabS w) (h : SItoa.f a0 = some r) :
    Calls Tryd.prog 43 #[.int .i64 a0] w fun e w' => e = .returned (.string r) ∧ Below w.heap.size w w' := by
  unfold SItoa.f at h
  by_cases hc : -9223372036854775808 ≤ a0 ∧ a0 ≤ 9223372036854775807
  · rw [if_pos hc] at h
    obtain rfl := Option.some.inj h
    refine (Tryd.strconv_Itoa a0 hc.1 hc.2 w hT.pow).mono ?_
    rintro e w' ⟨rfl, k, os, rfl⟩
    exact ⟨rfl, Lib.below_grow _ w (Nat.le_refl _) k os⟩
  · rw [if_neg hc] at h; cases h
def SJoin.f (a0 : List ByteArray) (a1 : ByteArray) : Option (ByteArray) := if a0.length ≤ 1000000 ∧ (Lib.join (a0.map (·.data.toList)) a1.data.toList).length ≤ 140737488355328 then some ⟨(Lib.join (a0.map (·.data.toList)) a1.data.toList).toArray⟩ else none
theorem SJoin.calls (v : Value) (l : List ByteArray) (a1 : ByteArray) (r : ByteArray) (w : World) {base : Nat} {ok : Nat → Prop} (hR : Kd.R Kd.string 9 w base ok v l) (h : SJoin.f l a1 = some r) :
    Calls Tryd.prog 42 #[v, .string a1] w fun e w' => e = .returned (.string r) ∧ Below w.heap.size w w' := by
  unfold SJoin.f at h
  by_cases hb : l.length ≤ 1000000 ∧ (Lib.join (l.map (·.data.toList)) a1.data.toList).length ≤ 140737488355328
  · rw [if_pos hb] at h
    obtain rfl := Option.some.inj h
    obtain ⟨A, c, rfl, hc, hC⟩ := Kd.R_reads hR
    by_cases hl : l = []
    · subst hl
      refine (Any.strings_Join_none Tryd.laysJoin Tryd.Builder_Extra_J A c a1 w).mono ?_
      rintro e w' ⟨rfl, rfl⟩
      exact ⟨rfl, Below.refl _ _⟩
    · have hp : 0 < l.length := List.length_pos_iff.2 hl
      obtain ⟨g, cap, hv, _, hg, _⟩ := Kd.R_form hR hp
      obtain ⟨rfl, _, rfl⟩ : A = some ⟨g, 0, none⟩ ∧ l.length = l.length ∧ c = cap := by simpa using hv
      have hcell : ∀ (j : Nat) x, l[j]? = some x → w.cell? ⟨g, 0 + j, none⟩ = some (.string x) := fun j x hj => by
        obtain ⟨hjl, hx⟩ := List.getElem?_eq_some_iff.1 hj
        obtain ⟨c2, _, hM, hcc, _⟩ := Kd.R_elem hR ByteArray.empty (j : Int) (by omega) (by omega)
        have hM2 : c2 = [Value.string (l.getD (j : Int).toNat ByteArray.empty)] := hM
        subst hM2
        have h0 := hcc 0 _ rfl
        rw [Int.toNat_natCast, show Kd.string.sz = 1 from rfl, Nat.mul_one, Nat.add_zero] at h0
        rw [Nat.zero_add, h0, List.getD_eq_getElem?_getD, hj]
        rfl
      exact Any.strings_Join Tryd.laysJoin Tryd.Builder_Extra_J g 0 c l a1 w hcell hg (by omega) hc hb.2
  · rw [if_neg hb] at h; cases h
/-- What Atoi reads: the number, and whether it is one. -/
def atoiR (s : ByteArray) : Int × Bool := match Lib.atoiAll s.data.toList with
  | .ok v => (v, true)
  | .range => (Lib.atoiSat s.data.toList, false)
  | _ => (0, false)
theorem atoi_any (s : ByteArray) (w : World) (hT : TabS w) (hs : s.size ≤ 281474976710656) :
    Calls Tryd.prog 26 #[.string s] w fun e w' => ∃ ev, e = .returned (.tuple #[.int .i64 (atoiR s).1, ev]) ∧ ((atoiR s).2 = true → ev = .nilIface) ∧ ((atoiR s).2 = false → ∃ t p, ev = .iface t p) ∧ Below w.heap.size w w' := by
  obtain ⟨tp, p, hsyn⟩ := hT.syn
  obtain ⟨tq, q, hrng⟩ := hT.rng
  have hs15 : w.cell? ⟨Tryd.laysAtoi_ren.g 15, 0, none⟩ = some (.iface tp p) := (var_cell (by kernel_rfl) hsyn 0).trans rfl
  have hs16 : w.cell? ⟨Tryd.laysAtoi_ren.g 16, 0, none⟩ = some (.iface tq q) := (var_cell (by kernel_rfl) hrng 0).trans rfl
  unfold atoiR
  cases h : Lib.atoiAll s.data.toList with
  | ok v =>
    refine (Any.strconv_Atoi_ok Tryd.laysAtoi s (by omega) v h w).mono ?_
    rintro e w' ⟨rfl, hw⟩
    refine ⟨_, rfl, fun _ => rfl, (fun h => by cases h), ?_⟩
    rcases hw with rfl | ⟨t, rfl⟩
    · exact Below.refl _ _
    · exact Lib.bytesWorld_below w _ t
  | range =>
    refine (Any.strconv_Atoi_range Tryd.laysAtoi s hs h _ w hs16 (.inr ⟨tq, q, rfl⟩)).mono ?_
    rintro e w' ⟨N, rfl, _, _, hb⟩
    exact ⟨_, rfl, (fun h => by cases h), fun _ => ⟨_, _, rfl⟩, hb⟩
  | _ =>
    refine (Any.strconv_Atoi_syntax Tryd.laysAtoi s hs h _ w hs15 (.inr ⟨tp, p, rfl⟩)).mono ?_
    rintro e w' ⟨N, rfl, _, _, hb⟩
    exact ⟨_, rfl, (fun h => by cases h), fun _ => ⟨_, _, rfl⟩, hb⟩
end Go.Proofs.YtgipdacenppmdaaDoor.G
