/- Entries: whether they may be, which counts more, how long they are: both sides alike, with their contracts. -/
import Derived.Test.YtmifpookhhkgeaaDoorQD
import Derived.Test.YtmifpookhhkgeaaDoorP2
import Derived.Test.YtmifpookhhkgeaaDoorP3
import Derived.Test.YtmifpookhhkgeaaDoorP4
import Derived.Test.YtmifpookhhkgeaaDoorWL
import Derived.Test.YtmifpookhhkgeaaDoorTO
import Derived.Test.YtmifpookhhkgeaaDoorLD
set_option linter.unusedVariables false
set_option linter.unusedSimpArgs false
namespace Go.Proofs.YtmifpookhhkgeaaDoor.Q
open Go.RowKit Go.Lib Go.Proofs.YtmifpookhhkgeaaDoorW.PrintWords Go.Proofs.YtmifpookhhkgeaaDoor.P Go.Proofs.YtmifpookhhkgeaaDoor.G
def encE (e : S27) : Value := .agg #[.string e.f0, .int .i64 e.f1, .int .u16 e.f2, .string e.f3, .int .i64 e.f4]
theorem ba_inj {a b : ByteArray} (h : a.toList = b.toList) : a = b := by
  have e : ∀ s : ByteArray, s.data = s.toList.toArray := fun s => by rw [ByteArray.toList_eq]
  apply ByteArray.ext
  rw [e, e, h]
theorem nil_size {s : ByteArray} : s.toList = ([] : List UInt8) ↔ s.size = 0 := by
  rw [ByteArray.toList_eq]
  constructor
  · intro h
    have := congrArg List.length h
    simpa using this
  · intro h
    exact List.eq_nil_of_length_eq_zero (by simpa using h)
def checkC (e : S27) : Int :=
  if e.f0.size = 0 ∨ 1024 < e.f0.size ∨ 8192 < e.f3.size then 5 else if e.f1 < 0 ∨ e.f4 < e.f1 ∨ 1099511627776 < e.f1 ∨ 1099511627776 < e.f4 then 13 else 0
theorem echeck_f (e : S27) (k : Nat) : entry_Check.f (k + 1) e.f0 e.f1 e.f2 e.f3 e.f4 = some (checkC e) := by
  unfold entry_Check.f checkC
  by_cases h0 : e.f0.size = 0
  · rw [if_pos (nil_size.2 h0), if_pos (.inl h0)]
    simp only [entry_Check.j0, if_true]
  · rw [if_neg (fun h => h0 (nil_size.1 h))]
    by_cases h1 : 1024 < e.f0.size
    · rw [if_pos (by omega), if_pos (.inr (.inl h1))]
      simp only [entry_Check.j0, if_true]
    · rw [if_neg (by omega)]
      by_cases h2 : 8192 < e.f3.size
      · rw [if_pos (.inr (.inr h2)), decide_eq_true (by omega)]
        simp only [entry_Check.j0, if_true]
      · rw [if_neg (by omega), decide_eq_false (by omega)]
        simp only [entry_Check.j0, Bool.false_eq_true, if_false]
        by_cases h3 : e.f1 < 0
        · rw [if_pos h3, if_pos (.inl h3)]
        · rw [if_neg h3]
          by_cases h4 : e.f4 < e.f1
          · rw [if_pos h4, if_pos (.inr (.inl h4))]
          · rw [if_neg h4]
            have hm : mx e.f1 e.f4 = e.f4 := by unfold mx; split <;> omega
            rw [hm]
            by_cases h5 : 1099511627776 < e.f4
            · rw [if_pos (by omega), if_pos (by omega)]
            · rw [if_neg (by omega), if_neg (by omega)]
theorem echeck_any (e : S27) (w : World) : Calls Tryd.prog 22 #[encE e] w fun en w' => en = .returned (.int .i64 (checkC e)) ∧ Below w.heap.size w w' := entry_Check.calls 1 _ _ _ _ _ _ w (echeck_f e 0)
theorem check_ok {e : S27} (h : checkC e = 0) : e.f0.size ≤ 1024 ∧ 0 < e.f0.size ∧ e.f3.size ≤ 8192 ∧ 0 ≤ e.f1 ∧ e.f1 ≤ e.f4 ∧ e.f4 ≤ 1099511627776 := by
  unfold checkC at h
  split at h
  · cases h
  · split at h
    · cases h
    · omega
def aboveB (a b : S27) : Bool :=
  if a.f1 = b.f1 then (if a.f2 = b.f2 then (if a.f3 = b.f3 then decide (b.f4 < a.f4) else decide (b.f3.data.toList < a.f3.data.toList)) else decide (b.f2 < a.f2)) else decide (b.f1 < a.f1)
theorem compareBytes_lt (a b : List UInt8) : (Lib.compareBytes a b < 0 ↔ a < b) ∧ (Lib.compareBytes a b = 0 ↔ a = b) := by
  induction a generalizing b with
  | nil => cases b <;> simp [Lib.compareBytes]
  | cons x a ih =>
    cases b with
    | nil => simp [Lib.compareBytes]
    | cons y b =>
      simp only [Lib.compareBytes, List.cons_lt_cons_iff, List.cons.injEq]
      by_cases h1 : x < y
      · have : x ≠ y := fun e => by subst e; exact absurd h1 (UInt8.lt_irrefl _)
        simp [h1, this]
      · by_cases h2 : y < x
        · have : x ≠ y := fun e => by subst e; exact absurd h2 (UInt8.lt_irrefl _)
          simp [h1, h2, this]
        · have : x = y := UInt8.le_antisymm (UInt8.not_lt.1 h2) (UInt8.not_lt.1 h1)
          subst this
          simp [ih]
theorem cmpI_eq (a b : Int) : cmp_Compare_int.f a b = some (cmpI a b) := by
  unfold cmp_Compare_int.f cmp_isNaN_int.f cmpI
  simp only [Option.bind_some]
  by_cases h : a < b
  · simp [h]
  · by_cases h2 : a > b <;> simp [h, h2]
theorem cmpU_eq (a b : Int) : cmp_Compare_uint16.f a b = some (cmpI a b) := by
  unfold cmp_Compare_uint16.f cmp_isNaN_uint16.f cmpI
  simp only [Option.bind_some]
  by_cases h : a < b
  · simp [h]
  · by_cases h2 : a > b <;> simp [h, h2]
theorem or4 (a b c d : Int) : cmp_Or_int.f 8 [a, b, c, d] = some (orI a (orI b (orI c d))) := by
  unfold orI
  simp [cmp_Or_int.f, cmp_Or_int.l0, Go.Proofs.YtmifpookhhkgeaaDoorW.PrintWords.rd, wrap64]
  by_cases h0 : a = 0
  · by_cases h1 : b = 0
    · by_cases h2 : c = 0
      · by_cases h3 : d = 0 <;> simp [h0, h1, h2, h3]
      · simp [h0, h1, h2]
    · simp [h0, h1]
  · simp [h0]
theorem eabove_f (a b : S27) : entry_Above.f 8 a.f0 a.f1 a.f2 a.f3 a.f4 b.f0 b.f1 b.f2 b.f3 b.f4 = some (aboveB a b) := by
  unfold entry_Above.f SCmp.f
  rw [cmpI_eq, Option.bind_some, cmpU_eq, Option.bind_some, Option.bind_some, cmpI_eq, Option.bind_some, or4, Option.bind_some]
  have hz : ∀ x y : Int, (cmpI x y = 0 ↔ x = y) ∧ (cmpI x y > 0 ↔ y < x) := fun x y => by
    unfold cmpI
    by_cases h1 : x < y
    · simp [h1]; omega
    · by_cases h2 : x > y
      · simp [h1, h2]; omega
      · simp [h1, h2]; omega
  have hb := compareBytes_lt a.f3.data.toList b.f3.data.toList
  have hb2 := compareBytes_lt b.f3.data.toList a.f3.data.toList
  congr 1
  unfold aboveB orI
  by_cases h1 : a.f1 = b.f1
  · rw [if_pos ((hz _ _).1.2 h1), if_pos h1]
    by_cases h2 : a.f2 = b.f2
    · rw [if_pos ((hz _ _).1.2 h2), if_pos h2]
      by_cases h3 : a.f3 = b.f3
      · rw [if_pos (hb.2.2 (by rw [h3])), if_pos h3]
        exact decide_eq_decide.2 (hz _ _).2
      · have h4 : ¬ a.f3.data.toList = b.f3.data.toList := fun h => h3 (ba_inj (by rw [ByteArray.toList_eq, ByteArray.toList_eq, h]))
        rw [if_neg (fun h => h4 (hb.2.1 h)), if_neg h3]
        refine decide_eq_decide.2 ⟨fun h => ?_, fun h => ?_⟩
        · rcases List.le_iff_lt_or_eq.1 (List.not_lt.1 (fun h5 => by have := hb.1.2 h5; omega)) with h6 | h6
          · exact h6
          · exact absurd h6.symm h4
        · have h5 : ¬ Lib.compareBytes a.f3.data.toList b.f3.data.toList < 0 := fun h6 => List.lt_asymm h (hb.1.1 h6)
          have h6 : ¬ Lib.compareBytes a.f3.data.toList b.f3.data.toList = 0 := fun h7 => h4 (hb.2.1 h7)
          omega
    · rw [if_neg (fun h => h2 ((hz _ _).1.1 h)), if_neg h2]
      exact decide_eq_decide.2 (hz _ _).2
  · rw [if_neg (fun h => h1 ((hz _ _).1.1 h)), if_neg h1]
    exact decide_eq_decide.2 (hz _ _).2
theorem eabove_any (a b : S27) (w : World) : Calls Tryd.prog 25 #[encE a, encE b] w fun en w' => en = .returned (.bool (aboveB a b)) ∧ Below w.heap.size w w' := entry_Above.calls 8 _ _ _ _ _ _ _ _ _ _ _ w (eabove_f a b)
def entP (e : S27) : List (List Int) := [textB e.f0, intB e.f1, intB (wrap64 e.f2), textB e.f3, intB e.f4]
def entB (e : S27) : List Int := listB (entP e)
def sizeE (e : S27) : Int := (entB e).length
theorem wrap_rng (n : Int) : -9223372036854775808 ≤ wrap64 n ∧ wrap64 n ≤ 9223372036854775807 := by unfold wrap64; omega
theorem wrap1' {n i : Nat} (h : i < n) (hn : n ≤ 9223372036854775807) : wrap64 ((i : Int) + 1) = ((i + 1 : Nat) : Int) := by unfold wrap64; omega
theorem blist_l0 (ps : List (List Int)) (hn : ps.length ≤ 1000000000) (d : Nat) : ∀ (k j : Nat), j + d = ps.length → d < k → 1 + sumLen ps < 140737488355328 → ben_List.l0 k (108 :: (ps.take j).flatten) ps (ps.length : Int) (j : Int) = some (listB ps) := by
  induction d with
  | zero =>
    intro k j h hk hs
    obtain ⟨k, rfl⟩ : ∃ m, k = m + 1 := ⟨k - 1, by omega⟩
    simp only [ben_List.l0]
    have e : ps.take j = ps := List.take_of_length_le (by omega)
    rw [if_neg (by omega), e, if_pos (by rw [List.length_cons, flat_len']; omega)]
    rfl
  | succ d ih =>
    intro k j h hk hs
    obtain ⟨k, rfl⟩ : ∃ m, k = m + 1 := ⟨k - 1, by omega⟩
    simp only [ben_List.l0]
    have hj : j < ps.length := by omega
    have hg : rd_L7 ps (j : Int) = ps[j] := by simp [rd_L7, hj]
    have h1 := sumLen_take ps j hj
    have h2 := sumLen_le ps (j + 1)
    have h3 := flat_take ps j hj
    rw [if_pos (by omega), if_pos (by omega), if_pos (by omega), hg, if_pos (by rw [List.length_cons, flat_len']; omega), wrap1' hj (by omega), List.cons_append, ← h3]
    exact ih k (j + 1) (by omega) (by omega) hs
theorem blist_eq (ps : List (List Int)) (k : Nat) (hn : ps.length ≤ 1000000000) (hs : sumLen ps < 140737488355327) (hk : ps.length < k) : ben_List.f k ps = some (listB ps) :=
  blist_l0 ps hn ps.length k 0 (by omega) hk (by omega)
theorem textB_len (s : ByteArray) (h : s.size ≤ 9223372036854775807) : (textB s).length ≤ 20 + s.size := by
  unfold textB
  have := itoa_len s.size h
  simp only [List.length_append, List.length_singleton, bytesOf_length, numB, List.length_map]
  omega
theorem intB_len (n : Int) (h0 : -9223372036854775808 ≤ n) (h1 : n ≤ 9223372036854775807) : (intB n).length ≤ 22 := by
  have := itoa_len_any n h0 h1
  simp only [intB, numB, List.length_append, List.length_cons, List.length_map, List.length_nil]
  omega
theorem ent_fit {e : S27} (h : checkC e = 0) : (entP e).length ≤ 1000000000 ∧ sumLen (entP e) < 20000 := by
  obtain ⟨a1, a2, a3, a4, a5, a6⟩ := check_ok h
  have b1 := textB_len e.f0 (by omega)
  have b2 := textB_len e.f3 (by omega)
  have b3 := intB_len e.f1 (by omega) (by omega)
  have b4 := intB_len (wrap64 e.f2) (wrap_rng _).1 (wrap_rng _).2
  have b5 := intB_len e.f4 (by omega) (by omega)
  refine ⟨by simp [entP], ?_⟩
  simp only [entP, sumLen, List.map_cons, List.map_nil, List.sum_cons, List.sum_nil]
  omega
theorem size_rng {e : S27} (h : checkC e = 0) : 0 ≤ sizeE e ∧ sizeE e ≤ 20002 := by
  have := (ent_fit h).2
  unfold sizeE entB listB
  simp only [List.length_cons, List.length_append, List.length_nil, flat_len']
  omega
theorem esize_f {e : S27} (h : checkC e = 0) : packet_Size.f 8 e.f0 e.f1 e.f2 e.f3 e.f4 = some (sizeE e) := by
  obtain ⟨a1, a2, a3, a4, a5, a6⟩ := check_ok h
  have hf := ent_fit h
  unfold packet_Size.f entry_Put.f BTextG.f BIntG.f
  rw [if_pos (by omega), Option.bind_some, if_pos (by omega), Option.bind_some, if_pos (wrap_rng _), Option.bind_some, if_pos (by omega), Option.bind_some, if_pos (by omega), Option.bind_some]
  have := blist_eq (entP e) 8 hf.1 (by omega) (by simp [entP])
  unfold entP at this
  rw [this]
  rfl
theorem esize_any {e : S27} (h : checkC e = 0) (w : World) (hT : TabS w) : Calls Tryd.prog 17 #[encE e] w fun en w' => en = .returned (.int .i64 (sizeE e)) ∧ Below w.heap.size w w' := packet_Size.calls 8 _ _ _ _ _ _ w hT (esize_f h)
end Go.Proofs.YtmifpookhhkgeaaDoor.Q
