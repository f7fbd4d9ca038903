/- Text: the plain words. -/
import Derived.Test.YtgipdacenppmdaaDoorIC
import Derived.Lib.ItoaLen
set_option linter.unusedVariables false
set_option linter.unusedSimpArgs false
namespace Go.Proofs.YtgipdacenppmdaaDoor.G
open Go.RowKit Go.Shelf Go.Lib Go.Sort Go.Proofs.YtgipdacenppmdaaDoorW.PrintWords Go.Proofs.YtgipdacenppmdaaDoor.P
def pairB (a : Int) : ByteArray := strOfNums (([(wrap64 (48 + (wrap64 (Int.tdiv a 10)))) % 256, (wrap64 (48 + (Int.tmod a 10))) % 256] : List Int))
theorem pair_f (a : Int) : interval_pair.f a = some (pairB a) := rfl
theorem pairB_size (a : Int) : (pairB a).size = 2 := rfl
/-- How a number is named. -/
def nmB (k n : Int) : ByteArray :=
  if k = 0 then wdays.getD n.toNat ByteArray.empty
  else if k = 1 then mons.getD (n - 1).toNat ByteArray.empty
  else if k = 4 then (pairB (Int.tdiv n 60) ++ (⟨#[58]⟩ : ByteArray)) ++ pairB (Int.tmod n 60)
  else ⟨(Lib.itoa n).toArray⟩
theorem getD_size {l : List ByteArray} {m : Nat} (h : ∀ x ∈ l, x.size ≤ m) (i : Nat) : (l.getD i ByteArray.empty).size ≤ m := by
  rw [List.getD_eq_getElem?_getD]
  cases hh : l[i]? with
  | none => simp
  | some x => exact h x (List.mem_of_getElem? hh)
theorem mayB_rng {k n : Int} (h : mayB k n = true) : -31 ≤ n ∧ n ≤ 9999 := by
  unfold mayB at h
  split at h
  · have := of_decide_eq_true h; omega
  split at h
  · have := of_decide_eq_true h; omega
  split at h
  · have := of_decide_eq_true h; omega
  split at h
  · have := of_decide_eq_true h; omega
  · have := of_decide_eq_true h; omega
theorem nmB_size {k n : Int} (h : mayB k n = true) : (nmB k n).size ≤ 21 := by
  have hr := mayB_rng h
  unfold nmB
  split
  · exact Nat.le_trans (getD_size (m := 3) (by decide) _) (by omega)
  split
  · exact Nat.le_trans (getD_size (m := 3) (by decide) _) (by omega)
  split
  · rw [ByteArray.size_append, ByteArray.size_append, pairB_size, pairB_size]; decide
  · exact Lib.itoa_length_le n (by omega) (by omega)
theorem name_f {k n : Int} (h : mayB k n = true) : interval_kind_name.f k n = some (nmB k n) := by
  have hr := mayB_rng h
  unfold interval_kind_name.f nmB
  unfold mayB at h
  by_cases h0 : k = 0
  · rw [if_pos h0] at h ⊢
    rw [if_pos h0, fields_w, Option.bind_some]
    have := of_decide_eq_true h
    rw [if_pos this.1, if_pos (show n < (wdays.length : Int) from by rw [show wdays.length = 7 from rfl]; omega)]
    rfl
  rw [if_neg h0] at h
  rw [if_neg h0, if_neg h0]
  by_cases h1 : k = 1
  · rw [if_pos h1] at h ⊢
    rw [if_pos h1, fields_m, Option.bind_some]
    have := of_decide_eq_true h
    have hw : wrap64 (n - 1) = n - 1 := by unfold wrap64; omega
    rw [hw, if_pos (show 0 ≤ n - 1 by omega), if_pos (show n - 1 < (mons.length : Int) from by rw [show mons.length = 12 from rfl]; omega)]
    rfl
  rw [if_neg h1, if_neg h1]
  by_cases h4 : k = 4
  · rw [if_pos h4, if_pos h4]
    have hw : wrap64 (Int.tdiv n 60) = Int.tdiv n 60 := by
      rw [if_neg h1] at h
      rw [if_neg (by omega), if_neg (by omega)] at h
      have := of_decide_eq_true h
      rw [Int.tdiv_eq_ediv_of_nonneg (by omega)]
      unfold wrap64; omega
    rw [hw, pair_f, Option.bind_some, if_pos (by rw [pairB_size]; decide), pair_f, Option.bind_some, if_pos (by rw [ByteArray.size_append, pairB_size, pairB_size]; decide)]
  · rw [if_neg h4, if_neg h4]
    unfold SItoa.f
    rw [if_pos (by omega)]
    rfl
def wordB (k : Int) : ByteArray := if k = 0 then (⟨#[119, 101, 101, 107, 100, 97, 121, 115]⟩ : ByteArray) else if k = 1 then (⟨#[109, 111, 110, 116, 104, 115]⟩ : ByteArray) else if k = 2 then (⟨#[100, 97, 121, 115]⟩ : ByteArray) else if k = 3 then (⟨#[121, 101, 97, 114, 115]⟩ : ByteArray) else (⟨#[116, 105, 109, 101, 115]⟩ : ByteArray)
theorem word_f (k : Int) : interval_kind_word.f k = some (wordB k) := by
  unfold interval_kind_word.f wordB
  split
  · rfl
  split
  · rfl
  split
  · rfl
  split <;> rfl
theorem wordB_size (k : Int) : (wordB k).size ≤ 8 := by
  unfold wordB
  split
  · decide
  split
  · decide
  split
  · decide
  split <;> decide
/-- A range's text. -/
def rgB (k : Int) (x : S37) : ByteArray := if x.f1 = x.f0 then nmB k x.f0 else nmB k x.f0 ++ ((⟨#[46, 46]⟩ : ByteArray) ++ nmB k x.f1)
theorem rgB_size {k : Int} {x : S37} (h : rightB k x.f0 x.f1 = true) : (rgB k x).size ≤ 44 := by
  unfold rightB at h
  rw [Bool.and_eq_true, Bool.and_eq_true] at h
  have h1 := nmB_size h.1
  have h2 := nmB_size h.2.1
  unfold rgB
  split
  · omega
  · rw [ByteArray.size_append, ByteArray.size_append]
    have : (⟨#[46, 46]⟩ : ByteArray).size = 2 := rfl
    omega
theorem joinTail_le (sep : List UInt8) : ∀ (l : List (List UInt8)) (m : Nat), (∀ x ∈ l, x.length ≤ m) → (Lib.joinTail sep l).length ≤ l.length * (m + sep.length)
  | [], m, _ => by simp [Lib.joinTail]
  | x :: t, m, h => by
    have h1 := joinTail_le sep t m (fun y hy => h y (List.mem_cons_of_mem _ hy))
    have h2 := h x (List.mem_cons_self ..)
    simp only [Lib.joinTail, List.map_cons, List.flatten_cons, List.length_append] at h1 ⊢
    rw [List.length_cons, Nat.succ_mul]
    omega
theorem join_le (sep : List UInt8) (l : List (List UInt8)) (m : Nat) (h : ∀ x ∈ l, x.length ≤ m) : (Lib.join l sep).length ≤ l.length * (m + sep.length) := by
  cases l with
  | nil => simp [Lib.join_nil]
  | cons x t =>
    rw [Lib.join_cons, List.length_append, List.length_cons, Nat.succ_mul]
    have h1 := joinTail_le sep t m (fun y hy => h y (List.mem_cons_of_mem _ hy))
    have h2 := h x (List.mem_cons_self ..)
    omega
def joinB (l : List ByteArray) (s : ByteArray) : ByteArray := ⟨(Lib.join (l.map (·.data.toList)) s.data.toList).toArray⟩
theorem joinB_size (l : List ByteArray) (s : ByteArray) : (joinB l s).size = (Lib.join (l.map (·.data.toList)) s.data.toList).length := rfl
theorem joinB_le (l : List ByteArray) (s : ByteArray) (m : Nat) (h : ∀ x ∈ l, x.size ≤ m) : (joinB l s).size ≤ l.length * (m + s.size) := by
  have := join_le s.data.toList (l.map (·.data.toList)) m (fun x hx => by
    obtain ⟨y, hy, rfl⟩ := List.mem_map.1 hx
    have := h y hy
    simpa using this)
  rw [List.length_map] at this
  rw [joinB_size]
  exact this
theorem join_f (l : List ByteArray) (s : ByteArray) (m : Nat) (h : ∀ x ∈ l, x.size ≤ m) (hl : l.length ≤ 1000) (hm : m + s.size ≤ 1000000) : SJoin.f l s = some (joinB l s) := by
  unfold SJoin.f
  have h1 := joinB_le l s m h
  have h2 := joinB_size l s
  have h3 : l.length * (m + s.size) ≤ 1000 * 1000000 := Nat.mul_le_mul hl hm
  rw [if_pos ⟨by omega, by omega⟩]
  rfl
/-- A row of ranges' text. -/
def rowB (k : Int) (l : List S37) : ByteArray := (wordB k ++ (⟨#[61]⟩ : ByteArray)) ++ joinB (l.map (rgB k)) ⟨#[44]⟩
theorem rowB_size {k : Int} {l : List S37} (h8 : l.length ≤ 8) (h : ∀ x ∈ l, rightB k x.f0 x.f1 = true) : (rowB k l).size ≤ 400 := by
  unfold rowB
  have h1 := joinB_le (l.map (rgB k)) ⟨#[44]⟩ 44 (fun y hy => by obtain ⟨x, hx, rfl⟩ := List.mem_map.1 hy; exact rgB_size (h x hx))
  rw [ByteArray.size_append, ByteArray.size_append]
  have h2 := wordB_size k
  have h3 : (⟨#[61]⟩ : ByteArray).size = 1 := rfl
  have h4 : (⟨#[44]⟩ : ByteArray).size = 1 := rfl
  rw [List.length_map, h4] at h1
  omega
def rows : Int → List (List S37) → List ByteArray
  | _, [] => []
  | k, l :: t => (if l = [] then [] else [rowB k l]) ++ rows (k + 1) t
def aheadB (ah : Int) : ByteArray := (⟨#[97, 104, 101, 97, 100, 61]⟩ : ByteArray) ++ ⟨(Lib.itoa ah).toArray⟩
def partsB (s : ByteArray) (ls : List (List S37)) (ah : Int) : List ByteArray := s :: (rows 0 ls ++ (if ah = 0 then [] else [aheadB ah]))
/-- Each range is right, no row is too long. -/
def Fine : Int → List (List S37) → Prop
  | _, [] => True
  | k, l :: t => l.length ≤ 8 ∧ (∀ x ∈ l, rightB k x.f0 x.f1 = true) ∧ Fine (k + 1) t
theorem fine_of : ∀ (k : Int) (ls : List (List S37)) (ah : Int), chk k ls ah = 0 → Fine k ls ∧ -1440 ≤ ah ∧ ah ≤ 1440
  | k, [], ah, h => by
    unfold chk at h
    split at h
    · cases h
    · exact ⟨trivial, by omega, by omega⟩
  | k, l :: t, ah, h => by
    unfold chk at h
    split at h
    · cases h
    split at h
    · obtain ⟨h1, h2⟩ := fine_of (k + 1) t ah h
      rename_i h8 hall
      exact ⟨⟨by omega, fun x hx => List.all_eq_true.1 hall x hx, h1⟩, h2⟩
    · cases h
theorem rows_size : ∀ (k : Int) (ls : List (List S37)), Fine k ls → (rows k ls).length ≤ ls.length ∧ ∀ x ∈ rows k ls, x.size ≤ 400
  | k, [], _ => ⟨by simp [rows], by simp [rows]⟩
  | k, l :: t, h => by
    obtain ⟨h8, hx, ht⟩ := h
    obtain ⟨h1, h2⟩ := rows_size (k + 1) t ht
    unfold rows
    refine ⟨?_, fun x hm => ?_⟩
    · rw [List.length_append, List.length_cons]; split <;> simp <;> omega
    · rcases List.mem_append.1 hm with h | h
      · split at h
        · cases h
        · rw [List.mem_singleton] at h; subst h; exact rowB_size h8 hx
      · exact h2 x h
def IText.f (a0_0 : ByteArray) (l0_1 : List (S37)) (l0_2 : List (S37)) (l0_3 : List (S37)) (l0_4 : List (S37)) (l0_5 : List (S37)) (a0_6 : Int) : Option (ByteArray × Int) :=
  (ICheck.f a0_0 l0_1 l0_2 l0_3 l0_4 l0_5 a0_6).bind fun e => some (if e = 0 then (joinB (partsB a0_0 [l0_1, l0_2, l0_3, l0_4, l0_5] a0_6) ⟨#[32]⟩, 0) else (⟨#[]⟩, e))
end Go.Proofs.YtgipdacenppmdaaDoor.G
