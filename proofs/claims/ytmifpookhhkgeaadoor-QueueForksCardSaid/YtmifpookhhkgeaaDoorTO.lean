/- The document's numerals are the library's. -/
import Derived.Test.YtmifpookhhkgeaaDoorGB
import Derived.KernelRfl
set_option linter.unusedVariables false
set_option linter.unusedSimpArgs false
namespace Go.Proofs.YtmifpookhhkgeaaDoor.G
open Go.RowKit Go.Lib Go.Proofs.YtmifpookhhkgeaaDoorW.PrintWords Go.Proofs.YtmifpookhhkgeaaDoor.P
theorem wrapU {n : Int} (h0 : 0 ≤ n) (h1 : n < 18446744073709551616) : IntKind.u64.wrap n = n := by
  have h2 : n % 18446744073709551616 = n := Int.emod_eq_of_lt h0 h1
  simp only [IntKind.wrap, IntKind.signed, IntKind.bits, Bool.false_and, Bool.false_eq_true, if_false, Bool.false_eq_true, false_and]
  exact h2
theorem digit_piece (r : Nat) (h : r < 10) : (⟨#[48, 49, 50, 51, 52, 53, 54, 55, 56, 57]⟩ : ByteArray).extract r (r + 1) = ⟨#[UInt8.ofNat (48 + r)]⟩ := by
  have : r = 0 ∨ r = 1 ∨ r = 2 ∨ r = 3 ∨ r = 4 ∨ r = 5 ∨ r = 6 ∨ r = 7 ∨ r = 8 ∨ r = 9 := by omega
  rcases this with rfl | rfl | rfl | rfl | rfl | rfl | rfl | rfl | rfl | rfl <;> rfl
theorem ba_append (a b : List UInt8) : (⟨a.toArray⟩ : ByteArray) ++ ⟨b.toArray⟩ = ⟨(a ++ b).toArray⟩ := by
  apply ByteArray.ext
  simp
theorem told_l0 : ∀ (d k u : Nat) (s : ByteArray), u < 10 ^ (d + 1) → d < k → u < 18446744073709551616 → s.size + d < 1000 → watchfireref01_told.l0 k (u : Int) s = some ((⟨(decDigits u).toArray⟩ : ByteArray) ++ s) := by
  intro d
  induction d with
  | zero =>
    intro k u s hu hk h64 hs
    obtain ⟨k, rfl⟩ : ∃ m, k = m + 1 := ⟨k - 1, by omega⟩
    have e1 : Int.tmod (u : Int) 10 = ((u % 10 : Nat) : Int) := by rw [Int.tmod_eq_emod_of_nonneg (by omega)]; omega
    have e2 : Int.tdiv (u : Int) 10 = ((u / 10 : Nat) : Int) := by rw [Int.tdiv_eq_ediv_of_nonneg (by omega)]; omega
    have e3 : IntKind.u64.wrap (((u % 10 : Nat) : Int) + 1) = ((u % 10 + 1 : Nat) : Int) := by rw [wrapU (by omega) (by omega)]; omega
    have e4 : IntKind.u64.wrap ((u / 10 : Nat) : Int) = ((u / 10 : Nat) : Int) := wrapU (by omega) (by omega)
    simp only [watchfireref01_told.l0, e1, e2, e3, e4, Int.toNat_natCast, digit_piece (u % 10) (by omega)]
    rw [if_pos (by omega), if_pos (by omega), if_pos (by omega), if_pos (by show 1 + s.size ≤ _; omega), if_pos (by omega)]
    have : u < 10 := by simpa using hu
    rw [decDigits_one this, Nat.mod_eq_of_lt this]
  | succ d ih =>
    intro k u s hu hk h64 hs
    obtain ⟨k, rfl⟩ : ∃ m, k = m + 1 := ⟨k - 1, by omega⟩
    have e1 : Int.tmod (u : Int) 10 = ((u % 10 : Nat) : Int) := by rw [Int.tmod_eq_emod_of_nonneg (by omega)]; omega
    have e2 : Int.tdiv (u : Int) 10 = ((u / 10 : Nat) : Int) := by rw [Int.tdiv_eq_ediv_of_nonneg (by omega)]; omega
    have e3 : IntKind.u64.wrap (((u % 10 : Nat) : Int) + 1) = ((u % 10 + 1 : Nat) : Int) := by rw [wrapU (by omega) (by omega)]; omega
    have e4 : IntKind.u64.wrap ((u / 10 : Nat) : Int) = ((u / 10 : Nat) : Int) := wrapU (by omega) (by omega)
    simp only [watchfireref01_told.l0, e1, e2, e3, e4, Int.toNat_natCast, digit_piece (u % 10) (by omega)]
    rw [if_pos (by omega), if_pos (by omega), if_pos (by omega), if_pos (by show 1 + s.size ≤ _; omega)]
    by_cases h : u / 10 = 0
    · rw [if_pos (by omega)]
      have : u < 10 := by omega
      rw [decDigits_one this, Nat.mod_eq_of_lt this]
    · rw [if_neg (by omega), ih k (u / 10) _ (by rw [Nat.pow_succ] at hu; omega) (by omega) (by omega) (by rw [ByteArray.size_append]; show 1 + s.size + d < 1000; omega)]
      have hd : decDigits u = decDigits (u / 10) ++ [UInt8.ofNat (48 + u % 10)] := by rw [decDigits, dif_neg (by omega)]
      rw [hd, ← ba_append, ByteArray.append_assoc]
theorem told_u (u : Nat) (h : u < 18446744073709551616) : watchfireref01_told.f 30 (u : Int) = some ⟨(decDigits u).toArray⟩ := by
  unfold watchfireref01_told.f
  rw [told_l0 20 30 u _ (Nat.lt_trans h (by decide)) (by omega) h (by decide)]
  congr 1
  apply ByteArray.ext
  simp
theorem told_itoa (n : Int) (h0 : -9223372036854775808 ≤ n) (h1 : n ≤ 9223372036854775807) : watchfireref01_Told.f 30 n = some ⟨(Lib.itoa n).toArray⟩ := by
  unfold watchfireref01_Told.f Lib.itoa
  by_cases h : n < 0
  · rw [if_pos h, if_pos h]
    have e : IntKind.u64.wrap ((IntKind.u64.wrap (wrap64 (-(wrap64 (n + 1))))) + 1) = ((n.natAbs : Nat) : Int) := by
      have e1 : wrap64 (n + 1) = n + 1 := by unfold wrap64; omega
      have e2 : wrap64 (-(n + 1)) = -(n + 1) := by unfold wrap64; omega
      rw [e1, e2, wrapU (n := -(n + 1)) (by omega) (by omega), wrapU (by omega) (by omega)]
      omega
    rw [e, told_u _ (by omega), Option.bind_some]
    have hs : (⟨(decDigits n.natAbs).toArray⟩ : ByteArray).size = nDigits n.natAbs := by
      rw [← decDigits_length]; rfl
    have := nDigits_le 18 n.natAbs (by omega)
    rw [if_pos (by rw [hs]; omega)]
    congr 1
  · rw [if_neg h, if_neg h, wrapU (by omega) (by omega)]
    have e : n = ((n.toNat : Nat) : Int) := by omega
    have e2 := told_u n.toNat (by omega)
    rw [← e] at e2
    simp only [e2, Option.bind_some]
theorem bytes_mk (l : List UInt8) : bytesOf (⟨l.toArray⟩ : ByteArray) = l.map fun b => (b.toNat : Int) := by simp [bytesOf]
theorem bytes_append (a b : ByteArray) : bytesOf (a ++ b) = bytesOf a ++ bytesOf b := by simp [bytesOf]
theorem size_mk (l : List UInt8) : (⟨l.toArray⟩ : ByteArray).size = l.length := by rfl
theorem wtext_eq (s : ByteArray) (hs : s.size ≤ 140737488351232) : WTextG.f s = some (textB s) := by
  unfold WTextG.f
  rw [if_pos hs, told_itoa _ (by omega) (by omega), Option.bind_some, if_pos (by rw [size_mk]; have := itoa_len s.size (by omega); omega), bytes_append, bytes_append, bytes_mk]
  rfl
theorem wint_eq (n : Int) (h0 : -9223372036854775808 ≤ n) (h1 : n ≤ 9223372036854775807) : WIntG.f n = some (intB n) := by unfold WIntG.f; rw [told_itoa n h0 h1, Option.bind_some, if_pos (by rw [size_mk]; have := itoa_len_any n h0 h1; omega), bytes_append, bytes_append, bytes_mk]; rfl
end Go.Proofs.YtmifpookhhkgeaaDoor.G
