/- The document's until and number, told plainly. -/
import Derived.Test.YtjgommaikaeobaaGreatDoorRF
import Derived.Test.YtjgommaikaeobaaGreatDoorKU
import Derived.Test.YtjgommaikaeobaaGreatDoorKN
import Derived.Test.YtjgommaikaeobaaGreatDoorTO
set_option linter.unusedVariables false
set_option linter.unusedSimpArgs false
namespace Go.Proofs.YtjgommaikaeobaaGreatDoor.G
open Go.RowKit Go.Shelf Go.Lib Go.Proofs.YtjgommaikaeobaaGreatDoorW.PrintWords Go.Proofs.YtjgommaikaeobaaGreatDoor.P Go.Proofs.YtjgommaikaeobaaGreatDoor.RD
theorem wuntil_l0 (bs : List Int) (c : Int) (hl : bs.length ≤ 140737488351232) (d : Nat) : ∀ (k j : Nat), j + d = min 11 bs.length → 2 * d + 2 < k → (∀ i (h : i < bs.length), i < j → bs[i] ≠ c) → watchfireref01_until.l0 k bs c 10 (j : Int) = some (if idxI (bs.take (10 + 1)) c = -1 then ((⟨#[]⟩ : ByteArray), if 10 < bs.length then 4 else 3) else (strOfNums (bs.take (idxI (bs.take (10 + 1)) c).toNat), 0)) := by
  induction d with
  | zero =>
    intro k j h hk hp
    obtain ⟨k, rfl⟩ : ∃ m, k = m + 2 := ⟨k - 2, by omega⟩
    have hx : idxI (bs.take (10 + 1)) c = -1 := by
      rcases idxI_cases (bs.take (10 + 1)) c with ⟨h1, _⟩ | ⟨i, hi, h1, h2, _⟩
      · exact h1
      · rw [List.length_take] at hi
        rw [List.getElem_take] at h2
        exact absurd h2 (hp i (by omega) (by omega))
    rw [if_pos hx]
    simp only [watchfireref01_until.l0]
    have e : (if (j : Int) < (bs.length : Int) then watchfireref01_until.j1 (k + 1) bs c 10 (j : Int) (decide ((j : Int) ≤ 10)) else watchfireref01_until.j1 (k + 1) bs c 10 (j : Int) false) = watchfireref01_until.j1 (k + 1) bs c 10 (j : Int) false := by
      split
      · rw [decide_eq_false (by omega)]
      · rfl
    rw [e]
    simp only [watchfireref01_until.j1, Bool.false_eq_true, if_false]
    by_cases hb : 10 < bs.length
    · rw [if_pos (by omega), if_pos hb]
    · rw [if_neg (by omega), if_neg hb]
  | succ d ih =>
    intro k j h hk hp
    obtain ⟨k, rfl⟩ : ∃ m, k = m + 2 := ⟨k - 2, by omega⟩
    have hj : j < bs.length := by omega
    have hg : rd bs (j : Int) = bs[j] := by simp [rd, hj]
    simp only [watchfireref01_until.l0]
    rw [if_pos (by omega), decide_eq_true (by omega)]
    simp only [watchfireref01_until.j1, if_true]
    rw [if_pos (by omega), if_pos (by omega), hg]
    by_cases e : bs[j] = c
    · have hx : idxI (bs.take (10 + 1)) c = (j : Int) := by
        rcases idxI_cases (bs.take (10 + 1)) c with ⟨_, h2⟩ | ⟨i, hi, h1, h2, h3⟩
        · refine absurd e (h2 _ ?_)
          have hm : (bs.take (10 + 1))[j]'(by rw [List.length_take]; omega) = bs[j] := List.getElem_take
          rw [← hm]
          exact List.getElem_mem _
        · rw [List.length_take] at hi
          rw [List.getElem_take] at h2
          rcases Nat.lt_trichotomy i j with h' | h' | h'
          · exact absurd h2 (hp i (by omega) h')
          · rw [h1, h']
          · have := h3 j h'
            rw [List.getElem_take] at this
            exact absurd e this
      rw [if_pos e, if_pos (by omega), hx, if_neg (by omega), Int.toNat_natCast]
    · rw [if_neg e]
      have ew : wrap64 ((j : Int) + 1) = ((j + 1 : Nat) : Int) := by unfold wrap64; omega
      rw [ew]
      refine ih k (j + 1) (by omega) (by omega) (fun i hi hij => ?_)
      rcases Nat.lt_or_ge i j with h' | h'
      · exact hp i hi h'
      · obtain rfl : i = j := by omega
        exact e
theorem wuntil_f (bs : List Int) (c : Int) (hl : bs.length ≤ 140737488351232) : watchfireref01_until.f 40 bs c 10 = some (if idxI (bs.take (10 + 1)) c = -1 then ((⟨#[]⟩ : ByteArray), if 10 < bs.length then 4 else 3) else (strOfNums (bs.take (idxI (bs.take (10 + 1)) c).toNat), 0)) := by
  have := wuntil_l0 bs c hl (min 11 bs.length) 40 0 (by omega) (by omega) (fun i _ h => absurd h (by omega))
  simpa [watchfireref01_until.f] using this
/-! ### number -/
def digs : Nat → List UInt8 → Option Nat
  | acc, [] => some acc
  | acc, c :: r => if 48 ≤ c.toNat ∧ c.toNat ≤ 57 then digs (acc * 10 + (c.toNat - 48)) r else none
theorem digs_parse : ∀ (l : List UInt8) (acc a : Nat), acc < 10 ^ a → a + l.length ≤ 10 → Lib.parseUintM (2 ^ 64 - 1) acc l = (match digs acc l with | some n => .ok n | none => .syntax) := by
  intro l
  induction l with
  | nil => intro acc a _ _; rfl
  | cons c r ih =>
    intro acc a ha hl
    rw [List.length_cons] at hl
    have hp : 10 ^ a ≤ 10 ^ 9 := Nat.pow_le_pow_right (by omega) (by omega)
    simp only [Lib.parseUintM, digs]
    by_cases hc : 48 ≤ c.toNat ∧ c.toNat ≤ 57
    · rw [if_pos hc, if_pos hc, if_neg (by omega), if_neg (by omega)]
      exact ih _ (a + 1) (by rw [Nat.pow_succ]; omega) (by omega)
    · rw [if_neg hc, if_neg hc]
theorem digs_lt : ∀ (l : List UInt8) (acc a n : Nat), acc < 10 ^ a → digs acc l = some n → n < 10 ^ (a + l.length) := by
  intro l
  induction l with
  | nil => intro acc a n ha h; simp only [digs] at h; cases h; exact ha
  | cons c r ih =>
    intro acc a n ha h
    simp only [digs] at h
    by_cases hc : 48 ≤ c.toNat ∧ c.toNat ≤ 57
    · rw [if_pos hc] at h
      have := ih _ (a + 1) n (by rw [Nat.pow_succ]; omega) h
      rw [List.length_cons, show a + (r.length + 1) = a + 1 + r.length from by omega]
      exact this
    · rw [if_neg hc] at h; cases h
theorem told_nat (k n : Nat) (hk : 20 < k) (h : n < 9223372036854775808) : watchfireref01_Told.f k (n : Int) = some ⟨(Lib.itoa n).toArray⟩ := by
  unfold watchfireref01_Told.f
  rw [if_neg (by omega), wrapU (by omega) (by omega)]
  have h1 : watchfireref01_told.f k (n : Int) = some ⟨(decDigits n).toArray⟩ := by
    unfold watchfireref01_told.f
    rw [told_l0 20 k n _ (Nat.lt_trans h (by decide)) (by omega) (by omega) (by decide)]
    congr 1
    apply ByteArray.ext
    simp
  rw [h1, itoa_nat]
  rfl
theorem bt_get (s : ByteArray) (j : Nat) (h : j < s.size) : bt s (j : Int) = ((s.data.toList[j]'(by simpa using h)).toNat : Int) := by
  unfold bt
  rw [dif_pos (by simpa using h)]
  rfl
theorem number_l0 (x0 s : ByteArray) (hs : s.size ≤ 10) (d : Nat) : ∀ (k j acc : Nat), j + d = s.size → 2 * d + 40 < k → acc < 10 ^ j → watchfireref01_number.l0 k x0 false s (acc : Int) (j : Int) = some (match digs acc (s.data.toList.drop j) with | some n => ((n : Int), (⟨(Lib.itoa (n : Nat)).toArray⟩ : ByteArray).toList == x0.toList) | none => (0, false)) := by
  have hsz : s.data.toList.length = s.size := by simp
  induction d with
  | zero =>
    intro k j acc h hk ha
    obtain ⟨k, rfl⟩ : ∃ m, k = m + 2 := ⟨k - 2, by omega⟩
    have hp : 10 ^ j ≤ 10 ^ 10 := Nat.pow_le_pow_right (by omega) (by omega)
    rw [List.drop_of_length_le (by omega)]
    simp only [watchfireref01_number.l0, digs]
    rw [if_neg (by omega)]
    have ew : wrap64 (acc : Int) = (acc : Int) := by unfold wrap64; omega
    simp only [watchfireref01_number.j3, Bool.false_eq_true, if_false, ew]
    rw [told_nat k acc (by omega) (by omega)]
    rfl
  | succ d ih =>
    intro k j acc h hk ha
    obtain ⟨k, rfl⟩ : ∃ m, k = m + 2 := ⟨k - 2, by omega⟩
    have hj : j < s.data.toList.length := by omega
    have hp : 10 ^ j ≤ 10 ^ 9 := Nat.pow_le_pow_right (by omega) (by omega)
    obtain ⟨c, hc⟩ : ∃ c, c = s.data.toList[j] := ⟨_, rfl⟩
    have hb := bt_get s j (by omega)
    rw [← hc] at hb
    rw [List.drop_eq_getElem_cons hj, ← hc]
    simp only [watchfireref01_number.l0]
    rw [if_pos (by omega), decide_eq_true (by omega)]
    simp only [watchfireref01_number.j3, if_true, digs, hb]
    rw [if_pos (by omega), if_pos (by omega)]
    by_cases h1 : c.toNat < 48
    · rw [if_pos (by omega), if_neg (by omega)]
    · rw [if_neg (by omega)]
      by_cases h2 : 57 < c.toNat
      · rw [if_pos (by omega), if_neg (by omega)]
      · rw [if_neg (by omega), if_pos (by omega)]
        have e1 : IntKind.u64.wrap (10 * (acc : Int)) = ((10 * acc : Nat) : Int) := by rw [wrapU (by omega) (by omega)]; omega
        have e2 : (((c.toNat : Int) - 48) % 256) = ((c.toNat - 48 : Nat) : Int) := by omega
        have e3 : IntKind.u64.wrap (((10 * acc : Nat) : Int) + ((c.toNat - 48 : Nat) : Int)) = ((acc * 10 + (c.toNat - 48) : Nat) : Int) := by rw [wrapU (by omega) (by omega)]; omega
        have ew : wrap64 ((j : Int) + 1) = ((j + 1 : Nat) : Int) := by unfold wrap64; omega
        rw [e1, e2, e3, ew]
        exact ih k (j + 1) _ (by omega) (by omega) (by rw [Nat.pow_succ]; omega)
theorem number_num (s : ByteArray) (h0 : 0 < s.size) (h1 : s.size ≤ 10) (hd : 48 ≤ bt s 0) (hd2 : bt s 0 ≤ 57) : ∃ (n : Nat) (ok : Bool), watchfireref01_number.f 80 s = some ((n : Int), ok) ∧ n ≤ 10000000000 ∧ numOf s = (if ok = true then some (n : Int) else none) := by
  have hn : watchfireref01_number.f 80 s = some (match digs 0 s.data.toList with | some n => ((n : Int), (⟨(Lib.itoa (n : Nat)).toArray⟩ : ByteArray).toList == s.toList) | none => (0, false)) := by
    unfold watchfireref01_number.f
    rw [if_pos (by omega), if_pos (by omega), show (bt s 0 == 45) = false from beq_eq_false_iff_ne.2 (by omega)]
    simp only [watchfireref01_number.j0, watchfireref01_number.j1, Bool.false_eq_true, if_false]
    have := number_l0 s s h1 s.size 78 0 0 (by omega) (by omega) (by omega)
    simpa using this
  have hcons : ∃ c r, s.data.toList = c :: r := by
    cases h : s.data.toList with
    | nil => have : s.data.toList.length = s.size := by simp
             rw [h] at this; simp at this; omega
    | cons c r => exact ⟨c, r, rfl⟩
  obtain ⟨c, r, hcr⟩ := hcons
  have hc : bt s 0 = (c.toNat : Int) := by
    have := bt_get s 0 h0
    rw [Int.natCast_zero] at this
    rw [this]
    simp only [hcr, List.getElem_cons_zero]
  have hlen : (c :: r).length ≤ 10 := by rw [← hcr]; simpa using h1
  have hpar : Lib.parseIntB 64 (c :: r) = (match digs 0 (c :: r) with | some n => .ok (n : Int) | none => .syntax) := by
    unfold Lib.parseIntB
    simp only []
    rw [if_neg (by omega)]
    unfold Lib.parseUintB
    rw [if_neg (by simp), digs_parse (c :: r) 0 0 (by decide) (by omega)]
    cases hg : digs 0 (c :: r) with
    | none => rfl
    | some n =>
      have hl := digs_lt (c :: r) 0 0 n (by decide) hg
      have hp : 10 ^ (0 + (c :: r).length) ≤ 10 ^ 10 := Nat.pow_le_pow_right (by omega) (by omega)
      simp only []
      rw [if_neg (by omega), if_neg (by omega), if_neg (by omega)]
  rw [hcr] at hn
  cases hg : digs 0 (c :: r) with
  | none =>
    rw [hg] at hn
    refine ⟨0, false, hn, by omega, ?_⟩
    unfold numOf
    rw [hcr, hpar, hg]
    rfl
  | some n =>
    rw [hg] at hn
    have hl := digs_lt (c :: r) 0 0 n (by decide) hg
    have hp : 10 ^ (0 + (c :: r).length) ≤ 10 ^ 10 := Nat.pow_le_pow_right (by omega) (by omega)
    refine ⟨n, _, hn, by omega, ?_⟩
    unfold numOf
    rw [hcr, hpar, hg]
    simp only []
    by_cases e : (⟨(Lib.itoa (n : Int)).toArray⟩ : ByteArray) = s
    · rw [if_pos e, if_pos (by rw [e]; simp)]
    · rw [if_neg e, if_neg]
      intro h
      exact e (ba_inj (by simpa using h))
end Go.Proofs.YtjgommaikaeobaaGreatDoor.G
