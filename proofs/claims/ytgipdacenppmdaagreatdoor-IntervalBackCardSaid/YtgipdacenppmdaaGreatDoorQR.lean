/- What is told is read again: split, cut, numerals. -/
import Derived.Test.YtgipdacenppmdaaGreatDoorIR
import Derived.Test.YtgipdacenppmdaaGreatDoorQC
set_option linter.unusedVariables false
set_option linter.unusedSimpArgs false
namespace Go.Proofs.YtgipdacenppmdaaGreatDoor.G
open Go.RowKit Go.Lib Go.Proofs.YtgipdacenppmdaaGreatDoorW.PrintWords Go.Proofs.YtgipdacenppmdaaGreatDoor.P
/-- A text of its bytes. -/
def B (l : List UInt8) : ByteArray := ⟨l.toArray⟩
theorem B_of (s : ByteArray) : B s.data.toList = s := by cases s; simp [B]
theorem B_size (l : List UInt8) : (B l).size = l.length := by simp [B, ByteArray.size]
theorem B_extract (l : List UInt8) (a b : Nat) : (B l).extract a b = B ((l.drop a).take (b - a)) := by
  apply ByteArray.ext
  rw [ByteArray.data_extract]
  apply Array.toList_inj.1
  rw [Array.toList_extract]
  simp [B, List.extract]
theorem index_hit (c : UInt8) (sep t : List UInt8) : ∀ a : List UInt8, c ∉ a → Lib.index (a ++ (c :: sep) ++ t) (c :: sep) = a.length
  | [], _ => by
    rw [List.nil_append, List.cons_append, Lib.index, if_pos (by simp [List.isPrefixOf])]
    rfl
  | b :: a, h => by
    have hb : ¬ c = b := fun e => h (by simp [e])
    have ih := index_hit c sep t a (fun e => h (by simp [e]))
    rw [List.cons_append, List.cons_append, Lib.index, if_neg (by simp [List.isPrefixOf, hb]), ih, if_neg (by simp), List.length_cons]
    omega
theorem index_miss (c : UInt8) (sep : List UInt8) : ∀ a : List UInt8, c ∉ a → Lib.index a (c :: sep) = -1
  | [], _ => rfl
  | b :: a, h => by
    have hb : ¬ c = b := fun e => h (by simp [e])
    have ih := index_miss c sep a (fun e => h (by simp [e]))
    rw [Lib.index, if_neg (by simp [List.isPrefixOf, hb]), ih]
    rfl
theorem cut_hit (c : UInt8) (sep a t : List UInt8) (h : c ∉ a) : Lib.cut (a ++ (c :: sep) ++ t) (c :: sep) = (a, t, true) := by
  unfold Lib.cut
  rw [index_hit c sep t a h, if_pos (by omega)]
  simp
theorem cut_miss (c : UInt8) (sep a : List UInt8) (h : c ∉ a) : Lib.cut a (c :: sep) = (a, [], false) := by
  unfold Lib.cut
  rw [index_miss c sep a h, if_neg (by omega)]
theorem count_words (c : UInt8) : ∀ (ws : List (List UInt8)) (w : List UInt8), c ∉ w → (∀ x ∈ ws, c ∉ x) → (w ++ Lib.joinTail [c] ws).count c = ws.length
  | [], w, hw, _ => by simp [Lib.joinTail, List.count_eq_zero_of_not_mem hw]
  | x :: ws, w, hw, h => by
    have ih := count_words c ws x (h x (by simp)) (fun y hy => h y (by simp [hy]))
    rw [show Lib.joinTail [c] (x :: ws) = [c] ++ (x ++ Lib.joinTail [c] ws) by simp [Lib.joinTail], List.count_append, List.count_append, ih, List.count_eq_zero_of_not_mem hw]
    simp
    omega
theorem splitB_words (c : UInt8) : ∀ (ws : List (List UInt8)) (w : List UInt8), c ∉ w → (∀ x ∈ ws, c ∉ x) → Lib.splitB ⟨#[c]⟩ 0 ws.length (B (w ++ Lib.joinTail [c] ws)) = B w :: ws.map B
  | [], w, hw, _ => by simp [Lib.joinTail, Lib.splitB]
  | x :: ws, w, hw, h => by
    have ih := splitB_words c ws x (h x (by simp)) (fun y hy => h y (by simp [hy]))
    have e : Lib.joinTail [c] (x :: ws) = [c] ++ (x ++ Lib.joinTail [c] ws) := by simp [Lib.joinTail]
    have hi : Lib.indexB (B (w ++ Lib.joinTail [c] (x :: ws))) ⟨#[c]⟩ = w.length := by
      have := index_hit c [] (x ++ Lib.joinTail [c] ws) w hw
      rw [e]
      show Lib.index (w ++ ([c] ++ (x ++ Lib.joinTail [c] ws))) [c] = _
      rw [← this, List.append_assoc]
    rw [List.length_cons, Lib.splitB, hi, if_neg (by simp), B_extract, B_extract]
    have e1 : ((w ++ Lib.joinTail [c] (x :: ws)).drop 0).take ((w.length : Int).toNat + 0 - 0) = w := by simp
    have e2 : ((w ++ Lib.joinTail [c] (x :: ws)).drop ((w.length : Int).toNat + (⟨#[c]⟩ : ByteArray).size)).take ((B (w ++ Lib.joinTail [c] (x :: ws))).size - ((w.length : Int).toNat + (⟨#[c]⟩ : ByteArray).size)) = x ++ Lib.joinTail [c] ws := by
      rw [B_size, show (⟨#[c]⟩ : ByteArray).size = 1 from rfl, e, Int.toNat_natCast, List.drop_append]
      simp
      rw [List.drop_of_length_le (by omega), List.nil_append, List.take_of_length_le (by simp; omega)]
    rw [e1, e2, ih, List.map_cons]
theorem splitC_words (c : UInt8) (w : List UInt8) (ws : List (List UInt8)) (hw : c ∉ w) (h : ∀ x ∈ ws, c ∉ x) : splitC (B (Lib.join (w :: ws) [c])) ⟨#[c]⟩ = B w :: ws.map B := by
  unfold splitC
  rw [Lib.join_cons]
  have hc : Lib.countB (B (w ++ Lib.joinTail [c] ws)) ⟨#[c]⟩ = ws.length := by
    show Lib.count (w ++ Lib.joinTail [c] ws) [c] = _
    rw [Lib.count_one, count_words c ws w hw h]
  rw [hc, splitB_words c ws w hw h]
theorem splitC_join (c : UInt8) (l : List ByteArray) (hl : l ≠ []) (h : ∀ x ∈ l, c ∉ x.data.toList) : splitC (joinB l ⟨#[c]⟩) ⟨#[c]⟩ = l := by
  cases l with
  | nil => exact absurd rfl hl
  | cons x t =>
    have := splitC_words c x.data.toList (t.map (·.data.toList)) (h x (by simp)) (fun y hy => by
      obtain ⟨z, hz, rfl⟩ := List.mem_map.1 hy
      exact h z (by simp [hz]))
    unfold joinB
    rw [List.map_cons]
    refine this.trans ?_
    rw [B_of, List.map_map]
    congr 1
    have e : ∀ t : List ByteArray, List.map (B ∘ fun x => x.data.toList) t = t := by
      intro t
      induction t with
      | nil => rfl
      | cons y t ih => rw [List.map_cons, ih]; exact congrArg (· :: t) (B_of y)
    exact e t
theorem cut2_hit (c : UInt8) (a t : ByteArray) (h : c ∉ a.data.toList) : cut2 (a ++ (⟨#[c]⟩ : ByteArray) ++ t) ⟨#[c]⟩ = (a, t, true) := by
  have := cut_hit c [] a.data.toList t.data.toList h
  unfold cut2
  rw [show (a ++ (⟨#[c]⟩ : ByteArray) ++ t).data.toList = a.data.toList ++ [c] ++ t.data.toList by rw [ByteArray.data_append, ByteArray.data_append]; simp]
  rw [show (⟨#[c]⟩ : ByteArray).data.toList = [c] from rfl, this]
theorem cut2_dots (a t : ByteArray) (h : (46 : UInt8) ∉ a.data.toList) : cut2 (a ++ ((⟨#[46, 46]⟩ : ByteArray) ++ t)) ⟨#[46, 46]⟩ = (a, t, true) := by
  have := cut_hit 46 [46] a.data.toList t.data.toList h
  unfold cut2
  rw [show (a ++ ((⟨#[46, 46]⟩ : ByteArray) ++ t)).data.toList = a.data.toList ++ [46, 46] ++ t.data.toList by rw [ByteArray.data_append, ByteArray.data_append]; simp]
  rw [show (⟨#[46, 46]⟩ : ByteArray).data.toList = [46, 46] from rfl, this]
theorem cut2_none (a : ByteArray) (h : (46 : UInt8) ∉ a.data.toList) : cut2 a ⟨#[46, 46]⟩ = (a, ⟨#[]⟩, false) := by
  have := cut_miss 46 [46] a.data.toList h
  unfold cut2
  rw [show (⟨#[46, 46]⟩ : ByteArray).data.toList = [46, 46] from rfl, this]
theorem dig_nat (d : Nat) (h : d < 10) : (UInt8.ofNat (48 + d)).toNat = 48 + d := by
  rw [UInt8.toNat_ofNat']
  omega
theorem parse_dec : ∀ (u : Nat) (t : List UInt8), u < 1000000000000000000 → Lib.parseUint10 0 (Lib.decDigits u ++ t) = Lib.parseUint10 u t := by
  intro u
  induction u using Nat.strongRecOn with
  | ind u ih =>
    intro t hu
    rw [Lib.decDigits]
    by_cases h : u < 10
    · rw [dif_pos h, List.singleton_append, Lib.parseUint10, dig_nat u h, if_pos (by omega), if_neg (by omega), if_neg (by omega)]
      congr 1
      omega
    · rw [dif_neg h, List.append_assoc, ih (u / 10) (by omega) _ (by omega), List.singleton_append, Lib.parseUint10, dig_nat (u % 10) (by omega), if_pos (by omega), if_neg (by omega), if_neg (by omega)]
      congr 1
      omega
theorem dec_ne (u : Nat) : Lib.decDigits u ≠ [] := by
  intro h
  have := congrArg List.length h
  rw [Lib.decDigits] at this
  split at this <;> simp at this
theorem dec_dig : ∀ (u : Nat), ∀ c ∈ Lib.decDigits u, 48 ≤ c.toNat ∧ c.toNat ≤ 57 := by
  intro u
  induction u using Nat.strongRecOn with
  | ind u ih =>
    intro c hc
    rw [Lib.decDigits] at hc
    by_cases h : u < 10
    · rw [dif_pos h, List.mem_singleton] at hc
      rw [hc, dig_nat u h]; omega
    · rw [dif_neg h, List.mem_append, List.mem_singleton] at hc
      rcases hc with hc | hc
      · exact ih (u / 10) (by omega) c hc
      · rw [hc, dig_nat (u % 10) (by omega)]; omega
theorem mag_dec (u : Nat) (hu : u < 1000000000000000000) : Lib.parseMag (Lib.decDigits u) = .ok u := by
  unfold Lib.parseMag
  have := parse_dec u [] hu
  rw [List.append_nil] at this
  rw [if_neg (dec_ne u), this]
  rfl
theorem atoi_itoa (n : Int) (h1 : -1000000 ≤ n) (h2 : n ≤ 1000000) : Lib.atoiAll (Lib.itoa n) = .ok n := by
  unfold Lib.itoa
  by_cases hn : n < 0
  · rw [if_pos hn]
    unfold Lib.atoiAll
    have e : (45 : UInt8).toNat = 45 := rfl
    simp only [e, or_true, if_true, not_true, false_and, if_false]
    rw [mag_dec n.natAbs (by omega)]
    simp only
    rw [if_neg (by omega)]
    congr 1
    omega
  · rw [if_neg hn]
    have hm := mag_dec n.toNat (by omega)
    cases hd : Lib.decDigits n.toNat with
    | nil => exact absurd hd (dec_ne _)
    | cons c r =>
      have hc := dec_dig n.toNat c (by rw [hd]; simp)
      rw [hd] at hm
      unfold Lib.atoiAll
      simp only
      rw [if_neg (show ¬ (c.toNat = 43 ∨ c.toNat = 45) by omega), hm]
      simp only
      rw [if_neg (by omega), if_neg (by omega), if_neg (by omega)]
      congr 1
      omega
theorem itoa_chars (n : Int) : ∀ c ∈ Lib.itoa n, c.toNat = 45 ∨ (48 ≤ c.toNat ∧ c.toNat ≤ 57) := by
  intro c hc
  unfold Lib.itoa at hc
  split at hc
  · rcases List.mem_cons.1 hc with h | h
    · left; rw [h]; rfl
    · exact .inr (dec_dig _ c h)
  · exact .inr (dec_dig _ c hc)
theorem atoiR_itoa (n : Int) (h1 : -1000000 ≤ n) (h2 : n ≤ 1000000) : atoiR ⟨(Lib.itoa n).toArray⟩ = (n, true) := by
  unfold atoiR
  rw [show (⟨(Lib.itoa n).toArray⟩ : ByteArray).data.toList = Lib.itoa n from rfl, atoi_itoa n h1 h2]
def NiceC (c : UInt8) : Prop := c ≠ 32 ∧ c ≠ 44 ∧ c ≠ 46 ∧ c ≠ 61
instance (c : UInt8) : Decidable (NiceC c) := by unfold NiceC; infer_instance
def Nice (s : ByteArray) : Prop := ∀ c ∈ s.data.toList, NiceC c
theorem nice_nat {c : UInt8} (h : c.toNat ≠ 32 ∧ c.toNat ≠ 44 ∧ c.toNat ≠ 46 ∧ c.toNat ≠ 61) : NiceC c := by
  refine ⟨?_, ?_, ?_, ?_⟩ <;> intro e <;> subst e <;> simp at h
def chk4 (n : Nat) : Bool := (numB 4 (nmB 4 (n : Int)) == (n : Int)) && (nmB 4 (n : Int)).data.toList.all fun c => decide (NiceC c)
set_option maxRecDepth 100000 in
theorem all4 : (List.range 1441).all chk4 = true := by kernel_rfl
def chk01 (k : Int) (n : Int) : Bool := (numB k (nmB k n) == n) && (nmB k n).data.toList.all fun c => decide (NiceC c)
theorem all0 : ([0, 1, 2, 3, 4, 5, 6] : List Int).all (chk01 0) = true := by kernel_rfl
theorem all1 : ([1, 2, 3, 4, 5, 6, 7, 8, 9, 10, 11, 12] : List Int).all (chk01 1) = true := by kernel_rfl
theorem chk_both {s : ByteArray} {k n : Int} (h : ((numB k s == n) && s.data.toList.all fun c => decide (NiceC c)) = true) : numB k s = n ∧ Nice s := by
  rw [Bool.and_eq_true] at h
  exact ⟨beq_iff_eq.1 h.1, fun c hc => of_decide_eq_true (List.all_eq_true.1 h.2 c hc)⟩
theorem num_name {k n : Int} (h : mayB k n = true) : numB k (nmB k n) = n ∧ Nice (nmB k n) := by
  have hr := mayB_rng h
  unfold mayB at h
  by_cases h0 : k = 0
  · subst h0
    rw [if_pos rfl] at h
    have hn := of_decide_eq_true h
    exact chk_both (List.all_eq_true.1 all0 n (by simp; omega))
  rw [if_neg h0] at h
  by_cases h1 : k = 1
  · subst h1
    rw [if_pos rfl] at h
    have hn := of_decide_eq_true h
    exact chk_both (List.all_eq_true.1 all1 n (by simp; omega))
  rw [if_neg h1] at h
  by_cases h4 : k = 4
  · subst h4
    rw [if_neg (by omega), if_neg (by omega)] at h
    have hn := of_decide_eq_true h
    have := List.all_eq_true.1 all4 n.toNat (by simp; omega)
    unfold chk4 at this
    rw [show ((n.toNat : Nat) : Int) = n by omega] at this
    exact chk_both this
  · have e : nmB k n = ⟨(Lib.itoa n).toArray⟩ := by
      unfold nmB
      rw [if_neg h0, if_neg h1, if_neg h4]
    rw [e]
    constructor
    · unfold numB
      rw [if_neg h0, if_neg h1, if_neg h4, atoiR_itoa n (by omega) (by omega), if_pos rfl]
    · intro c hc
      exact nice_nat (by have := itoa_chars n c hc; omega)
end Go.Proofs.YtgipdacenppmdaaGreatDoor.G
