/- What is laid is read, what is read was laid: plain laws. -/
import Derived.Test.YtjgommaikaeobaaGreatDoorGC
import Derived.Test.YtjgommaikaeobaaGreatDoorGA
import Derived.Test.YtjgommaikaeobaaGreatDoorTO
import Derived.Test.YtjgommaikaeobaaGreatDoorWL
import Derived.Test.YtjgommaikaeobaaGreatDoorKK
import Derived.Test.YtjgommaikaeobaaGreatDoorGW
set_option linter.unusedVariables false
set_option linter.unusedSimpArgs false
namespace Go.Proofs.YtjgommaikaeobaaGreatDoor.G
open Go.RowKit Go.Shelf Go.Lib Go.Proofs.YtjgommaikaeobaaGreatDoorW.PrintWords Go.Proofs.YtjgommaikaeobaaGreatDoor.P Go.Proofs.YtjgommaikaeobaaGreatDoor.L Go.Proofs.YtjgommaikaeobaaGreatDoor.RD
/-! ### numerals -/
def valI (l : List Int) : Int := l.foldl (fun a b => a * 10 + (b - 48)) 0
theorem digits_mem (n : Nat) : ∀ b ∈ decDigits n, 48 ≤ b.toNat ∧ b.toNat ≤ 57 := by
  induction n using Nat.strongRecOn with
  | _ n ih =>
    intro b hb
    rw [decDigits] at hb
    by_cases h : n < 10
    · rw [dif_pos h] at hb
      rw [List.mem_singleton.1 hb, UInt8.toNat_ofNat', Nat.mod_eq_of_lt (by omega)]
      omega
    · rw [dif_neg h] at hb
      rcases List.mem_append.1 hb with hb | hb
      · exact ih (n / 10) (by omega) b hb
      · rw [List.mem_singleton.1 hb, UInt8.toNat_ofNat', Nat.mod_eq_of_lt (by omega)]
        omega
theorem val_digits (n : Nat) : valI ((decDigits n).map fun b => (b.toNat : Int)) = n := by
  induction n using Nat.strongRecOn with
  | _ n ih =>
    rw [decDigits]
    by_cases h : n < 10
    · rw [dif_pos h]
      simp only [List.map_cons, List.map_nil, valI, List.foldl_cons, List.foldl_nil, UInt8.toNat_ofNat']
      rw [Nat.mod_eq_of_lt (by omega)]
      omega
    · rw [dif_neg h]
      have h1 := ih (n / 10) (by omega)
      unfold valI at h1 ⊢
      rw [List.map_append, List.foldl_append, h1]
      simp only [List.map_cons, List.map_nil, List.foldl_cons, List.foldl_nil, UInt8.toNat_ofNat']
      rw [Nat.mod_eq_of_lt (by omega)]
      omega
theorem numB_mem (n : Nat) : ∀ b ∈ numB n, 48 ≤ b ∧ b ≤ 57 := by
  intro b hb
  unfold numB at hb
  rw [itoa_nat] at hb
  obtain ⟨c, hc, rfl⟩ := List.mem_map.1 hb
  have := digits_mem n c hc
  omega
theorem numB_val (n : Nat) : valI (numB n) = n := by
  unfold numB
  rw [itoa_nat]
  exact val_digits n
theorem numB_inj {m n : Nat} (h : numB m = numB n) : m = n := by
  have := numB_val m
  rw [h, numB_val n] at this
  omega
theorem numB_ne_nil (n : Nat) : numB n ≠ [] := by
  unfold numB
  rw [itoa_nat, decDigits]
  split <;> simp
/-! ### texts -/
theorem split_at (c : Int) : ∀ {u v x y : List Int}, (∀ b ∈ u, b ≠ c) → (∀ b ∈ v, b ≠ c) → u ++ c :: x = v ++ c :: y → u = v ∧ x = y := by
  intro u
  induction u with
  | nil =>
    intro v x y _ hv h
    cases v with
    | nil => simp at h; exact ⟨rfl, h⟩
    | cons b v => simp at h; exact absurd h.1.symm (hv b (by simp))
  | cons a u ih =>
    intro v x y hu hv h
    cases v with
    | nil => simp at h; exact absurd h.1 (hu a (by simp))
    | cons b v =>
      simp only [List.cons_append, List.cons.injEq] at h
      obtain ⟨h1, h2⟩ := ih (fun z hz => hu z (by simp [hz])) (fun z hz => hv z (by simp [hz])) h.2
      exact ⟨by rw [h.1, h1], h2⟩
theorem bytesOf_inj {s t : ByteArray} (h : bytesOf s = bytesOf t) : s = t := by
  obtain ⟨⟨a⟩⟩ := s
  obtain ⟨⟨b⟩⟩ := t
  unfold bytesOf at h
  have : a = b := by
    refine List.map_inj_right (f := fun b : UInt8 => (b.toNat : Int)) ?_ |>.1 h
    intro x y hxy
    have hxy' : (x.toNat : Int) = (y.toNat : Int) := hxy
    have h1 : x.toNat = y.toNat := by omega
    exact UInt8.toNat_inj.1 h1
  rw [this]
theorem text_cut {s t : ByteArray} {x y : List Int} (h : textB s ++ x = textB t ++ y) : s = t ∧ x = y := by
  unfold textB at h
  simp only [List.append_assoc, List.singleton_append, List.cons_append, List.nil_append] at h
  obtain ⟨h1, h2⟩ := split_at 58 (fun b hb e => by have := numB_mem _ b hb; omega) (fun b hb e => by have := numB_mem _ b hb; omega) h
  have hs := numB_inj h1
  obtain ⟨h3, h4⟩ := List.append_inj h2 (by rw [bytesOf_length, bytesOf_length, hs])
  exact ⟨bytesOf_inj h3, h4⟩
theorem textB_head (s : ByteArray) : ∃ d r, textB s = d :: r ∧ 48 ≤ d ∧ d ≤ 57 := by
  unfold textB
  cases h : numB s.size with
  | nil => exact absurd h (numB_ne_nil _)
  | cons d r =>
    have := numB_mem s.size d (by rw [h]; simp)
    exact ⟨d, r ++ [58] ++ bytesOf s, by simp, this⟩
/-! ### keys -/
def partsK (l : List S37) : List (List Int) := l.flatMap fun x => [textB x.f0, textB x.f1]
theorem partsK_cons (x : S37) (l : List S37) : (partsK (x :: l)).flatten = textB x.f0 ++ (textB x.f1 ++ (partsK l).flatten) := by simp [partsK]
theorem flat_inj : ∀ (a b : List S37), (partsK a).flatten ++ [101] = (partsK b).flatten ++ [101] → a = b := by
  intro a
  induction a with
  | nil =>
    intro b h
    cases b with
    | nil => rfl
    | cons y b =>
      obtain ⟨d, r, hd, h1, h2⟩ := textB_head y.f0
      rw [partsK_cons, hd] at h
      simp [partsK] at h
  | cons x a ih =>
    intro b h
    cases b with
    | nil =>
      obtain ⟨d, r, hd, h1, h2⟩ := textB_head x.f0
      rw [partsK_cons, hd] at h
      simp [partsK] at h
    | cons y b =>
      rw [partsK_cons, partsK_cons, List.append_assoc, List.append_assoc, List.append_assoc, List.append_assoc] at h
      obtain ⟨e0, h⟩ := text_cut h
      obtain ⟨e1, h⟩ := text_cut h
      rw [spair_ext.2 ⟨e0, e1⟩, ih b h]
def keyL (l : List S37) : List Int := listB (partsK l)
def keyS (l : List S37) : ByteArray := strOfNums (keyL l)
theorem bytes_strOf {l : List Int} (h : ∀ b ∈ l, 0 ≤ b ∧ b ≤ 255) : bytesOf (strOfNums l) = l := by
  unfold bytesOf strOfNums
  simp only [List.map_map]
  conv => rhs; rw [← List.map_id l]
  refine List.map_congr_left fun b hb => ?_
  have := h b hb
  simp
  omega
theorem bytesOf_range (s : ByteArray) : ∀ b ∈ bytesOf s, 0 ≤ b ∧ b ≤ 255 := by
  intro b hb
  unfold bytesOf at hb
  obtain ⟨c, _, rfl⟩ := List.mem_map.1 hb
  have := c.toNat_lt
  omega
theorem textB_range (s : ByteArray) : ∀ b ∈ textB s, 0 ≤ b ∧ b ≤ 255 := by
  intro b hb
  unfold textB at hb
  rcases List.mem_append.1 hb with hb | hb
  · rcases List.mem_append.1 hb with hb | hb
    · have := numB_mem _ b hb; omega
    · rw [List.mem_singleton.1 hb]; omega
  · exact bytesOf_range s b hb
theorem keyL_range (l : List S37) : ∀ b ∈ keyL l, 0 ≤ b ∧ b ≤ 255 := by
  intro b hb
  unfold keyL listB at hb
  rcases List.mem_cons.1 hb with rfl | hb
  · omega
  rcases List.mem_append.1 hb with hb | hb
  · obtain ⟨p, hp, hb⟩ := List.mem_flatten.1 hb
    unfold partsK at hp
    obtain ⟨x, _, hp⟩ := List.mem_flatMap.1 hp
    simp at hp
    rcases hp with rfl | rfl
    · exact textB_range _ b hb
    · exact textB_range _ b hb
  · rw [List.mem_singleton.1 hb]; omega
theorem keyS_inj {a b : List S37} : keyS a = keyS b ↔ a = b := by
  constructor
  · intro h
    have h1 := congrArg bytesOf h
    unfold keyS at h1
    rw [bytes_strOf (keyL_range a), bytes_strOf (keyL_range b)] at h1
    unfold keyL listB at h1
    simp only [List.cons_append, List.cons.injEq, true_and] at h1
    exact flat_inj a b h1
  · rintro rfl; rfl
/-- How great pairs are. -/
def muP (x : S37) : Nat := (x.f0.size + 1) + (x.f1.size + 1)
def mass (l : List S37) : Nat := (l.map muP).sum
theorem mass_cons (x : S37) (l : List S37) : mass (x :: l) = muP x + mass l := by simp [mass]
theorem mass_len (l : List S37) : 2 * l.length ≤ mass l := by
  induction l with
  | nil => simp [mass]
  | cons x l ih => rw [mass_cons, List.length_cons]; unfold muP; omega
theorem mass_mem {l : List S37} {x : S37} (h : x ∈ l) : muP x ≤ mass l := by
  induction l with
  | nil => cases h
  | cons y l ih =>
    rw [mass_cons]
    rcases List.mem_cons.1 h with rfl | h
    · omega
    · have := ih h; omega
theorem mass_drop (l : List S37) (j : Nat) : mass (l.drop j) ≤ mass l := by
  induction l generalizing j with
  | nil => simp
  | cons x l ih =>
    cases j with
    | zero => simp
    | succ j => rw [List.drop_succ_cons, mass_cons]; have := ih j; omega
theorem textB_len (s : ByteArray) (h : s.size ≤ 9223372036854775807) : (textB s).length ≤ 20 + s.size := by
  unfold textB
  have := itoa_len s.size h
  simp only [List.length_append, List.length_singleton, bytesOf_length, numB, List.length_map]
  omega
theorem partsK_len (l : List S37) : (partsK l).length = 2 * l.length := by
  induction l with
  | nil => rfl
  | cons x l ih => simp only [partsK, List.flatMap_cons, List.length_append, List.length_cons, List.length_nil] at ih ⊢; omega
theorem sumLen_append (a b : List (List Int)) : sumLen (a ++ b) = sumLen a + sumLen b := by simp [sumLen]
theorem partsK_sum (l : List S37) (h : mass l ≤ 1048576) : sumLen (partsK l) ≤ 21 * mass l := by
  induction l with
  | nil => simp [partsK, sumLen]
  | cons x l ih =>
    rw [mass_cons] at h ⊢
    have h0 := textB_len x.f0 (by unfold muP at h; omega)
    have h1 := textB_len x.f1 (by unfold muP at h; omega)
    have h2 := ih (by omega)
    have e : partsK (x :: l) = [textB x.f0, textB x.f1] ++ partsK l := by simp [partsK]
    rw [e, sumLen_append]
    simp only [sumLen, List.map_cons, List.map_nil, List.sum_cons, List.sum_nil] at h2 ⊢
    unfold muP at h ⊢
    omega
def Byt (l : List Int) : Prop := ∀ b ∈ l, 0 ≤ b ∧ b ≤ 255
theorem strOf_data {l : List Int} (h : Byt l) : (strOfNums l).data.toList.map (fun b => (b.toNat : Int)) = l := bytes_strOf h
theorem strOf_size (l : List Int) : (strOfNums l).size = l.length := by simp [strOfNums, ByteArray.size]
theorem strOf_bytes (s : ByteArray) : strOfNums (bytesOf s) = s := bytesOf_inj (bytes_strOf (bytesOf_range s))
/-- A text that is read was laid so. -/
theorem textF_ok {bs : List Int} {e most : Int} (hb : Byt bs) {t : ByteArray} {r : List Int} (h : textF bs e most = (t, r, 0)) : e = 0 ∧ bs = textB t ++ r ∧ (t.size : Int) ≤ most := by
  unfold textF at h
  by_cases he : e ≠ 0
  · rw [if_pos he] at h
    injection h with _ h
    injection h with _ h
    exact absurd h he
  rw [if_neg he] at h
  have he0 : e = 0 := by simpa using he
  refine ⟨he0, ?_⟩
  cases bs with
  | nil => injection h with _ h; injection h with _ h; cases h
  | cons b bt =>
    simp only [] at h
    by_cases hd : b < 48 ∨ 57 < b
    · rw [if_pos hd] at h; injection h with _ h; injection h with _ h; cases h
    rw [if_neg hd] at h
    obtain ⟨u, hu⟩ : ∃ u, u = untilF (b :: bt) 0 58 10 := ⟨_, rfl⟩
    rw [← hu] at h
    obtain ⟨v, ok, q, e2⟩ := u
    cases ok with
    | false =>
      simp only [if_true] at h
      injection h with _ h; injection h with _ h
      subst h
      exfalso
      unfold untilF at hu
      split at hu
      · injection hu with _ hu; injection hu with _ hu; injection hu with _ hu
        split at hu <;> cases hu
      · split at hu
        · injection hu with _ hu; injection hu with hu _; cases hu
        · injection hu with _ hu; injection hu with _ hu; injection hu with _ hu; cases hu
    | true =>
      obtain ⟨hv0, hv1⟩ := until_nat (by omega) (by omega) hu.symm
      obtain ⟨i, hi, his, hne, hnum, hq, he2⟩ := untilF_true hu.symm
      obtain ⟨m, rfl⟩ := Int.eq_ofNat_of_zero_le hv0
      simp only [Bool.true_eq_false, if_false] at h
      by_cases h1 : (1000000000 : Int) < (m : Int)
      · rw [if_pos h1] at h; injection h with _ h; injection h with _ h; cases h
      rw [if_neg h1] at h
      by_cases h2 : most < (m : Int)
      · rw [if_pos h2] at h; injection h with _ h; injection h with _ h; cases h
      rw [if_neg h2] at h
      by_cases h3 : (q.length : Int) < (m : Int)
      · rw [if_pos h3] at h; injection h with _ h; injection h with _ h; cases h
      rw [if_neg h3] at h
      injection h with ht h; injection h with hr _
      rw [Int.toNat_natCast] at ht hr
      have hbq : Byt q := fun x hx => hb x (by rw [hq] at hx; exact List.mem_of_mem_drop hx)
      have hsz : t.size = m := by rw [← ht, strOf_size, List.length_take]; omega
      have hbt : bytesOf t = q.take m := by rw [← ht]; exact bytes_strOf (fun x hx => hbq x (List.mem_of_mem_take hx))
      obtain ⟨hn1, _, _⟩ := numOf_itoa hnum
      have hpre : (b :: bt).take i = numB (m : Nat) := by
        have h5 := strOf_data (l := (b :: bt).take i) (fun x hx => hb x (List.mem_of_mem_take hx))
        rw [hn1] at h5
        exact h5.symm
      refine ⟨?_, by rw [hsz]; omega⟩
      have hil : i < (b :: bt).length := by rw [List.length_take] at hi; omega
      have hget : (b :: bt)[i] = 58 := by
        rw [List.getElem?_take_of_lt (by rw [List.length_take] at hi; omega), List.getElem?_eq_getElem hil] at his
        exact Option.some.inj his
      have e1 : b :: bt = (b :: bt).take i ++ (58 :: (b :: bt).drop (i + 1)) := by
        conv => lhs; rw [← List.take_append_drop i (b :: bt)]
        rw [List.drop_eq_getElem_cons hil, hget]
      rw [e1, hpre, ← hq]
      unfold textB
      rw [hsz, hbt, ← hr]
      simp
theorem small_num : ∀ n : Fin 100, numOf ⟨(Lib.itoa ((n.val : Nat) : Int)).toArray⟩ = some (n.val : Int) := by decide +kernel
theorem small_len : ∀ n : Fin 100, (numB ((n.val : Nat) : Int)).length ≤ 2 := by decide +kernel
/-- A text that was laid is read so. -/
theorem textF_of (t : ByteArray) (r : List Int) (most : Int) (h1 : (t.size : Int) ≤ most) (h2 : t.size < 100) : textF (textB t ++ r) 0 most = (t, r, 0) := by
  obtain ⟨d, q, hd, hd0, hd1⟩ := textB_head t
  have hnl := small_len ⟨t.size, h2⟩
  have hnum := small_num ⟨t.size, h2⟩
  simp only [] at hnl hnum
  have hU : untilF (textB t ++ r) 0 58 10 = ((t.size : Int), true, bytesOf t ++ r, 0) := by
    obtain ⟨N, hN⟩ : ∃ N, N = numB (t.size : Int) := ⟨_, rfl⟩
    have hNb : ∀ b ∈ N, 48 ≤ b ∧ b ≤ 57 := by rw [hN]; exact numB_mem t.size
    have hbs : textB t ++ r = N ++ 58 :: (bytesOf t ++ r) := by unfold textB; rw [hN]; simp
    have hstr : strOfNums N = ⟨(Lib.itoa (t.size : Int)).toArray⟩ := by
      have : bytesOf ⟨(Lib.itoa (t.size : Int)).toArray⟩ = N := by rw [hN]; simp [bytesOf, numB]
      rw [← this, strOf_bytes]
    rw [← hN] at hnl
    have hidx : idxI ((textB t ++ r).take (10 + 1)) 58 = (N.length : Int) := by
      unfold idxI
      have : ((textB t ++ r).take (10 + 1)).findIdx? (fun x => x == 58) = some N.length := by
        rw [List.findIdx?_eq_some_iff_getElem]
        have hl : N.length < ((textB t ++ r).take (10 + 1)).length := by rw [List.length_take, hbs, List.length_append, List.length_cons]; omega
        refine ⟨hl, ?_, fun j hj => ?_⟩
        · rw [List.getElem_take]
          simp only [hbs]
          rw [List.getElem_append_right (Nat.le_refl _)]
          simp
        · rw [List.getElem_take]
          simp only [hbs]
          rw [List.getElem_append_left hj]
          have := hNb _ (List.getElem_mem hj)
          simp
          omega
      rw [this]
    unfold untilF
    rw [hidx, if_neg (by omega), Int.toNat_natCast]
    have ht : (textB t ++ r).take N.length = N := by rw [hbs, List.take_left']; rfl
    have hdr : (textB t ++ r).drop (N.length + 1) = bytesOf t ++ r := by
      rw [hbs, ← List.drop_drop, List.drop_left']
      · rfl
      · rfl
    rw [ht, hdr, hstr, hnum]
  unfold textF
  rw [if_neg (by simp)]
  rw [hd, List.cons_append] at hU ⊢
  simp only []
  rw [if_neg (by omega), hU]
  simp only [Bool.true_eq_false, if_false, Int.toNat_natCast]
  rw [if_neg (by omega), if_neg (by omega), if_neg (by rw [List.length_append, bytesOf_length]; omega)]
  rw [← bytesOf_length t, List.take_left', List.drop_left', strOf_bytes]
  · rfl
  · rfl
/-! ### reading a key -/
theorem nameB_len {s : ByteArray} (h : nameB s = true) : s.size ≤ 16 := by
  unfold nameB at h
  simp at h
  omega
theorem check_fits {l : List S37} (h : checkE l = 0) : l.length ≤ 8 ∧ ∀ x ∈ l, x.f0.size ≤ 16 ∧ x.f1.size ≤ 64 := by
  have hp : partsE l = 0 := by
    unfold checkE at h
    split at h
    · assumption
    · exact h
  refine ⟨parts_le hp, fun x hx => ?_⟩
  unfold partsE at hp
  split at hp
  · cases hp
  · rename_i h5
    split at hp
    · cases hp
    · rename_i h6
      simp only [Bool.or_eq_true, not_or] at h5
      have a1 : ¬ longP x = true := fun hc => h5.2 (List.any_eq_true.2 ⟨x, hx, hc⟩)
      have a2 : ¬ badP x = true := fun hc => h6 (List.any_eq_true.2 ⟨x, hx, hc⟩)
      unfold longP at a1
      unfold badP at a2
      simp at a1 a2
      exact ⟨nameB_len a2.2, a1⟩
theorem read_of (l : List S37) : ∀ (k : Nat) (acc : List S37), l.length < k → (∀ x ∈ l, x.f0.size ≤ 16 ∧ x.f1.size ≤ 64) → readLoop k ((partsK l).flatten ++ [101]) 0 acc = ([101], 0, acc ++ l) := by
  induction l with
  | nil =>
    intro k acc hk _
    obtain ⟨k, rfl⟩ : ∃ m, k = m + 1 := ⟨k - 1, by simp at hk; omega⟩
    simp [partsK, readLoop, moreF]
  | cons x l ih =>
    intro k acc hk hx
    obtain ⟨k, rfl⟩ : ∃ m, k = m + 1 := ⟨k - 1, by simp at hk; omega⟩
    have h0 := hx x (by simp)
    obtain ⟨d, q, hd, hd0, hd1⟩ := textB_head x.f0
    have hm : moreF ((partsK (x :: l)).flatten ++ [101]) = true := by
      rw [partsK_cons, hd]
      simp [moreF]
      omega
    have t1 := textF_of x.f0 (textB x.f1 ++ ((partsK l).flatten ++ [101])) 16 (by omega) (by omega)
    have t2 := textF_of x.f1 ((partsK l).flatten ++ [101]) 64 (by omega) (by omega)
    have e1 : (partsK (x :: l)).flatten ++ [101] = textB x.f0 ++ (textB x.f1 ++ ((partsK l).flatten ++ [101])) := by rw [partsK_cons]; simp
    rw [readLoop, if_pos hm, e1, t1]
    simp only []
    rw [t2]
    simp only []
    rw [ih k _ (by simp at hk; omega) (fun y hy => hx y (by simp [hy]))]
    simp
theorem untilF_sub (bs : List Int) (e stop : Int) (long : Nat) : ∀ x ∈ (untilF bs e stop long).2.2.1, x ∈ bs := by
  unfold untilF
  split
  · intro x hx; cases hx
  · split
    · intro x hx; exact List.mem_of_mem_drop hx
    · intro x hx; cases hx
theorem textF_sub (bs : List Int) (e most : Int) : ∀ x ∈ (textF bs e most).2.1, x ∈ bs := by
  unfold textF
  split
  · exact fun x hx => hx
  · cases bs with
    | nil => intro x hx; cases hx
    | cons b t =>
      have h := untilF_sub (b :: t) 0 58 10
      simp only []
      split
      · intro x hx; cases hx
      · split
        · exact h
        · split
          · intro x hx; cases hx
          · split
            · intro x hx; cases hx
            · split
              · intro x hx; cases hx
              · intro x hx; exact h x (List.mem_of_mem_drop hx)
theorem readLoop_inv : ∀ (k : Nat) (bs : List Int) (e : Int) (acc : List S37), Byt bs → (∃ r, (readLoop k bs e acc) = (r, 0, (readLoop k bs e acc).2.2)) →
    e = 0 ∧ ∃ l', (readLoop k bs e acc).2.2 = acc ++ l' ∧ bs = (partsK l').flatten ++ (readLoop k bs e acc).1 := by
  intro k
  induction k with
  | zero =>
    intro bs e acc hb ⟨r, hr⟩
    simp only [readLoop] at hr ⊢
    injection hr with _ hr; injection hr with hr _
    exact ⟨hr, [], by simp, by simp [partsK]⟩
  | succ k ih =>
    intro bs e acc hb ⟨r, hr⟩
    rw [readLoop] at hr ⊢
    by_cases hm : moreF bs = true
    · rw [if_pos hm] at hr ⊢
      obtain ⟨a, ha⟩ : ∃ a, a = textF bs e 16 := ⟨_, rfl⟩
      rw [← ha] at hr ⊢
      obtain ⟨b, hbb⟩ : ∃ b, b = textF a.2.1 a.2.2 64 := ⟨_, rfl⟩
      rw [← hbb] at hr ⊢
      obtain ⟨n, abs, ae⟩ := a
      obtain ⟨v, bbs, be⟩ := b
      simp only [] at hr hbb ⊢
      have hba : Byt abs := fun x hx => by
        have hsub : ∀ x ∈ (textF bs e 16).2.1, x ∈ bs := textF_sub bs e 16
        rw [← ha] at hsub
        exact hb x (hsub x hx)
      have hbv : Byt bbs := fun x hx => by
        have hsub : ∀ x ∈ (textF abs ae 64).2.1, x ∈ abs := textF_sub abs ae 64
        rw [← hbb] at hsub
        exact hba x (hsub x hx)
      obtain ⟨h1, l', h2, h3⟩ := ih bbs be (acc ++ [⟨n, v⟩]) hbv ⟨r, hr⟩
      subst h1
      obtain ⟨h4, h5, _⟩ := textF_ok hba hbb.symm
      subst h4
      obtain ⟨h6, h7, _⟩ := textF_ok hb ha.symm
      refine ⟨h6, ⟨n, v⟩ :: l', by rw [h2]; simp, ?_⟩
      rw [partsK_cons, h7, h5]
      simp only [List.append_assoc]
      rw [← h3]
    · rw [if_neg hm] at hr ⊢
      injection hr with _ hr; injection hr with hr _
      exact ⟨hr, [], by simp, by simp [partsK]⟩
theorem skipF_zero {x : Int} {bs : List Int} {e : Int} {r : List Int} (h : skipF x bs e = (r, 0)) : e = 0 ∧ bs = x :: r := by
  unfold skipF at h
  by_cases he : e ≠ 0
  · rw [if_pos he] at h
    injection h with _ h
    exact absurd h he
  rw [if_neg he] at h
  refine ⟨by simpa using he, ?_⟩
  cases bs with
  | nil => injection h with _ h; cases h
  | cons b t =>
    simp only [] at h
    by_cases hb : b = x
    · rw [if_pos hb] at h
      injection h with h _
      rw [hb, h]
    · rw [if_neg hb] at h
      injection h with _ h; cases h
theorem read_key (l : List S37) (h : checkE l = 0) : readB (keyL l) = (l, 0) := by
  obtain ⟨h1, h2⟩ := check_fits h
  unfold readB keyL listB
  have e1 : skipF 108 (108 :: (partsK l).flatten ++ [101]) 0 = ((partsK l).flatten ++ [101], 0) := by simp [skipF]
  rw [e1]
  simp only []
  rw [read_of l 9 [] (by omega) h2]
  unfold readEnd
  have e2 : skipF 101 [101] 0 = ([], 0) := by simp [skipF]
  simp only [List.nil_append]
  rw [e2, if_pos ⟨rfl, rfl, h⟩]
theorem read_back (bs : List Int) (hb : Byt bs) : ((readB bs).2 = 0 ∧ keyL (readB bs).1 = bs ∧ checkE (readB bs).1 = 0) ∨ readB bs = ([], 4) := by
  unfold readB
  obtain ⟨s, hs⟩ : ∃ s, s = skipF 108 bs 0 := ⟨_, rfl⟩
  obtain ⟨x, hx⟩ : ∃ x, x = readLoop 9 s.1 s.2 [] := ⟨_, rfl⟩
  rw [← hs, ← hx]
  unfold readEnd
  split
  · rename_i hc
    left
    obtain ⟨h1, h2, h3⟩ := hc
    have h4 : skipF 101 x.1 x.2.1 = ([], 0) := Prod.ext (List.eq_nil_of_length_eq_zero h2) h1
    obtain ⟨h5, h6⟩ := skipF_zero h4
    have hbs : Byt s.1 := fun b hbm => by
      rw [hs] at hbm
      unfold skipF at hbm
      rw [if_neg (by simp)] at hbm
      cases bs with
      | nil => cases hbm
      | cons c t =>
        simp only [] at hbm
        split at hbm
        · exact hb b (by simp [hbm])
        · cases hbm
    obtain ⟨h7, l', h8, h9⟩ := readLoop_inv 9 s.1 s.2 [] hbs ⟨x.1, by rw [← hx]; exact Prod.ext rfl (Prod.ext h5 rfl)⟩
    rw [← hx] at h8 h9
    rw [List.nil_append] at h8
    obtain ⟨_, h11⟩ := skipF_zero (show skipF 108 bs 0 = (s.1, 0) by rw [← hs]; exact Prod.ext rfl h7)
    refine ⟨rfl, ?_, h3⟩
    simp only [h8]
    rw [h11, h9, h6]
    rfl
  · exact .inr rfl
theorem keyL_len (l : List S37) (hm : mass l ≤ 1048576) : (keyL l).length ≤ 23000000 := by
  unfold keyL listB
  have h1 := partsK_sum l hm
  have h2 : ((partsK l).flatten).length = sumLen (partsK l) := by simp [sumLen]
  simp only [List.length_cons, List.length_append, List.length_nil, h2]
  omega
theorem check_mass {l : List S37} (h : checkE l = 0) : mass l ≤ 1048576 := by
  obtain ⟨h1, h2⟩ := check_fits h
  have : ∀ l : List S37, (∀ x ∈ l, x.f0.size ≤ 16 ∧ x.f1.size ≤ 64) → mass l ≤ 82 * l.length := by
    intro l
    induction l with
    | nil => intro _; simp [mass]
    | cons x l ih =>
      intro hx
      have h3 := hx x (by simp)
      have h4 := ih (fun y hy => hx y (by simp [hy]))
      rw [mass_cons, List.length_cons]
      unfold muP
      omega
  have := this l h2
  omega
end Go.Proofs.YtjgommaikaeobaaGreatDoor.G

namespace Go.Proofs.YtjgommaikaeobaaGreatDoor.G
open Go.RowKit Go.Shelf Go.Lib Go.Proofs.YtjgommaikaeobaaGreatDoorW.PrintWords Go.Proofs.YtjgommaikaeobaaGreatDoor.P Go.Proofs.YtjgommaikaeobaaGreatDoor.L Go.Proofs.YtjgommaikaeobaaGreatDoor.RD
theorem partsK_snoc (l : List S37) (j : Nat) (hj : j < l.length) : partsK (l.take (j + 1)) = partsK (l.take j) ++ [textB l[j].f0, textB l[j].f1] := by
  unfold partsK
  rw [List.take_succ_eq_append_getElem hj, List.flatMap_append]
  simp only [List.flatMap_cons, List.flatMap_nil, List.append_nil]
theorem parts_fit (l : List S37) (hm : mass l ≤ 1048576) : (partsK l).length ≤ 1000000000 ∧ sumLen (partsK l) < 140737488355327 := by
  have h1 := partsK_len l
  have h2 := mass_len l
  have h3 := partsK_sum l hm
  exact ⟨by omega, by omega⟩
theorem wkey_l0 (l : List S37) (hm : mass l ≤ 1048576) (d : Nat) : ∀ (k j : Nat), j + d = l.length → d < k → watchfireref02_Key.l0 k l (partsK (l.take j)) (j : Int) = some (keyS l) := by
  have hlen := mass_len l
  induction d with
  | zero =>
    intro k j h hk
    obtain ⟨k, rfl⟩ : ∃ m, k = m + 1 := ⟨k - 1, by omega⟩
    simp only [watchfireref02_Key.l0]
    have e : l.take j = l := List.take_of_length_le (by omega)
    unfold WListG.f
    rw [if_neg (by omega), e, if_pos (parts_fit l hm)]
    rfl
  | succ d ih =>
    intro k j h hk
    obtain ⟨k, rfl⟩ : ∃ m, k = m + 1 := ⟨k - 1, by omega⟩
    have hj : j < l.length := by omega
    have hx := mass_mem (List.getElem_mem hj)
    unfold muP at hx
    simp only [watchfireref02_Key.l0]
    rw [if_pos (by omega), if_pos (by omega), rd35_get l j hj, wtext_eq _ (by omega), Option.bind_some, wtext_eq _ (by omega), Option.bind_some, Option.bind_some,
      if_pos (by simp only [List.length_cons, List.length_nil, partsK_len, List.length_take]; omega), wrap1 (n := l.length) (by omega) (by omega) (by omega), cast1, ← partsK_snoc l j hj]
    exact ih k (j + 1) (by omega) (by omega)
def WKey.f (l0 : List S37) : Option ByteArray := if mass l0 ≤ 1048576 then some (keyS l0) else none
theorem wkey_any (A0 : Option Addr) (c0 : Nat) (l0 : List S37) (w : World) (hr0 : Kd.C k37 w A0 l0.length l0) (hc0 : l0.length ≤ c0) (hm : mass l0 ≤ 1048576) :
    Calls Tryz.prog 7 #[.slice A0 l0.length c0] w fun e w' => e = .returned (.string (keyS l0)) ∧ Below w.heap.size w w' := by
  have hf : watchfireref02_Key.f (l0.length + 1) l0 = some (keyS l0) := by
    have := wkey_l0 l0 hm l0.length (l0.length + 1) 0 (by omega) (by omega)
    rw [Int.natCast_zero] at this
    unfold watchfireref02_Key.f
    simpa [partsK] using this
  exact watchfireref02_Key.calls _ A0 c0 l0 _ w hr0 hc0 hf
theorem WKey.calls (A0 : Option Addr) (c0 : Nat) (l0 : List S37) (r : ByteArray) (w : World) (hr0 : Kd.C k37 w A0 l0.length l0) (hc0 : l0.length ≤ c0) (h : WKey.f l0 = some r) :
    Calls Tryz.prog 7 #[.slice A0 l0.length c0] w fun e w' => e = .returned (.string r) ∧ Below w.heap.size w w' := by
  unfold WKey.f at h
  by_cases hm : mass l0 ≤ 1048576
  · rw [if_pos hm] at h
    cases h
    exact wkey_any A0 c0 l0 w hr0 hc0 hm
  · rw [if_neg hm] at h; cases h
/-! ### readers stay quiet behind an error -/
theorem skipF_inv {x : Int} {bs : List Int} {e : Int} (h : e ≠ 0 → bs = []) : (skipF x bs e).2 ≠ 0 → (skipF x bs e).1 = [] := by
  unfold skipF
  by_cases he : e ≠ 0
  · rw [if_pos he]; exact h
  · rw [if_neg he]
    cases bs with
    | nil => intro _; rfl
    | cons b t =>
      simp only []
      split
      · intro h2; exact absurd rfl h2
      · intro _; rfl
theorem untilF_inv (bs : List Int) (stop : Int) (long : Nat) : ((untilF bs 0 stop long).2.1 = false → (untilF bs 0 stop long).2.2.1 = []) ∧ ((untilF bs 0 stop long).2.1 = true → (untilF bs 0 stop long).2.2.2 = 0) := by
  unfold untilF
  split
  · exact ⟨fun _ => rfl, fun h => (by cases h)⟩
  · split
    · exact ⟨fun h => (by cases h), fun _ => rfl⟩
    · exact ⟨fun _ => rfl, fun h => (by cases h)⟩
theorem textF_inv {bs : List Int} {e most : Int} (h : e ≠ 0 → bs = []) : (textF bs e most).2.2 ≠ 0 → (textF bs e most).2.1 = [] := by
  unfold textF
  by_cases he : e ≠ 0
  · rw [if_pos he]; exact h
  · rw [if_neg he]
    cases bs with
    | nil => intro _; rfl
    | cons b t =>
      have h1 := untilF_inv (b :: t) 58 10
      simp only []
      by_cases hd : b < 48 ∨ 57 < b
      · rw [if_pos hd]; intro _; rfl
      · rw [if_neg hd]
        cases hu : (untilF (b :: t) 0 58 10).2.1 with
        | false => rw [if_pos rfl]; intro _; exact h1.1 hu
        | true =>
          rw [if_neg (by simp)]
          split
          · intro _; rfl
          · split
            · intro _; rfl
            · split
              · intro _; rfl
              · intro h2; exact absurd (h1.2 hu) h2
theorem textF_size (bs : List Int) (e most : Int) (hm : 0 ≤ most) : ((textF bs e most).1.size : Int) ≤ most := by
  unfold textF
  by_cases he : e ≠ 0
  · rw [if_pos he]; exact hm
  · rw [if_neg he]
    cases bs with
    | nil => exact hm
    | cons b t =>
      simp only []
      split
      · exact hm
      · split
        · exact hm
        · split
          · exact hm
          · split
            · exact hm
            · rename_i h
              split
              · exact hm
              · simp only [strOf_size, List.length_take]
                omega
theorem skipF_sub (x : Int) (bs : List Int) (e : Int) : ∀ y ∈ (skipF x bs e).1, y ∈ bs := by
  unfold skipF
  split
  · exact fun _ h => h
  · cases bs with
    | nil => intro y hy; cases hy
    | cons b t =>
      simp only []
      split
      · intro y hy; exact List.mem_cons_of_mem _ hy
      · intro y hy; cases hy
theorem wmoreF_eq {bs : List Int} {e : Int} (h : e ≠ 0 → bs = []) : wmoreF bs e = moreF bs := by
  unfold wmoreF
  by_cases he : e = 0
  · subst he; rfl
  · rw [h he]; simp [moreF]
/-- What the document's Read answers behind its loop. -/
def wreadEnd (key : ByteArray) (x : List Int × Int × List S37) : List S37 × Int := if x.2.1 = 0 ∧ checkE x.2.2 = 0 ∧ keyS x.2.2 = key then (x.2.2, 0) else ([], 4)
def wreadB (key : ByteArray) : List S37 × Int := wreadEnd key (readLoop 9 (skipF 108 (bytesOf key) 0).1 (skipF 108 (bytesOf key) 0).2 [])
/-- Both read alike. -/
theorem wread_eq (key : ByteArray) : wreadB key = readB (bytesOf key) := by
  have hb : Byt (bytesOf key) := bytesOf_range key
  have hr := read_back (bytesOf key) hb
  unfold wreadB
  unfold readB at hr ⊢
  obtain ⟨x, hx⟩ : ∃ x, x = readLoop 9 (skipF 108 (bytesOf key) 0).1 (skipF 108 (bytesOf key) 0).2 [] := ⟨_, rfl⟩
  rw [← hx] at hr ⊢
  unfold wreadEnd
  by_cases hw : x.2.1 = 0 ∧ checkE x.2.2 = 0 ∧ keyS x.2.2 = key
  · rw [if_pos hw]
    have hk : keyL x.2.2 = bytesOf key := by
      have := congrArg bytesOf hw.2.2
      unfold keyS at this
      rwa [bytes_strOf (keyL_range x.2.2)] at this
    have h1 := read_key x.2.2 hw.2.1
    rw [hk] at h1
    unfold readB at h1
    rw [← hx] at h1
    exact h1.symm
  · rw [if_neg hw]
    rcases hr with ⟨h1, h2, h3⟩ | h4
    · exfalso
      unfold readEnd at h1 h2 h3
      by_cases hc : (skipF 101 x.1 x.2.1).2 = 0 ∧ (skipF 101 x.1 x.2.1).1.length = 0 ∧ checkE x.2.2 = 0
      · rw [if_pos hc] at h2
        refine hw ⟨?_, hc.2.2, ?_⟩
        · exact (skipF_zero (show skipF 101 x.1 x.2.1 = ((skipF 101 x.1 x.2.1).1, 0) from Prod.ext rfl hc.1)).1
        · unfold keyS
          simp only [] at h2
          rw [h2, strOf_bytes]
      · rw [if_neg hc] at h1
        cases h1
    · exact h4.symm
end Go.Proofs.YtjgommaikaeobaaGreatDoor.G
