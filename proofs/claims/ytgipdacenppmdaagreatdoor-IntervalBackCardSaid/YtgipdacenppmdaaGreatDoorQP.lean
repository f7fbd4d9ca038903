/- An interval's text is read as that interval. -/
import Derived.Test.YtgipdacenppmdaaGreatDoorQR
import Derived.Test.YtgipdacenppmdaaGreatDoorIU
set_option linter.unusedVariables false
set_option linter.unusedSimpArgs false
namespace Go.Proofs.YtgipdacenppmdaaGreatDoor.G
open Go.RowKit Go.Lib Go.Proofs.YtgipdacenppmdaaGreatDoorW.PrintWords Go.Proofs.YtgipdacenppmdaaGreatDoor.P
theorem right_may {k a b : Int} (h : rightB k a b = true) : mayB k a = true ∧ mayB k b = true := by
  unfold rightB at h
  rw [Bool.and_eq_true, Bool.and_eq_true] at h
  exact ⟨h.1, h.2.1⟩
theorem rng_name {k : Int} {x : S55} (h : rightB k x.f0 x.f1 = true) : rngR k (rgB k x) = x := by
  obtain ⟨m1, m2⟩ := right_may h
  obtain ⟨n1, c1⟩ := num_name m1
  obtain ⟨n2, c2⟩ := num_name m2
  have d1 : (46 : UInt8) ∉ (nmB k x.f0).data.toList := fun hm => (c1 46 hm).2.2.1 rfl
  unfold rngR rgB
  by_cases e : x.f1 = x.f0
  · rw [if_pos e, cut2_none _ d1]
    simp only [Bool.false_eq_true, if_false, n1]
    cases x
    simp only at e ⊢
    rw [e]
  · rw [if_neg e, cut2_dots _ _ d1]
    simp only [if_true, n1, n2]
/-- A byte of a row of ranges. -/
def RowC (c : UInt8) : Prop := c ≠ 32 ∧ c ≠ 61
theorem rg_chars {k : Int} {x : S55} (h : rightB k x.f0 x.f1 = true) : ∀ c ∈ (rgB k x).data.toList, RowC c ∧ c ≠ 44 := by
  obtain ⟨m1, m2⟩ := right_may h
  have c1 := (num_name m1).2
  have c2 := (num_name m2).2
  intro c hc
  unfold rgB at hc
  split at hc
  · have := c1 c hc
    exact ⟨⟨this.1, this.2.2.2⟩, this.2.1⟩
  · rw [ByteArray.data_append, ByteArray.data_append, Array.toList_append, Array.toList_append, List.mem_append, List.mem_append] at hc
    rcases hc with hc | hc | hc
    · have := c1 c hc
      exact ⟨⟨this.1, this.2.2.2⟩, this.2.1⟩
    · have : c = 46 := by simpa using hc
      subst this
      exact ⟨⟨by decide, by decide⟩, by decide⟩
    · have := c2 c hc
      exact ⟨⟨this.1, this.2.2.2⟩, this.2.1⟩
theorem mem_joinTail (sep : List UInt8) (c : UInt8) : ∀ (l : List (List UInt8)), c ∈ Lib.joinTail sep l → c ∈ sep ∨ ∃ x ∈ l, c ∈ x
  | [], h => by simp [Lib.joinTail] at h
  | x :: t, h => by
    rw [show Lib.joinTail sep (x :: t) = sep ++ x ++ Lib.joinTail sep t by simp [Lib.joinTail], List.mem_append, List.mem_append] at h
    rcases h with (h | h) | h
    · exact .inl h
    · exact .inr ⟨x, by simp, h⟩
    · rcases mem_joinTail sep c t h with h | ⟨y, hy, h⟩
      · exact .inl h
      · exact .inr ⟨y, by simp [hy], h⟩
theorem mem_joinB {l : List ByteArray} {s : ByteArray} {c : UInt8} (h : c ∈ (joinB l s).data.toList) : c ∈ s.data.toList ∨ ∃ x ∈ l, c ∈ x.data.toList := by
  unfold joinB at h
  cases l with
  | nil => simp [Lib.join_nil] at h
  | cons x t =>
    rw [List.map_cons, Lib.join_cons] at h
    simp only [List.mem_append] at h
    rcases h with h | h
    · exact .inr ⟨x, by simp, h⟩
    · rcases mem_joinTail _ c _ h with h | ⟨y, hy, h⟩
      · exact .inl h
      · obtain ⟨z, hz, rfl⟩ := List.mem_map.1 hy
        exact .inr ⟨z, by simp [hz], h⟩
theorem rgs_join {k : Int} {l : List S55} (h : ∀ x ∈ l, rightB k x.f0 x.f1 = true) (hn : l ≠ []) : rgsB k (joinB (l.map (rgB k)) ⟨#[44]⟩) = l := by
  unfold rgsB
  rw [splitC_join 44 _ (by simpa using hn) (fun y hy hm => by
    obtain ⟨x, hx, rfl⟩ := List.mem_map.1 hy
    exact (rg_chars (h x hx) 44 hm).2 rfl), List.map_map]
  have e : ∀ l : List S55, (∀ x ∈ l, rightB k x.f0 x.f1 = true) → l.map (rngR k ∘ rgB k) = l := by
    intro l hl
    induction l with
    | nil => rfl
    | cons x t ih => rw [List.map_cons, ih (fun y hy => hl y (by simp [hy]))]; exact congrArg (· :: t) (rng_name (hl x (by simp)))
  exact e l h
theorem k5 {k : Nat} (h : k < 5) : k = 0 ∨ k = 1 ∨ k = 2 ∨ k = 3 ∨ k = 4 := by omega
theorem word_chars (k : Nat) (h : k < 5) : ∀ c ∈ (wordB (k : Int)).data.toList, RowC c := by
  have e : ∀ s : ByteArray, (s.data.toList.all fun c => decide (c ≠ 32) && decide (c ≠ 61)) = true → ∀ c ∈ s.data.toList, RowC c := fun s hs c hc => by
    have := List.all_eq_true.1 hs c hc
    rw [Bool.and_eq_true] at this
    exact ⟨of_decide_eq_true this.1, of_decide_eq_true this.2⟩
  rcases k5 h with rfl | rfl | rfl | rfl | rfl <;> exact e _ (by kernel_rfl)
theorem word_inj (i k : Nat) (hi : i < 5) (hk : k < 5) (h : wordB (i : Int) = wordB (k : Int)) : i = k := by
  have e : ∀ a b : ByteArray, (a.data.toList == b.data.toList) = false → a ≠ b := fun a b h e => by rw [e] at h; simp at h
  rcases k5 hi with rfl | rfl | rfl | rfl | rfl <;> rcases k5 hk with rfl | rfl | rfl | rfl | rfl <;> first | rfl | exact absurd h (e _ _ (by kernel_rfl))
theorem word_ahead (k : Nat) (hk : k < 5) : wordB (k : Int) ≠ aheadW := by
  have e : ∀ a b : ByteArray, (a.data.toList == b.data.toList) = false → a ≠ b := fun a b h e => by rw [e] at h; simp at h
  rcases k5 hk with rfl | rfl | rfl | rfl | rfl <;> exact e _ _ (by kernel_rfl)
theorem step_row (k : Nat) (hk : k < 5) (f : Nat → List S55) (a : Int) (l : List S55) (h : ∀ x ∈ l, rightB (k : Int) x.f0 x.f1 = true) (hn : l ≠ []) : rdStep (f, a) (rowB (k : Int) l) = ((fun i => if i = k then l else f i), a) := by
  have hc := cut2_hit 61 (wordB (k : Int)) (joinB (l.map (rgB (k : Int))) ⟨#[44]⟩) (fun hm => (word_chars k hk 61 hm).2 rfl)
  unfold rdStep rowB
  rw [hc]
  simp only
  rw [if_neg (word_ahead k hk)]
  congr 1
  funext i
  unfold rdK
  by_cases e : i = k
  · subst e
    rw [if_pos ⟨hk, rfl⟩, if_pos rfl, rgs_join h hn]
  · rw [if_neg e, if_neg (fun h => e (word_inj i k h.1 hk h.2))]
theorem fold_rows : ∀ (ls : List (List S55)) (k : Nat) (f : Nat → List S55) (a : Int), k + ls.length ≤ 5 → Fine (k : Int) ls →
    ∃ g, (rows (k : Int) ls).foldl rdStep (f, a) = (g, a) ∧ (∀ i, i < k → g i = f i) ∧ (∀ j (h : j < ls.length), f (k + j) = [] → g (k + j) = ls[j])
  | [], k, f, a, hk, hf => ⟨f, rfl, fun _ _ => rfl, fun j h => absurd h (by simp)⟩
  | l :: t, k, f, a, hk, hf => by
    rw [List.length_cons] at hk
    obtain ⟨_, hr, ht⟩ := hf
    rw [show (k : Int) + 1 = ((k + 1 : Nat) : Int) by omega] at ht
    by_cases hl : l = []
    · obtain ⟨g, h1, h2, h3⟩ := fold_rows t (k + 1) f a (by omega) ht
      refine ⟨g, ?_, fun i hi => h2 i (by omega), fun j h hj => ?_⟩
      · rw [rows, if_pos hl, List.nil_append, show (k : Int) + 1 = ((k + 1 : Nat) : Int) by omega]; exact h1
      · cases j with
        | zero => rw [Nat.add_zero, h2 k (by omega), List.getElem_cons_zero, hl]; exact hj
        | succ j =>
          have := h3 j (by simpa using h) (by rw [show k + 1 + j = k + (j + 1) by omega]; exact hj)
          rw [show k + (j + 1) = k + 1 + j by omega, this, List.getElem_cons_succ]
    · obtain ⟨g, h1, h2, h3⟩ := fold_rows t (k + 1) (fun i => if i = k then l else f i) a (by omega) ht
      refine ⟨g, ?_, fun i hi => ?_, fun j h hj => ?_⟩
      · rw [rows, if_neg hl, show (k : Int) + 1 = ((k + 1 : Nat) : Int) by omega, List.singleton_append, List.foldl_cons, step_row k (by omega) f a l hr hl]
        exact h1
      · rw [h2 i (by omega), if_neg (by omega)]
      · cases j with
        | zero => rw [Nat.add_zero, h2 k (by omega), if_pos rfl, List.getElem_cons_zero]
        | succ j =>
          have := h3 j (by simpa using h) (by rw [if_neg (by omega), show k + 1 + j = k + (j + 1) by omega]; exact hj)
          rw [show k + (j + 1) = k + 1 + j by omega, this, List.getElem_cons_succ]
theorem step_ahead (f : Nat → List S55) (a ah : Int) (h1 : -1440 ≤ ah) (h2 : ah ≤ 1440) : rdStep (f, a) (aheadB ah) = (f, ah) := by
  have e : aheadB ah = aheadW ++ (⟨#[61]⟩ : ByteArray) ++ ⟨(Lib.itoa ah).toArray⟩ := by
    unfold aheadB aheadW
    congr 1
  have hc := cut2_hit 61 aheadW ⟨(Lib.itoa ah).toArray⟩ (by simp [aheadW])
  unfold rdStep
  rw [e, hc]
  simp only
  rw [if_pos trivial, atoiR_itoa ah (by omega) (by omega)]
theorem okFrom_all (a : ByteArray) : ∀ (d i : Nat), okFrom a d i = true → ∀ j, i ≤ j → j < i + d → okc (bt a (j : Int)) = true
  | 0, i, _, j, h1, h2 => absurd h2 (by omega)
  | d + 1, i, h, j, h1, h2 => by
    rw [okFrom_succ, Bool.and_eq_true] at h
    by_cases e : j = i
    · subst e; exact h.1
    · exact okFrom_all a d (i + 1) h.2 j (by omega) (by omega)
theorem name_chars {a : ByteArray} (h : nameOk a = true) : (32 : UInt8) ∉ a.data.toList := by
  unfold nameOk at h
  rw [Bool.and_eq_true, Bool.and_eq_true] at h
  intro hm
  obtain ⟨j, hj, he⟩ := List.getElem_of_mem hm
  have hjs : j < a.size := by simpa using hj
  have := okFrom_all a a.size 0 h.2.2 j (by omega) (by omega)
  unfold bt at this
  rw [dif_pos (by simpa using hjs)] at this
  have e2 : (a[((j : Int)).toNat]'(by simpa using hjs)) = 32 := by
    rw [← he]
    simp
    rfl
  rw [e2] at this
  exact absurd this (by decide)
theorem name_size {a : ByteArray} (h : nameOk a = true) : a.size ≤ 16 := by
  unfold nameOk at h
  rw [Bool.and_eq_true] at h
  exact (of_decide_eq_true h.1).2
theorem rows_chars : ∀ (ls : List (List S55)) (k : Nat), k + ls.length ≤ 5 → Fine (k : Int) ls → ∀ x ∈ rows (k : Int) ls, (32 : UInt8) ∉ x.data.toList
  | [], k, hk, hf => by simp [rows]
  | l :: t, k, hk, hf => by
    rw [List.length_cons] at hk
    obtain ⟨_, hr, ht⟩ := hf
    rw [show (k : Int) + 1 = ((k + 1 : Nat) : Int) by omega] at ht
    have ih := rows_chars t (k + 1) (by omega) ht
    intro x hx
    rw [rows, show (k : Int) + 1 = ((k + 1 : Nat) : Int) by omega] at hx
    rcases List.mem_append.1 hx with h | h
    · split at h
      · cases h
      · rw [List.mem_singleton] at h
        subst h
        intro hm
        unfold rowB at hm
        rw [ByteArray.data_append, ByteArray.data_append, Array.toList_append, Array.toList_append, List.mem_append, List.mem_append] at hm
        rcases hm with (hm | hm) | hm
        · exact (word_chars k (by omega) 32 hm).1 rfl
        · simp at hm
        · rcases mem_joinB hm with hm | ⟨y, hy, hm⟩
          · simp at hm
          · obtain ⟨z, hz, rfl⟩ := List.mem_map.1 hy
            exact (rg_chars (hr z hz) 32 hm).1.1 rfl
    · exact ih x h
theorem ahead_chars (ah : Int) : (32 : UInt8) ∉ (aheadB ah).data.toList := by
  intro hm
  unfold aheadB at hm
  rw [ByteArray.data_append, Array.toList_append, List.mem_append] at hm
  rcases hm with hm | hm
  · simp at hm
  · have := itoa_chars ah 32 hm
    exact absurd this (by decide)
/-- THE ROUND: an interval's text is read as it was. -/
theorem rdAll_text (nm : ByteArray) (l1 l2 l3 l4 l5 : List S55) (ah : Int) (hn : nameOk nm = true) (hc : chk 0 [l1, l2, l3, l4, l5] ah = 0) : rdAll (joinB (partsB nm [l1, l2, l3, l4, l5] ah) ⟨#[32]⟩) = ⟨nm, l1, l2, l3, l4, l5, ah⟩ := by
  obtain ⟨hf, h1, h2⟩ := fine_of 0 _ _ hc
  have hs : splitC (joinB (partsB nm [l1, l2, l3, l4, l5] ah) ⟨#[32]⟩) ⟨#[32]⟩ = partsB nm [l1, l2, l3, l4, l5] ah := splitC_join 32 _ (by unfold partsB; simp) (fun x hx => by
    unfold partsB at hx
    rcases List.mem_cons.1 hx with rfl | hx
    · exact name_chars hn
    · rcases List.mem_append.1 hx with hx | hx
      · exact rows_chars [l1, l2, l3, l4, l5] 0 (by simp) hf x hx
      · split at hx
        · cases hx
        · rw [List.mem_singleton] at hx; subst hx; exact ahead_chars ah)
  unfold rdAll
  rw [hs]
  obtain ⟨g, g1, _, g3⟩ := fold_rows [l1, l2, l3, l4, l5] 0 (fun _ => []) 0 (by simp) hf
  have q0 := g3 0 (by simp) rfl
  have q1 := g3 1 (by simp) rfl
  have q2 := g3 2 (by simp) rfl
  have q3 := g3 3 (by simp) rfl
  have q4 := g3 4 (by simp) rfl
  simp only [Nat.zero_add, List.getElem_cons_zero, List.getElem_cons_succ] at q0 q1 q2 q3 q4
  have hfold : ((partsB nm [l1, l2, l3, l4, l5] ah).tail).foldl rdStep (fun _ => [], 0) = (g, ah) := by
    unfold partsB
    rw [List.tail_cons, List.foldl_append]
    rw [show (rows 0 [l1, l2, l3, l4, l5]).foldl rdStep (fun _ => [], 0) = (g, 0) from g1]
    by_cases h0 : ah = 0
    · rw [if_pos h0, List.foldl_nil, h0]
    · rw [if_neg h0, List.foldl_cons, List.foldl_nil, step_ahead g 0 ah h1 h2]
  simp only [hfold]
  unfold mk24 partsB
  simp only [q0, q1, q2, q3, q4]
  rfl
theorem text_size (nm : ByteArray) (l1 l2 l3 l4 l5 : List S55) (ah : Int) (hn : nameOk nm = true) (hc : chk 0 [l1, l2, l3, l4, l5] ah = 0) : (joinB (partsB nm [l1, l2, l3, l4, l5] ah) ⟨#[32]⟩).size ≤ 1000000 := by
  obtain ⟨hf, h1, h2⟩ := fine_of 0 _ _ hc
  obtain ⟨r1, r2⟩ := rows_size 0 _ hf
  have hb := joinB_le (partsB nm [l1, l2, l3, l4, l5] ah) ⟨#[32]⟩ 400 (fun x hx => by
    unfold partsB at hx
    rcases List.mem_cons.1 hx with rfl | hx
    · have := name_size hn; omega
    · rcases List.mem_append.1 hx with hx | hx
      · exact r2 x hx
      · split at hx
        · cases hx
        · rw [List.mem_singleton] at hx; subst hx
          unfold aheadB
          rw [ByteArray.size_append]
          have := Lib.itoa_length_le ah (by omega) (by omega)
          have e : (⟨(Lib.itoa ah).toArray⟩ : ByteArray).size = (Lib.itoa ah).length := B_size _
          have e2 : (⟨#[97, 104, 101, 97, 100, 61]⟩ : ByteArray).size = 6 := rfl
          omega)
  have hl : (partsB nm [l1, l2, l3, l4, l5] ah).length ≤ 7 := by
    unfold partsB
    rw [List.length_cons, List.length_append]
    simp only [List.length_cons, List.length_nil] at r1
    split <;> simp <;> omega
  have e : (⟨#[32]⟩ : ByteArray).size = 1 := rfl
  have : (partsB nm [l1, l2, l3, l4, l5] ah).length * (400 + (⟨#[32]⟩ : ByteArray).size) ≤ 7 * 401 := Nat.mul_le_mul hl (by omega)
  omega
theorem itext_ok {nm : ByteArray} {l1 l2 l3 l4 l5 : List S55} {ah : Int} {t : ByteArray} (h : IText.f nm l1 l2 l3 l4 l5 ah = some (t, 0)) : nameOk nm = true ∧ chk 0 [l1, l2, l3, l4, l5] ah = 0 ∧ t = joinB (partsB nm [l1, l2, l3, l4, l5] ah) ⟨#[32]⟩ := by
  unfold IText.f ICheck.f at h
  rw [pname_f, Option.bind_some, Option.bind_some] at h
  have h' := Option.some.inj h
  by_cases hn : nameOk nm = true
  · rw [if_pos hn] at h'
    by_cases hc : chk 0 [l1, l2, l3, l4, l5] ah = 0
    · rw [if_pos hc] at h'
      exact ⟨hn, hc, (congrArg Prod.fst h').symm⟩
    · rw [if_neg hc] at h'
      exact absurd (congrArg Prod.snd h') hc
  · rw [if_neg hn, if_neg (by omega)] at h'
    exact absurd (congrArg Prod.snd h') (by intro h6; cases h6)
theorem itext_ex (nm : ByteArray) (l1 l2 l3 l4 l5 : List S55) (ah : Int) : ∃ t e, IText.f nm l1 l2 l3 l4 l5 ah = some (t, e) := by
  unfold IText.f ICheck.f
  rw [pname_f]
  exact ⟨_, _, rfl⟩
theorem read_text {nm : ByteArray} {l1 l2 l3 l4 l5 : List S55} {ah : Int} {t : ByteArray} (h : IText.f nm l1 l2 l3 l4 l5 ah = some (t, 0)) : IRead.f t = some (nm, l1, l2, l3, l4, l5, ah, 0) := by
  obtain ⟨hn, hc, rfl⟩ := itext_ok h
  unfold IRead.f
  rw [if_pos (text_size nm l1 l2 l3 l4 l5 ah hn hc), rdAll_text nm l1 l2 l3 l4 l5 ah hn hc]
  simp only [h, Option.bind_some, and_self, if_true]
theorem iread_cases (s : ByteArray) (hs : s.size ≤ 1000000) : (∃ nm l1 l2 l3 l4 l5 ah, IRead.f s = some (nm, l1, l2, l3, l4, l5, ah, 0) ∧ IText.f nm l1 l2 l3 l4 l5 ah = some (s, 0)) ∨ (IRead.f s = some (⟨#[]⟩, [], [], [], [], [], 0, 4) ∧ ∀ nm l1 l2 l3 l4 l5 ah, IText.f nm l1 l2 l3 l4 l5 ah ≠ some (s, 0)) := by
  obtain ⟨t, e, ht⟩ := itext_ex (rdAll s).f0 (rdAll s).f1 (rdAll s).f2 (rdAll s).f3 (rdAll s).f4 (rdAll s).f5 (rdAll s).f6
  by_cases h : e = 0 ∧ t = s
  · obtain ⟨rfl, rfl⟩ := h
    refine .inl ⟨_, _, _, _, _, _, _, ?_, ht⟩
    unfold IRead.f
    rw [if_pos hs, ht, Option.bind_some, if_pos ⟨rfl, rfl⟩]
  · have hr : IRead.f s = some (⟨#[]⟩, [], [], [], [], [], 0, 4) := by
      unfold IRead.f
      rw [if_pos hs, ht, Option.bind_some, if_neg h]
    refine .inr ⟨hr, fun nm l1 l2 l3 l4 l5 ah hx => ?_⟩
    have := read_text hx
    rw [hr] at this
    simp at this
end Go.Proofs.YtgipdacenppmdaaGreatDoor.G
