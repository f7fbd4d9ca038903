/- LabelKeys: the plain law. -/
import Derived.Test.YtjgommaikaeobaaGreatDoorP
import Derived.Test.YtjgommaikaeobaaGreatDoorKG
import Derived.Test.YtjgommaikaeobaaGreatDoorOpensM
import Derived.Test.YtjgommaikaeobaaGreatDoorTD
set_option linter.unusedVariables false
set_option linter.unusedSimpArgs false
namespace Go.Proofs.YtjgommaikaeobaaGreatDoor.G
open Go.RowKit Go.Shelf Go.Lib Go.Proofs.YtjgommaikaeobaaGreatDoorW.PrintWords Go.Proofs.YtjgommaikaeobaaGreatDoor.P Go.Proofs.YtjgommaikaeobaaGreatDoor.L Go.Proofs.YtjgommaikaeobaaGreatDoor.RD
theorem wrap1' {n i : Nat} (h : i < n) (hn : n ≤ 9223372036854775807) : wrap64 ((i : Int) + 1) = ((i + 1 : Nat) : Int) := by unfold wrap64; omega
theorem blist_l0 (ps : List (List Int)) (hn : ps.length ≤ 1000000000) (d : Nat) : ∀ (k j : Nat), j + d = ps.length → d < k → 1 + sumLen ps < 140737488355328 → ben_List.l0 k (108 :: (ps.take j).flatten) ps (ps.length : Int) (j : Int) = some (listB ps) := by
  induction d with
  | zero =>
    intro k j h hk hs
    obtain ⟨k, rfl⟩ : ∃ m, k = m + 1 := ⟨k - 1, by omega⟩
    simp only [ben_List.l0]
    have e : ps.take j = ps := List.take_of_length_le (by omega)
    rw [if_neg (by omega), e, if_pos (by rw [List.length_cons, flat_len']; omega)]
    rfl
  | succ d ih =>
    intro k j h hk hs
    obtain ⟨k, rfl⟩ : ∃ m, k = m + 1 := ⟨k - 1, by omega⟩
    simp only [ben_List.l0]
    have hj : j < ps.length := by omega
    have hg : rd_L5 ps (j : Int) = ps[j] := by simp [rd_L5, hj]
    have h1 := sumLen_take ps j hj
    have h2 := sumLen_le ps (j + 1)
    have h3 := flat_take ps j hj
    rw [if_pos (by omega), if_pos (by omega), if_pos (by omega), hg, if_pos (by rw [List.length_cons, flat_len']; omega), wrap1' hj (by omega), List.cons_append, ← h3]
    exact ih k (j + 1) (by omega) (by omega) hs
theorem blist_eq (ps : List (List Int)) (k : Nat) (hn : ps.length ≤ 1000000000) (hs : sumLen ps < 140737488355327) (hk : ps.length < k) : ben_List.f k ps = some (listB ps) :=
  blist_l0 ps hn ps.length k 0 (by omega) hk (by omega)
theorem key_l0 (l : List S37) (hm : mass l ≤ 1048576) (d : Nat) : ∀ (k j : Nat), j + d = l.length → d + 2 * l.length + 2 < k → label_Key.l0 k (partsK (l.take j)) l (l.length : Int) (j : Int) = some (keyS l) := by
  have hlen := mass_len l
  have hfit := parts_fit l hm
  induction d with
  | zero =>
    intro k j h hk
    obtain ⟨k, rfl⟩ : ∃ m, k = m + 1 := ⟨k - 1, by omega⟩
    simp only [label_Key.l0]
    have e : l.take j = l := List.take_of_length_le (by omega)
    rw [if_neg (by omega), e, blist_eq _ _ hfit.1 hfit.2 (by rw [partsK_len]; omega)]
    rfl
  | succ d ih =>
    intro k j h hk
    obtain ⟨k, rfl⟩ : ∃ m, k = m + 1 := ⟨k - 1, by omega⟩
    have hj : j < l.length := by omega
    have hx := mass_mem (List.getElem_mem hj)
    unfold muP at hx
    have b0 : BTextG.f l[j].f0 = some (textB l[j].f0) := by unfold BTextG.f; rw [if_pos (by omega)]
    have b1 : BTextG.f l[j].f1 = some (textB l[j].f1) := by unfold BTextG.f; rw [if_pos (by omega)]
    simp only [label_Key.l0]
    rw [if_pos (by omega), if_pos (by omega), if_pos (by omega), rd35_get l j hj, b0, Option.bind_some, b1, Option.bind_some, Option.bind_some,
      if_pos (by simp only [List.length_cons, List.length_nil, partsK_len, List.length_take]; omega), wrap1' hj (by omega), ← partsK_snoc l j hj]
    exact ih k (j + 1) (by omega) (by omega)
theorem key_f (l : List S37) (hm : mass l ≤ 1048576) (k : Nat) (hk : 3 * l.length + 2 < k) : label_Key.f k l = some (keyS l) := by
  have := key_l0 l hm l.length k 0 (by omega) (by omega)
  rw [Int.natCast_zero] at this
  unfold label_Key.f
  simpa [partsK] using this
/-! ### Same -/
def sameP (a b : List S37) : Bool := decide (a = b)
theorem pair_ne (x y : S37) : (!((x.f0.toList) == (y.f0.toList)) || (!((x.f1.toList) == (y.f1.toList)))) = !decide (x = y) := by
  by_cases h : x = y
  · subst h; simp
  · have : ¬ (x.f0 = y.f0 ∧ x.f1 = y.f1) := fun h2 => h (spair_ext.2 h2)
    rw [decide_eq_false h]
    by_cases h0 : x.f0 = y.f0
    · have h1 : ¬ x.f1 = y.f1 := fun h1 => this ⟨h0, h1⟩
      have : (x.f1.toList == y.f1.toList) = false := beq_eq_false_iff_ne.2 (fun h => h1 (ba_inj h))
      rw [this]; simp
    · have : (x.f0.toList == y.f0.toList) = false := beq_eq_false_iff_ne.2 (fun h => h0 (ba_inj h))
      rw [this]; simp
theorem wsame_l0 (a b : List S37) (hl : a.length = b.length) (hm : a.length ≤ 9223372036854775807) (d : Nat) : ∀ (k j : Nat), j + d = a.length → d < k → watchfireref02_Same.l0 k a b (j : Int) = some (decide (a.drop j = b.drop j)) := by
  induction d with
  | zero =>
    intro k j h hk
    obtain ⟨k, rfl⟩ : ∃ m, k = m + 1 := ⟨k - 1, by omega⟩
    simp only [watchfireref02_Same.l0]
    rw [if_neg (by omega), List.drop_of_length_le (by omega), List.drop_of_length_le (by omega)]
    simp
  | succ d ih =>
    intro k j h hk
    obtain ⟨k, rfl⟩ : ∃ m, k = m + 1 := ⟨k - 1, by omega⟩
    have hj : j < a.length := by omega
    have hj2 : j < b.length := by omega
    simp only [watchfireref02_Same.l0]
    rw [if_pos (by omega), if_pos (by omega), if_pos (by omega), rd35_get a j hj, rd35_get b j hj2, pair_ne, wrap1' hj hm, ih k (j + 1) (by omega) (by omega), List.drop_eq_getElem_cons hj, List.drop_eq_getElem_cons hj2]
    by_cases e : a[j] = b[j]
    · rw [decide_eq_true e]
      simp only [Bool.not_true, Bool.false_eq_true, if_false]
      congr 1
      rw [decide_eq_decide, e]
      exact ⟨fun h => by rw [h], fun h => by injection h⟩
    · rw [decide_eq_false e]
      simp only [Bool.not_false, if_true]
      congr 1
      symm
      exact decide_eq_false (fun h => e (by injection h))
theorem wsame_f (a b : List S37) (hm : a.length ≤ 9223372036854775807) (k : Nat) (hk : a.length < k) : watchfireref02_Same.f k a b = some (sameP a b) := by
  unfold watchfireref02_Same.f sameP
  by_cases hl : a.length = b.length
  · rw [if_pos (by omega)]
    have := wsame_l0 a b hl hm a.length k 0 (by omega) hk
    simpa using this
  · rw [if_neg (by omega), decide_eq_false (fun h => hl (by rw [h]))]
theorem psame_l0 (a b : List S37) (hl : a.length = b.length) (hm : a.length ≤ 9223372036854775807) (d : Nat) : ∀ (k j : Nat), j + d = a.length → d < k → api_Pair.l0 k a b (a.length : Int) (j : Int) = some (decide (a.drop j = b.drop j)) := by
  induction d with
  | zero =>
    intro k j h hk
    obtain ⟨k, rfl⟩ : ∃ m, k = m + 1 := ⟨k - 1, by omega⟩
    simp only [api_Pair.l0]
    rw [if_neg (by omega), List.drop_of_length_le (by omega), List.drop_of_length_le (by omega)]
    simp
  | succ d ih =>
    intro k j h hk
    obtain ⟨k, rfl⟩ : ∃ m, k = m + 1 := ⟨k - 1, by omega⟩
    have hj : j < a.length := by omega
    have hj2 : j < b.length := by omega
    simp only [api_Pair.l0]
    rw [if_pos (by omega), if_pos (by omega), if_pos (by omega), if_pos (by omega), rd35_get a j hj, rd35_get b j hj2, pair_ne, wrap1' hj hm, ih k (j + 1) (by omega) (by omega), List.drop_eq_getElem_cons hj, List.drop_eq_getElem_cons hj2]
    by_cases e : a[j] = b[j]
    · rw [decide_eq_true e]
      simp only [Bool.not_true, Bool.false_eq_true, if_false]
      congr 1
      rw [decide_eq_decide, e]
      exact ⟨fun h => by rw [h], fun h => by injection h⟩
    · rw [decide_eq_false e]
      simp only [Bool.not_false, if_true]
      congr 1
      symm
      exact decide_eq_false (fun h => e (by injection h))
theorem lsame_f (a b : List S37) (hm : a.length ≤ 9223372036854775807) (k : Nat) (hk : a.length < k) : label_Same.f k a b = some (sameP a b) := by
  unfold label_Same.f api_Pair.f sameP
  by_cases hl : a.length = b.length
  · rw [if_pos (by omega)]
    have := psame_l0 a b hl hm a.length k 0 (by omega) hk
    rw [Int.natCast_zero] at this
    rw [this]
    simp
  · rw [if_neg (by omega), decide_eq_false (fun h => hl (by rw [h]))]
    rfl
theorem awake40 : watchfirelaw02_awake.f 40 = some true := by kernel_rfl
theorem awake_f (k : Nat) (hk : 40 ≤ k) : watchfirelaw02_awake.f k = some true := by
  obtain ⟨d, rfl⟩ : ∃ d, k = 40 + d := ⟨k - 40, by omega⟩
  clear hk
  induction d with
  | zero => exact awake40
  | succ d ih => exact watchfirelaw02_awake.mono (40 + d) _ ih
theorem labelKeys_pure (l m : List S37) (s : ByteArray) (hl : mass l ≤ 1048576) (hm : mass m ≤ 1048576) (hs : s.size ≤ 140737488351232) : ∃ k, watchfirelaw02_LabelKeys.f k l m s = some true := by
  refine ⟨3 * l.length + 100, ?_⟩
  have h1 := mass_len l
  have hL : LRead.f s = some (readB (bytesOf s)) := by unfold LRead.f; rw [if_pos hs]
  have hW : WRead.f s = some (readB (bytesOf s)) := by unfold WRead.f; rw [if_pos hs]
  have hK : WKey.f l = some (keyS l) := by unfold WKey.f; rw [if_pos hl]
  have hR : (readB (bytesOf s)).1.length < 3 * l.length + 100 := by
    rcases read_back (bytesOf s) (bytesOf_range s) with ⟨_, _, h3⟩ | h4
    · have := (check_fits h3).1; omega
    · rw [h4]; simp
  have hsm : ∀ x : List S37, sameP x x = true := fun x => by simp [sameP]
  unfold watchfirelaw02_LabelKeys.f
  rw [hL, Option.bind_some, hW, Option.bind_some, key_f l hl _ (by omega), Option.bind_some, hK, Option.bind_some, if_pos rfl,
    wsame_f _ _ (by omega) _ hR, Option.bind_some, hsm, if_pos rfl, if_pos rfl, lsame_f l m (by omega) _ (by omega), Option.bind_some, wsame_f l m (by omega) _ (by omega), Option.bind_some, if_pos (by simp), awake_f _ (by omega)]
  rfl
theorem labelKeys_walk (A : Option Addr) (c : Nat) (l : List S37) (B : Option Addr) (q : Nat) (m : List S37) (s : ByteArray) (w : World) (h : Kd.C k37 w A l.length l) (hc : l.length ≤ c) (h1 : Kd.C k37 w B m.length m) (hc1 : m.length ≤ q) (hT : TabE w) (hl : mass l ≤ 1048576) (hm : mass m ≤ 1048576) (hs : s.size ≤ 140737488351232) :
    Calls Tryz.prog 3 #[.slice A l.length c, .slice B m.length q, .string s] w fun e w' => e = .returned (.bool true) ∧ Below w.heap.size w w' := by
  obtain ⟨k, hk⟩ := labelKeys_pure l m s hl hm hs
  exact watchfirelaw02_LabelKeys.calls k A c l B q m s true w h hc h1 hc1 hT hk
end Go.Proofs.YtjgommaikaeobaaGreatDoor.G
namespace Go.Proofs.YtjgommaikaeobaaGreatDoor.G
open Go.RowKit Go.Shelf Go.Lib Go.Proofs.YtjgommaikaeobaaGreatDoorW.PrintWords Go.Proofs.YtjgommaikaeobaaGreatDoor.P
theorem openPairsM {H : Type} {enc : TypeId × Value → H} {w : World} {base : Nat} {spare : Nat → Bool} {held : Bool} : OpnM.OpensM enc Tryz.prog w base spare held 22 (Kd.slice 37 k37) (fun l => (∀ x ∈ l, x.f0.size ≤ maxLen ∧ x.f1.size ≤ maxLen) ∧ l.length ≤ maxLen) (fun l => mass l + 1) :=
  OpnM.OpensM.slice 37 Tryz.underlying22 (by kernel_rfl)
    (OpnM.OpensM.iso (OpnM.OpensM.struct Tryz.underlying37 (by kernel_rfl) (OpnM.OpTM.cons (off := 1) (OpnM.OpensM.string Tryz.underlying9) (by kernel_rfl) rfl (OpnM.OpTM.one (OpnM.OpensM.string Tryz.underlying9) (by kernel_rfl))))
      (fun x : S37 => (x.f0, x.f1)) (fun p => ⟨p.1, p.2⟩) (fun _ => rfl))
end Go.Proofs.YtjgommaikaeobaaGreatDoor.G
