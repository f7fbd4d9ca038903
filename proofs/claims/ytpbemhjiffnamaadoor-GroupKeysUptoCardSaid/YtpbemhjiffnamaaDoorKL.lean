/- GroupKeys: the plain law. -/
import Derived.Test.YtpbemhjiffnamaaDoorP
import Derived.Test.YtpbemhjiffnamaaDoorTO
import Derived.Test.YtpbemhjiffnamaaDoorOpensM
import Derived.Test.YtpbemhjiffnamaaDoorLD
set_option linter.unusedVariables false
set_option linter.unusedSimpArgs false
namespace Go.Proofs.YtpbemhjiffnamaaDoor.G
open Go.RowKit Go.Lib Go.Proofs.YtpbemhjiffnamaaDoorW.PrintWords Go.Proofs.YtpbemhjiffnamaaDoor.P
theorem wrap1' {n i : Nat} (h : i < n) (hn : n ≤ 9223372036854775807) : wrap64 ((i : Int) + 1) = ((i + 1 : Nat) : Int) := by unfold wrap64; omega
/-- What the pairs weigh. -/
def mass (l : List S40) : Nat := (l.map fun x => x.f0.size + 1 + (x.f1.size + 1)).sum
theorem mass_cons (x : S40) (t : List S40) : mass (x :: t) = x.f0.size + 1 + (x.f1.size + 1) + mass t := by simp [mass]
theorem mass_len (l : List S40) : l.length ≤ mass l := by
  induction l with
  | nil => exact Nat.le_refl _
  | cons x t ih => rw [mass_cons, List.length_cons]; omega
theorem mass_mem (l : List S40) : ∀ x ∈ l, x.f0.size + x.f1.size ≤ mass l := by
  induction l with
  | nil => intro x hx; cases hx
  | cons y t ih =>
    intro x hx
    rw [mass_cons]
    rcases List.mem_cons.1 hx with rfl | hx
    · omega
    · have := ih x hx; omega
def pairParts (l : List S40) : List (List Int) := l.flatMap fun x => [textB x.f0, textB x.f1]
theorem pairParts_len (l : List S40) : (pairParts l).length = 2 * l.length := by
  induction l with
  | nil => rfl
  | cons x t ih => simp only [pairParts, List.flatMap_cons, List.length_append, List.length_cons, List.length_nil] at *; omega
theorem pairParts_snoc (l : List S40) (j : Nat) (hj : j < l.length) : pairParts (l.take (j + 1)) = pairParts (l.take j) ++ [textB l[j].f0, textB l[j].f1] := by
  unfold pairParts
  rw [List.take_succ_eq_append_getElem hj, List.flatMap_append]
  simp only [List.flatMap_cons, List.flatMap_nil, List.append_nil]
theorem text_len (s : ByteArray) (h : s.size ≤ 140737488351232) : (textB s).length ≤ s.size + 20 := by
  have := itoa_len s.size (by omega)
  simp only [textB, numB, List.length_append, List.length_map, List.length_singleton, bytesOf_length]
  omega
theorem parts_sum (l : List S40) (h : mass l ≤ 1048576) : sumLen (pairParts l) ≤ 41 * mass l := by
  induction l with
  | nil => exact Nat.le_refl _
  | cons x t ih =>
    rw [mass_cons] at h ⊢
    have h1 := ih (by omega)
    have h2 := text_len x.f0 (by omega)
    have h3 := text_len x.f1 (by omega)
    have e : sumLen (pairParts (x :: t)) = (textB x.f0).length + ((textB x.f1).length + sumLen (pairParts t)) := by simp [sumLen, pairParts]
    rw [e]
    omega
theorem blist_l0 (ps : List (List Int)) (hn : ps.length ≤ 1000000000) (d : Nat) : ∀ (k j : Nat), j + d = ps.length → d < k → 1 + sumLen ps < 140737488355328 → ben_List.l0 k (108 :: (ps.take j).flatten) ps (ps.length : Int) (j : Int) = some (listB ps) := by
  induction d with
  | zero =>
    intro k j h hk hs
    obtain ⟨k, rfl⟩ : ∃ m, k = m + 1 := ⟨k - 1, by omega⟩
    simp only [ben_List.l0]
    have e : ps.take j = ps := List.take_of_length_le (by omega)
    rw [if_neg (by omega), e, if_pos (by rw [List.length_cons, flat_len']; omega)]
    rfl
  | succ d ih =>
    intro k j h hk hs
    obtain ⟨k, rfl⟩ : ∃ m, k = m + 1 := ⟨k - 1, by omega⟩
    simp only [ben_List.l0]
    have hj : j < ps.length := by omega
    have hg : rd_L2 ps (j : Int) = ps[j] := by simp [rd_L2, hj]
    have h1 := sumLen_take ps j hj
    have h2 := sumLen_le ps (j + 1)
    have h3 := flat_take ps j hj
    rw [if_pos (by omega), if_pos (by omega), if_pos (by omega), hg, if_pos (by rw [List.length_cons, flat_len']; omega), wrap1' hj (by omega), List.cons_append, ← h3]
    exact ih k (j + 1) (by omega) (by omega) hs
theorem blist_eq (ps : List (List Int)) (k : Nat) (hn : ps.length ≤ 1000000000) (hs : sumLen ps < 140737488355327) (hk : ps.length < k) : ben_List.f k ps = some (listB ps) :=
  blist_l0 ps hn ps.length k 0 (by omega) hk (by omega)
def keyB (n : Int) (l : List S40) : ByteArray := strOfNums (listB (intB n :: pairParts l))
theorem key_sum (n : Int) (l : List S40) (hl : l.length ≤ 40) (hm : mass l ≤ 1048576) (h0 : -9223372036854775808 ≤ n) (h1 : n ≤ 9223372036854775807) : (intB n :: pairParts l).length ≤ 1000000000 ∧ sumLen (intB n :: pairParts l) < 140737488355327 := by
  have a := parts_sum l hm
  have b : (intB n).length ≤ 22 := by have := itoa_len_any n h0 h1; simp only [intB, numB, List.length_append, List.length_cons, List.length_map, List.length_nil]; omega
  refine ⟨by rw [List.length_cons, pairParts_len]; omega, ?_⟩
  have e : sumLen (intB n :: pairParts l) = (intB n).length + sumLen (pairParts l) := by simp [sumLen]
  rw [e]; omega
theorem rd40_get (l : List S40) (j : Nat) (hj : j < l.length) : rd_T40 l (j : Int) = l[j] := by simp [rd_T40, hj]
theorem gkey_l0 (n : Int) (l : List S40) (hl : l.length ≤ 40) (hm : mass l ≤ 1048576) (h0 : -9223372036854775808 ≤ n) (h1 : n ≤ 9223372036854775807) (d : Nat) : ∀ (k j : Nat), j + d = l.length → d + 2 * l.length + 2 < k →
    group_Key.l0 k (intB n :: pairParts (l.take j)) l (l.length : Int) (j : Int) = some (keyB n l) := by
  have hks := key_sum n l hl hm h0 h1
  induction d with
  | zero =>
    intro k j h hk
    obtain ⟨k, rfl⟩ : ∃ m, k = m + 1 := ⟨k - 1, by omega⟩
    simp only [group_Key.l0]
    have e : l.take j = l := List.take_of_length_le (by omega)
    rw [if_neg (by omega), e, blist_eq _ _ hks.1 hks.2 (by rw [List.length_cons, pairParts_len]; omega)]
    rfl
  | succ d ih =>
    intro k j h hk
    obtain ⟨k, rfl⟩ : ∃ m, k = m + 1 := ⟨k - 1, by omega⟩
    have hj : j < l.length := by omega
    have hx := mass_mem l l[j] (List.getElem_mem hj)
    simp only [group_Key.l0]
    have b0 : BTextG.f l[j].f0 = some (textB l[j].f0) := by unfold BTextG.f; rw [if_pos (by omega)]
    have b1 : BTextG.f l[j].f1 = some (textB l[j].f1) := by unfold BTextG.f; rw [if_pos (by omega)]
    rw [if_pos (by omega), if_pos (by omega), if_pos (by omega), rd40_get l j hj, b0, Option.bind_some, b1, Option.bind_some, Option.bind_some,
      if_pos (by simp only [List.length_cons, List.length_nil, pairParts_len, List.length_take]; omega), wrap1' hj (by omega), List.cons_append, ← pairParts_snoc l j hj]
    exact ih k (j + 1) (by omega) (by omega)
theorem gkey_eq (n : Int) (l : List S40) (hl : l.length ≤ 40) (hm : mass l ≤ 1048576) (h0 : -9223372036854775808 ≤ n) (h1 : n ≤ 9223372036854775807) (k : Nat) (hk : 3 * l.length + 2 < k) : group_Key.f k n l = some (keyB n l) := by
  unfold group_Key.f BIntG.f
  rw [if_pos ⟨h0, h1⟩, Option.bind_some]
  exact gkey_l0 n l hl hm h0 h1 l.length k 0 (by omega) (by omega)
theorem rkey_l0 (n : Int) (l : List S40) (hl : l.length ≤ 40) (hm : mass l ≤ 1048576) (h0 : -9223372036854775808 ≤ n) (h1 : n ≤ 9223372036854775807) (d : Nat) : ∀ (k j : Nat), j + d = l.length → d < k →
    watchfireref08_Key.l0 k l (intB n :: pairParts (l.take j)) (j : Int) = some (keyB n l) := by
  have hks := key_sum n l hl hm h0 h1
  induction d with
  | zero =>
    intro k j h hk
    obtain ⟨k, rfl⟩ : ∃ m, k = m + 1 := ⟨k - 1, by omega⟩
    simp only [watchfireref08_Key.l0]
    have e : l.take j = l := List.take_of_length_le (by omega)
    unfold WListG.f
    rw [if_neg (by omega), e, if_pos hks]
    rfl
  | succ d ih =>
    intro k j h hk
    obtain ⟨k, rfl⟩ : ∃ m, k = m + 1 := ⟨k - 1, by omega⟩
    have hj : j < l.length := by omega
    have hx := mass_mem l l[j] (List.getElem_mem hj)
    simp only [watchfireref08_Key.l0]
    rw [if_pos (by omega), if_pos (by omega), rd40_get l j hj, wtext_eq _ (by omega), Option.bind_some, wtext_eq _ (by omega), Option.bind_some, Option.bind_some,
      if_pos (by simp only [List.length_cons, List.length_nil, pairParts_len, List.length_take]; omega), wrap1' hj (by omega), List.cons_append, ← pairParts_snoc l j hj]
    exact ih k (j + 1) (by omega) (by omega)
theorem rkey_eq (n : Int) (l : List S40) (hl : l.length ≤ 40) (hm : mass l ≤ 1048576) (h0 : -9223372036854775808 ≤ n) (h1 : n ≤ 9223372036854775807) (k : Nat) (hk : l.length < k) : watchfireref08_Key.f k n l = some (keyB n l) := by
  unfold watchfireref08_Key.f
  rw [wint_eq n h0 h1, Option.bind_some]
  exact rkey_l0 n l hl hm h0 h1 l.length k 0 (by omega) (by omega)
theorem awake200 : watchfirelaw08_awake.f 200 = some true := by kernel_rfl
theorem groupKeys_f (n : Int) (l : List S40) (hm : mass l ≤ 1048576) (h0 : -9223372036854775808 ≤ n) (h1 : n ≤ 9223372036854775807) : watchfirelaw08_GroupKeys.f 200 n l = some true := by
  unfold watchfirelaw08_GroupKeys.f
  by_cases hl : (l.length : Int) > 40
  · rw [if_pos hl, awake200]; rfl
  · rw [if_neg hl, gkey_eq n l (by omega) hm h0 h1 _ (by omega), Option.bind_some, rkey_eq n l (by omega) hm h0 h1 _ (by omega), Option.bind_some, if_pos rfl, awake200]
    rfl
theorem groupKeys_walk (n : Int) (A : Option Addr) (c : Nat) (l : List S40) (w : World) (h : Kd.C k40 w A l.length l) (hc : l.length ≤ c) (hT : TabE w) (hm : mass l ≤ 1048576) (h0 : -9223372036854775808 ≤ n) (h1 : n ≤ 9223372036854775807) :
    Calls Tryd.prog 3 #[.int .i64 n, .slice A l.length c] w fun e w' => e = .returned (.bool true) ∧ Below w.heap.size w w' :=
  watchfirelaw08_GroupKeys.calls 200 n A c l true w h hc hT (groupKeys_f n l hm h0 h1)
theorem openPairsM {H : Type} {enc : TypeId × Value → H} {w : World} {base : Nat} {spare : Nat → Bool} {held : Bool} : OpnM.OpensM enc Tryd.prog w base spare held 22 (Kd.slice 40 k40) (fun l => (∀ x ∈ l, x.f0.size ≤ maxLen ∧ x.f1.size ≤ maxLen) ∧ l.length ≤ maxLen) (fun l => mass l + 1) :=
  OpnM.OpensM.slice 40 Tryd.underlying22 (by kernel_rfl)
    (OpnM.OpensM.iso (OpnM.OpensM.struct Tryd.underlying40 (by kernel_rfl) (OpnM.OpTM.cons (off := 1) (OpnM.OpensM.string Tryd.underlying9) (by kernel_rfl) rfl (OpnM.OpTM.one (OpnM.OpensM.string Tryd.underlying9) (by kernel_rfl))))
      (fun x : S40 => (x.f0, x.f1)) (fun p => ⟨p.1, p.2⟩) (fun _ => rfl))
end Go.Proofs.YtpbemhjiffnamaaDoor.G
