/- The document's Sort, told plainly: by strictly rising names, or 7 where two names are one. -/
import Derived.Test.YtjgommaikaeobaaDoorLC
import Derived.Test.YtjgommaikaeobaaDoorLS
import Derived.Test.YtjgommaikaeobaaDoorLG
set_option linter.unusedVariables false
set_option linter.unusedSimpArgs false
namespace Go.Proofs.YtjgommaikaeobaaDoor.L
open Go.RowKit Go.Shelf Go.Lib Go.Proofs.YtjgommaikaeobaaDoorW.PrintWords Go.Proofs.YtjgommaikaeobaaDoor.PLabelSorts Go.Proofs.YtjgommaikaeobaaDoor.R

theorem bl_ltN (x y : S35) : Op.bytesLess x.f0.toList y.f0.toList = ltN x y := by
  rw [bless]; unfold ltN; rw [ByteArray.toList_eq, ByteArray.toList_eq]
theorem ltN_total {x y : S35} (h : ltN x y = false) (hne : ¬ x.f0.toList = y.f0.toList) : ltN y x = true := by
  unfold ltN at *
  rw [decide_eq_false_iff_not] at h
  rw [decide_eq_true_eq]
  rw [ByteArray.toList_eq, ByteArray.toList_eq] at hne
  rcases List.le_iff_lt_or_eq.1 (List.not_lt.1 h) with h3 | h3
  · exact h3
  · exact absurd h3.symm hne
theorem wsort_l1 (l out : List S35) (i : Nat) (hi : i < l.length) (hl : l.length ≤ 8) (ho : out.length ≤ 8) (d : Nat) : ∀ (k j : Nat), j + d = out.length → d < k → (∀ m (h : m < out.length), m < j → ltN out[m] l[i] = true) →
    ∃ k' j', k ≤ k' + (d + 1) ∧ j' ≤ out.length ∧ (∀ m (h : m < out.length), m < j' → ltN out[m] l[i] = true) ∧
      ((∃ h : j' < out.length, out[j'].f0.toList = l[i].f0.toList ∧ WSort.l1 k l out (i : Int) (j : Int) = some ([], 7)) ∨
       ((∀ h : j' < out.length, ltN l[i] out[j'] = true) ∧ WSort.l1 k l out (i : Int) (j : Int) = WSort.l0 k' l (out.take j' ++ [l[i]] ++ out.drop j') ((i + 1 : Nat) : Int))) := by
  induction d with
  | zero =>
    intro k j h hk hlt
    obtain ⟨k, rfl⟩ : ∃ m, k = m + 1 := ⟨k - 1, by omega⟩
    refine ⟨k, j, by omega, by omega, hlt, .inr ⟨fun h' => by omega, ?_⟩⟩
    simp only [WSort.l1]
    rw [if_neg (by omega), if_pos (by omega), if_pos (by omega)]
    simp only [Option.bind_some, List.length_nil, List.nil_append, Int.toNat_natCast]
    have h1 : (out.take j).length ≤ 8 := by rw [List.length_take]; omega
    have h2 : (out.drop j).length ≤ 8 := by rw [List.length_drop]; omega
    rw [if_pos (by omega), if_pos (by omega), if_pos (by omega), if_pos (by simp; omega), if_pos (by simp; omega), rd35_get l i hi, wrap1 (n := l.length) (by omega) (by omega) (by omega), cast1]
  | succ d ih =>
    intro k j h hk hlt
    obtain ⟨k, rfl⟩ : ∃ m, k = m + 1 := ⟨k - 1, by omega⟩
    have hj : j < out.length := by omega
    by_cases hb : ltN out[j] l[i] = true
    · obtain ⟨k', j', h1, h2, h3, h4⟩ := ih k (j + 1) (by omega) (by omega) (fun m hm hmj => by
        rcases Nat.lt_or_ge m j with h' | h'
        · exact hlt m hm h'
        · obtain rfl : m = j := by omega
          exact hb)
      have e : WSort.l1 (k + 1) l out (i : Int) (j : Int) = WSort.l1 k l out (i : Int) ((j + 1 : Nat) : Int) := by
        simp only [WSort.l1]
        rw [if_pos (by omega), if_pos (by omega), if_pos (by omega), if_pos (by omega), rd35_get out j hj, rd35_get l i hi, bl_ltN, if_pos hb, wrap1 (n := out.length) (by omega) (by omega) (by omega), cast1]
      refine ⟨k', j', by omega, h2, h3, ?_⟩
      rw [e]
      exact h4
    · have hb' : ltN out[j] l[i] = false := by simpa using hb
      by_cases he : out[j].f0.toList = l[i].f0.toList
      · refine ⟨k, j, by omega, by omega, hlt, .inl ⟨hj, he, ?_⟩⟩
        simp only [WSort.l1]
        rw [if_pos (by omega), if_pos (by omega), if_pos (by omega), if_pos (by omega), rd35_get out j hj, rd35_get l i hi, bl_ltN, if_neg hb, if_pos he]
      · refine ⟨k, j, by omega, by omega, hlt, .inr ⟨fun _ => ltN_total hb' he, ?_⟩⟩
        simp only [WSort.l1]
        rw [if_pos (by omega), if_pos (by omega), if_pos (by omega), if_pos (by omega), rd35_get out j hj, rd35_get l i hi, bl_ltN, if_neg hb, if_neg he, if_pos (by omega)]
        simp only [Option.bind_some, List.length_nil, List.nil_append, Int.toNat_natCast]
        have h1 : (out.take j).length ≤ 8 := by rw [List.length_take]; omega
        have h2 : (out.drop j).length ≤ 8 := by rw [List.length_drop]; omega
        rw [if_pos (by omega), if_pos (by simp; omega), if_pos (by simp; omega), wrap1 (n := l.length) (by omega) (by omega) (by omega), cast1]
end Go.Proofs.YtjgommaikaeobaaDoor.L

namespace Go.Proofs.YtjgommaikaeobaaDoor.L
open Go.RowKit Go.Shelf Go.Lib Go.Proofs.YtjgommaikaeobaaDoorW.PrintWords Go.Proofs.YtjgommaikaeobaaDoor.PLabelSorts Go.Proofs.YtjgommaikaeobaaDoor.R

theorem ltN_trans {x y z : S35} (h : ltN x y = true) (h' : ltN y z = true) : ltN x z = true := by
  unfold ltN at *
  rw [decide_eq_true_eq] at *
  exact List.lt_trans h h'
def nm (x : S35) : List UInt8 := x.f0.toList
def SortedE (l L : List S35) (c : Int) : Prop :=
  (c = 0 ∧ L.Pairwise (fun x y => ltN x y = true) ∧ L.Perm l) ∨ (c = 7 ∧ L = [] ∧ ¬ (l.map nm).Nodup)
theorem wsort_l0 (l : List S35) (hl : l.length ≤ 8) (d : Nat) : ∀ (k i : Nat) (out : List S35), i + d = l.length → d * 10 < k → out.length = i →
    out.Pairwise (fun x y => ltN x y = true) → out.Perm (l.take i) → ∃ L c, WSort.l0 k l out (i : Int) = some (L, c) ∧ SortedE l L c := by
  induction d with
  | zero =>
    intro k i out hi hk ho hp hm
    obtain ⟨k, rfl⟩ : ∃ m, k = m + 1 := ⟨k - 1, by omega⟩
    refine ⟨out, 0, ?_, .inl ⟨rfl, hp, ?_⟩⟩
    · simp only [WSort.l0]
      rw [if_neg (by omega)]
    · have e : l.take i = l := List.take_of_length_le (by omega)
      rwa [e] at hm
  | succ d ih =>
    intro k i out hi hk ho hp hm
    obtain ⟨k, rfl⟩ : ∃ m, k = m + 1 := ⟨k - 1, by omega⟩
    have hil : i < l.length := by omega
    obtain ⟨k', j', h1, h2, h3, h4⟩ := wsort_l1 l out i hil hl (by omega) out.length k 0 (by omega) (by omega) (fun m _ h => absurd h (by omega))
    have e0 : WSort.l0 (k + 1) l out (i : Int) = WSort.l1 k l out (i : Int) ((0 : Nat) : Int) := by
      simp only [WSort.l0]
      rw [if_pos (by omega)]
      rfl
    have e : l = l.take i ++ l[i] :: l.drop (i + 1) := by rw [← List.drop_eq_getElem_cons hil, List.take_append_drop]
    rcases h4 with ⟨hj, he, hr⟩ | ⟨hlt, hr⟩
    · refine ⟨[], 7, e0.trans hr, .inr ⟨rfl, rfl, fun hn => ?_⟩⟩
      have hmem : out[j'] ∈ l.take i := hm.mem_iff.1 (List.getElem_mem hj)
      have hn' : ((l.take i ++ l[i] :: l.drop (i + 1)).map nm).Nodup := by rw [← e]; exact hn
      rw [List.map_append, List.nodup_append] at hn'
      obtain ⟨_, _, hd⟩ := hn'
      exact hd _ (List.mem_map_of_mem hmem) _ (by rw [List.map_cons]; exact List.mem_cons_self) he
    · have hpp : (out.take j' ++ out.drop j').Pairwise (fun x y => ltN x y = true) := by rw [List.take_append_drop]; exact hp
      rw [List.pairwise_append] at hpp
      obtain ⟨p1, p2, p3⟩ := hpp
      have ht : ∀ x ∈ out.take j', ltN x l[i] = true := by
        intro x hx
        obtain ⟨m, hm', rfl⟩ := List.mem_iff_getElem.1 hx
        rw [List.length_take] at hm'
        rw [List.getElem_take]
        exact h3 m (by omega) (by omega)
      have hd : ∀ x ∈ out.drop j', ltN l[i] x = true := by
        intro x hx
        by_cases hj : j' < out.length
        · have hf := hlt hj
          rw [List.drop_eq_getElem_cons hj] at hx p2
          rcases List.mem_cons.1 hx with rfl | hx
          · exact hf
          · exact ltN_trans hf ((List.pairwise_cons.1 p2).1 x hx)
        · rw [List.drop_eq_nil_of_le (by omega)] at hx
          exact absurd hx (by simp)
      have hpw : (out.take j' ++ [l[i]] ++ out.drop j').Pairwise (fun x y => ltN x y = true) := by
        rw [List.append_assoc, List.pairwise_append]
        refine ⟨p1, ?_, ?_⟩
        · rw [List.singleton_append, List.pairwise_cons]
          exact ⟨hd, p2⟩
        · intro x hx y hy
          rw [List.singleton_append] at hy
          rcases List.mem_cons.1 hy with rfl | hy
          · exact ht x hx
          · exact p3 x hx y hy
      have hpm : (out.take j' ++ [l[i]] ++ out.drop j').Perm (l.take (i + 1)) := by
        have q1 : (out.take j' ++ [l[i]] ++ out.drop j').Perm (l[i] :: out) := by
          rw [List.append_assoc, List.singleton_append]
          refine List.perm_middle.trans ?_
          rw [List.take_append_drop]
        refine q1.trans ?_
        have q2 : l.take (i + 1) = l.take i ++ [l[i]] := by rw [List.take_succ_eq_append_getElem hil]
        rw [q2]
        exact (hm.cons _).trans (List.perm_append_singleton _ _).symm
      obtain ⟨L, c, hL, hc⟩ := ih k' (i + 1) _ (by omega) (by omega) (by simp only [List.length_append, List.length_take, List.length_drop, List.length_cons, List.length_nil]; omega) hpw hpm
      exact ⟨L, c, e0.trans (hr.trans hL), hc⟩
theorem wsort_f (l : List S35) (hf : Fit l) : ∃ k L c, WSort.f k l = some (L, c) ∧ ((partsE l = 0 ∧ SortedE l L c) ∨ (partsE l ≠ 0 ∧ L = [] ∧ c = partsE l)) := by
  obtain ⟨k, hk⟩ := wparts_f l hf
  by_cases hp : partsE l = 0
  · have hl8 := parts_le hp
    have mono : ∀ n, Wparts.f (k + n) l = some (partsE l) := by
      intro n
      induction n with
      | zero => exact hk
      | succ n ih => exact Wparts.mono l (k + n) _ ih
    obtain ⟨n, hn⟩ : ∃ n, n = k + 100 := ⟨_, rfl⟩
    have hw : Wparts.f n l = some 0 := by rw [hn, mono, hp]
    have hn8 : l.length * 10 < n := by omega
    clear mono hk hn
    obtain ⟨L, c, h1, h2⟩ := wsort_l0 l hl8 l.length n 0 [] (Nat.zero_add _) hn8 rfl List.Pairwise.nil (by rw [List.take_zero])
    refine ⟨n, L, c, ?_, .inl ⟨hp, h2⟩⟩
    unfold WSort.f
    rw [hw, Option.bind_some, if_pos rfl]
    rw [Int.natCast_zero] at h1
    exact h1
  · refine ⟨k, [], partsE l, ?_, .inr ⟨hp, rfl, rfl⟩⟩
    unfold WSort.f
    rw [hk, Option.bind_some, if_neg hp]
end Go.Proofs.YtjgommaikaeobaaDoor.L

namespace Go.Proofs.YtjgommaikaeobaaDoor.L
open Go.RowKit Go.Shelf Go.Lib Go.Proofs.YtjgommaikaeobaaDoorW.PrintWords Go.Proofs.YtjgommaikaeobaaDoor.PLabelSorts Go.Proofs.YtjgommaikaeobaaDoor.R

theorem wsort_any (A : Option Addr) (c : Nat) (l : List S35) (w : World) (hc : Kd.C k35 w A l.length l) (hcap : l.length ≤ c) (hf : Fit l) :
    Calls Tryd.prog 15 #[.slice A l.length c] w fun e w' => ∃ (L : List S35) (r : Int), ((partsE l = 0 ∧ SortedE l L r) ∨ (partsE l ≠ 0 ∧ L = [] ∧ r = partsE l)) ∧
      ∃ v : Value, e = .returned (.tuple #[v, .int .i64 r]) ∧ Kd.R k35 35 w' w.heap.size (fun _ => True) v L ∧ Below w.heap.size w w' := by
  obtain ⟨k, L, r, hk, h⟩ := wsort_f l hf
  exact (WSort.calls k A c l L r w hc hcap hk).mono fun e w' h' => ⟨L, r, h, h'⟩
theorem ltN_irrefl (x : S35) : ltN x x = false := by
  unfold ltN
  rw [decide_eq_false_iff_not]
  exact List.lt_irrefl _
theorem ltN_asymm {x y : S35} (h : ltN x y = true) (h' : ltN y x = true) : False := by
  have := ltN_trans h h'
  rw [ltN_irrefl] at this
  exact absurd this (by simp)
theorem strict_one : ∀ (L L' : List S35), L.Pairwise (fun x y => ltN x y = true) → L'.Pairwise (fun x y => ltN x y = true) → L.Perm L' → L = L' := by
  intro L
  induction L with
  | nil => intro L' _ _ h; exact (List.Perm.nil_eq h)
  | cons a L ih =>
    intro L' h h' hp
    cases L' with
    | nil => exact absurd hp.symm.nil_eq (by simp)
    | cons b L' =>
      have hab : a = b := by
        rcases List.mem_cons.1 (hp.mem_iff.1 (List.mem_cons_self : a ∈ a :: L)) with e | hm
        · exact e
        · rcases List.mem_cons.1 (hp.mem_iff.2 (List.mem_cons_self : b ∈ b :: L')) with e | hm'
          · exact e.symm
          · exact (ltN_asymm ((List.pairwise_cons.1 h').1 a hm) ((List.pairwise_cons.1 h).1 b hm')).elim
      subst hab
      rw [ih L' (List.pairwise_cons.1 h).2 (List.pairwise_cons.1 h').2 hp.cons_inv]
theorem strict_nodup {L : List S35} (h : L.Pairwise (fun x y => ltN x y = true)) : (L.map nm).Nodup := by
  unfold List.Nodup
  rw [List.pairwise_map]
  refine h.imp fun {x y} hxy e => ?_
  unfold nm at e
  rw [ByteArray.toList_eq, ByteArray.toList_eq] at e
  unfold ltN at hxy
  rw [decide_eq_true_eq, e] at hxy
  exact List.lt_irrefl _ hxy
theorem strict_of_nodup {L : List S35} (h : SortedN L) (hn : (L.map nm).Nodup) : L.Pairwise (fun x y => ltN x y = true) := by
  unfold List.Nodup at hn
  rw [List.pairwise_map] at hn
  exact (h.and hn).imp fun {x y} ⟨h1, h2⟩ => ltN_total h1 (fun e => h2 e.symm)
end Go.Proofs.YtjgommaikaeobaaDoor.L

namespace Go.Proofs.YtjgommaikaeobaaDoor.L
open Go.RowKit Go.Shelf Go.Lib Go.Proofs.YtjgommaikaeobaaDoorW.PrintWords Go.Proofs.YtjgommaikaeobaaDoor.PLabelSorts Go.Proofs.YtjgommaikaeobaaDoor.R

theorem allF_iff (g : Nat → Bool) : ∀ (d j : Nat), allF g j d = true ↔ ∀ i, j ≤ i → i < j + d → g i = true := by
  intro d
  induction d with
  | zero => intro j; simp only [allF, true_iff]; intro i h1 h2; omega
  | succ d ih =>
    intro j
    rw [allF, Bool.and_eq_true, ih]
    constructor
    · rintro ⟨h1, h2⟩ i hi1 hi2
      by_cases e : i = j
      · rw [e]; exact h1
      · exact h2 i (by omega) (by omega)
    · intro h
      exact ⟨h j (by omega) (by omega), fun i h1 h2 => h i (by omega) (by omega)⟩
theorem rises_iff (L : List S35) : risesB L = true ↔ ∀ i (h : i + 1 < L.length), ltN L[i] L[i + 1] = true := by
  unfold risesB
  rw [allF_iff]
  constructor
  · intro h i hi
    have := h (i + 1) (by omega) (by omega)
    unfold gR at this
    rw [decide_eq_false (by omega), Bool.false_or] at this
    have e : (((i + 1 : Nat) : Int) - 1) = (i : Int) := by omega
    rw [e, rd35_get L i (by omega), rd35_get L (i + 1) hi] at this
    exact this
  · intro h i _ hi
    unfold gR
    cases i with
    | zero => rfl
    | succ i =>
      rw [decide_eq_false (by omega), Bool.false_or]
      have e : (((i + 1 : Nat) : Int) - 1) = (i : Int) := by omega
      rw [e, rd35_get L i (by omega), rd35_get L (i + 1) (by omega)]
      exact h i (by omega)
theorem rises_strict {L : List S35} (h : risesB L = true) : L.Pairwise (fun x y => ltN x y = true) := by
  rw [rises_iff] at h
  rw [List.pairwise_iff_getElem]
  intro i j hi hj hij
  obtain ⟨d, rfl⟩ : ∃ d, j = i + 1 + d := ⟨j - (i + 1), by omega⟩
  clear hij
  induction d with
  | zero => exact h i hj
  | succ d ih => exact ltN_trans (ih (by omega)) (h (i + 1 + d) hj)
theorem strict_rises {L : List S35} (h : L.Pairwise (fun x y => ltN x y = true)) : risesB L = true := by
  rw [rises_iff]
  intro i hi
  exact List.pairwise_iff_getElem.1 h i (i + 1) (by omega) hi (by omega)
/-- The program's sorted copy and the document's answer agree. -/
theorem sorts_agree {l l' L : List S35} {c : Int} (hp : l'.Perm l) (hs : SortedN l') (h : SortedE l L c) :
    (risesB l' = true ∧ c = 0 ∧ L = l') ∨ (risesB l' = false ∧ c = 7 ∧ L = []) := by
  rcases h with ⟨rfl, hL, hLp⟩ | ⟨rfl, rfl, hn⟩
  · have hn : (l'.map nm).Nodup := (((hLp.trans hp.symm).map nm).nodup_iff).1 (strict_nodup hL)
    have hst := strict_of_nodup hs hn
    exact .inl ⟨strict_rises hst, rfl, strict_one L l' hL hst (hLp.trans hp.symm)⟩
  · refine .inr ⟨?_, rfl, rfl⟩
    cases hr : risesB l' with
    | false => rfl
    | true => exact absurd (((hp.map nm).nodup_iff).1 (strict_nodup (rises_strict hr))) hn
end Go.Proofs.YtjgommaikaeobaaDoor.L

namespace Go.Proofs.YtjgommaikaeobaaDoor.L
open Go.RowKit Go.Shelf Go.Lib Go.Proofs.YtjgommaikaeobaaDoorW.PrintWords Go.Proofs.YtjgommaikaeobaaDoor.PLabelSorts Go.Proofs.YtjgommaikaeobaaDoor.R
theorem clone_nil (n c : Nat) (w : World) : Calls Tryd.prog 27 #[.slice none n c] w fun e w' => e = .returned (.slice none 0 0) ∧ w' = w :=
  AnyE.slices_Clone_nil Tryd.layCl n c w
end Go.Proofs.YtjgommaikaeobaaDoor.L

namespace Go.Proofs.YtjgommaikaeobaaDoor.L
open Go.RowKit Go.Shelf Go.Lib Go.Proofs.YtjgommaikaeobaaDoorW.PrintWords Go.Proofs.YtjgommaikaeobaaDoor.PLabelSorts Go.Proofs.YtjgommaikaeobaaDoor.R
theorem sortFunc_nil (w : World) : Calls Tryd.prog 28 #[.slice none 0 0, .func (.func 25) #[] #[]] w fun e w' => e = .returned (.tuple #[]) ∧ w' = w :=
  AnyF.slices_SortFunc_none Tryd.laySF none 0 _ w
set_option maxHeartbeats 1000000 in
theorem sort_nil (c : Nat) (w : World) (h : Kd.C k35 w none 0 []) :
    Calls Tryd.prog 14 #[.slice none 0 c] w fun e w' => e = .returned (.tuple #[.slice none 0 0, .int .i64 0]) ∧ Below w.heap.size w w' := by
  have H1 := Aside0.mk (parts_any none c [] w h)
  have hp : partsE [] = 0 := by decide
  have HC := Aside0.mk h
  have hce : checkE [] = 0 := by decide
  rw [hp] at H1
  clear hp h
  have HK := Aside0.mk hce
  clear hce
  go_enter Tryd.func14, Tryd.ntmps14
  go_wp2_with (fail)
  refine H1.out.mono ?_
  rintro e w1 ⟨rfl, hb⟩
  have HB1 := Aside0.mk hb
  have HC1 := Aside0.mk (Kd.C_below HC.out hb)
  clear hb H1
  go_wp2_with (fail)
  refine (clone_nil 0 c w1).mono ?_
  rintro e w2 ⟨rfl, rfl⟩
  go_wp2_with (fail)
  refine (sortFunc_nil w2).mono ?_
  rintro e w3 ⟨rfl, rfl⟩
  have HCK := Aside0.mk (check_any none 0 [] w3 HC1.out)
  rw [HK.out] at HCK
  go_wp2_with (fail)
  refine HCK.out.mono ?_
  clear HCK
  rintro e w4 ⟨rfl, hb⟩
  have HB4 := Aside0.mk (below_then HB1.out HB1.out.size hb)
  clear hb
  go_wp2_with (fail)
  go_ret2
  exact ⟨rfl, HB4.out⟩
end Go.Proofs.YtjgommaikaeobaaDoor.L

namespace Go.Proofs
open Go.Shelf Go.RowKit Go.Lib
variable {P : Program} {ρ : Ren}
set_option maxHeartbeats 2000000 in
set_option maxRecDepth 100000 in
/-- Clone of a slice of no elements that is not nil. -/
theorem YtjgommaikaeobaaDoor.L.Clone_zero (L : SlLaysE0.n41 P ρ) (i0 : TypeInfo) (z : Value) (size bytes : Nat) (hi : P.info? (ρ.t 23) = some i0) (hz0 : i0.zero = some z) (hz1 : i0.size = size) (hz2 : i0.bytes = bytes) (hzs : z.cells.size = size) (hsz : 0 < size)
    (z23 : ∀ w, (Go.sizeOf (ρ.t 23)).run P w = .ok size w) (a : Addr) (c : Nat) (w : World) :
    Calls P (ρ.f 41) #[.slice (some a) 0 c] w fun e w' => ∃ v', e = .returned v' ∧ w'.ownsRow w.heap.size (ρ.t 23) size v' 0 [] ∧ v' ≠ .slice none 0 0 ∧ Below w.heap.size w w' := by
  have mixed := L.mixed; have t4 := L.t4; have a4 := L.a4; have z4 := L.z4; have v4 := L.v4; have t22 := L.t22; have a22 := L.a22; have z22 := L.z22; have v22 := L.v22
  have q22 : ∀ (w : World) (a : Option Addr) (n c n' c' : Nat), (binOp .eql (ρ.t 22) (.slice a n c) (.slice none n' c')).run P w = .ok (.bool a.isNone) w := fun w a n c n' c' => Lib.run_eql_slice_nil w _ _ a n c n' c' L.t22
  have u22 : ∀ w, Sem.run P (underlying (ρ.t 22)) w = .ok (TypeDesc.slice (ρ.t 23)) w := run_underlying t22
  obtain ⟨_, _, FG⟩ := L.f41
  go_enter FG, SlBodyN.n41_ntmps ρ
  go_wp2_with (at_builtin; refine wpList_append_own _ rfl _ _ (ρ.t 22) rfl w.heap.size (ρ.t 23) i0 z size bytes t22 hi hz0 hz1 hz2 hzs hsz _ _ _ rfl (World.ownsRow_made w #[] 0 (Nat.le_refl _) (Nat.zero_le _) (by simp)) a 0 c [] rfl ?qc1 ?qc2 ?qc3 ?qc4 ?qc5 ?qc6 ?_)
  case qc1 => simp
  case qc2 => intro j u hj; simp at hj
  case qc3 => intro u hu; cases hu
  case qc4 => unfold maxLen; omega
  case qc5 => omega
  case qc6 => simp
  intro v' w1 hown hgrow hnil
  go_wp2
  go_ret
  refine ⟨v', rfl, by simpa using hown, ?_, ?_⟩
  · exact hnil
  · exact ((Below.refl _ w).alloc (Nat.le_refl _) _).grown hgrow (by simp) (by intro k hk; simp [Value.ownBlock] at hk; omega)
end Go.Proofs
namespace Go.Proofs.YtjgommaikaeobaaDoor.L
open Go.RowKit Go.Shelf Go.Lib Go.Proofs.YtjgommaikaeobaaDoorW.PrintWords Go.Proofs.YtjgommaikaeobaaDoor.PLabelSorts Go.Proofs.YtjgommaikaeobaaDoor.R
theorem clone_zero (a : Addr) (c : Nat) (w : World) :
    Calls Tryd.prog 27 #[.slice (some a) 0 c] w fun e w' => ∃ A' c', e = .returned (.slice A' 0 c') ∧ Kd.R k35 35 w' w.heap.size (fun _ => True) (.slice A' 0 c') [] ∧ Below w.heap.size w w' := by
  obtain ⟨i0, e0, e1, e2, e3⟩ := info35'
  refine (Clone_zero Tryd.layCl i0 _ 2 32 e0 e1 e2 e3 rfl (by omega) Tryd.sizeOf35 a c w).mono ?_
  rintro e w' ⟨v, rfl, ho, hv, hb⟩
  have hfl : flatL [] = [] := List.eq_nil_of_length_eq_zero (flat_len [])
  have hR : Kd.R k35 35 w' w.heap.size (fun _ => True) v [] := R_of_flat (l := []) (by rw [hfl]; exact ho)
  obtain ⟨A', c', rfl, _, _⟩ := Kd.R_reads hR
  exact ⟨A', c', rfl, hR, hb⟩
theorem sortFunc_zero (A : Option Addr) (c : Nat) (w : World) :
    Calls Tryd.prog 28 #[.slice A 0 c, .func (.func 25) #[] #[]] w fun e w' => e = .returned (.tuple #[]) ∧ w' = w :=
  AnyF.slices_SortFunc_none Tryd.laySF A c _ w
set_option maxHeartbeats 1000000 in
theorem sort_zero (a : Addr) (c : Nat) (w : World) (h : Kd.C k35 w (some a) 0 []) :
    Calls Tryd.prog 14 #[.slice (some a) 0 c] w fun e w' => (∃ v, e = .returned (.tuple #[v, .int .i64 0]) ∧ Kd.R k35 35 w' w.heap.size (fun _ => True) v []) ∧ Below w.heap.size w w' := by
  have H1 := Aside0.mk (parts_any (some a) c [] w h)
  have hp : partsE [] = 0 := by decide
  have HC := Aside0.mk h
  have hce : checkE [] = 0 := by decide
  rw [hp] at H1
  clear hp h
  have HK := Aside0.mk hce
  clear hce
  go_enter Tryd.func14, Tryd.ntmps14
  go_wp2_with (fail)
  refine H1.out.mono ?_
  rintro e w1 ⟨rfl, hb⟩
  have HB1 := Aside0.mk hb
  have HC1 := Aside0.mk (Kd.C_below HC.out hb)
  clear hb H1
  go_wp2_with (fail)
  refine (clone_zero a c w1).mono ?_
  rintro e w2 ⟨A', c', rfl, hR, hb⟩
  have HR := Aside0.mk (Kd.R_lower hR HB1.out.size)
  have HB2 := Aside0.mk (below_then HB1.out HB1.out.size hb)
  clear hb hR
  go_wp2_with (fail)
  refine (sortFunc_zero A' c' w2).mono ?_
  rintro e w3 ⟨rfl, rfl⟩
  have hC2 : Kd.C k35 w3 A' 0 [] := ⟨rfl, by omega, fun h => absurd h (by omega)⟩
  have HCK := Aside0.mk (check_any A' c' [] w3 hC2)
  clear hC2
  rw [HK.out] at HCK
  go_wp2_with (fail)
  refine HCK.out.mono ?_
  clear HCK
  rintro e w4 ⟨rfl, hb⟩
  have HB4 := Aside0.mk (below_then HB2.out HB2.out.size hb)
  have HR4 := Aside0.mk (Kd.R_below HR.out hb)
  clear hb
  go_wp2_with (fail)
  go_ret2
  exact ⟨⟨_, rfl, HR4.out⟩, HB4.out⟩
theorem sort_all (A : Option Addr) (c : Nat) (l : List S35) (w : World) (h : Kd.C k35 w A l.length l) :
    Calls Tryd.prog 14 #[.slice A l.length c] w fun e w' => SortR w l e w' ∧ Below w.heap.size w w' := by
  cases l with
  | cons x l => exact sort_any A c (x :: l) w h (by simp)
  | nil =>
    have e0 : partsE [] = 0 := by decide
    have e1 : risesB [] = true := by decide
    cases A with
    | none =>
      refine (sort_nil c w h).mono ?_
      rintro e w' ⟨rfl, hb⟩
      exact ⟨.inr ⟨e0, [], List.Perm.refl _, List.Pairwise.nil, .inr ⟨e1, _, rfl, Kd.R_nil _ _ _ _ _⟩⟩, hb⟩
    | some a =>
      refine (sort_zero a c w h).mono ?_
      rintro e w' ⟨⟨v, rfl, hr⟩, hb⟩
      exact ⟨.inr ⟨e0, [], List.Perm.refl _, List.Pairwise.nil, .inr ⟨e1, v, rfl, hr⟩⟩, hb⟩
end Go.Proofs.YtjgommaikaeobaaDoor.L
