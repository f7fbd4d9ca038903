/- The plain laws of LabelSorts and LabelOrder. -/
import Derived.Test.YtjgommaikaeobaaDoorQ1
import Derived.Test.YtjgommaikaeobaaDoorQ2
set_option linter.unusedVariables false
set_option linter.unusedSimpArgs false
namespace Go.Proofs.YtjgommaikaeobaaDoor.G
open Go.RowKit Go.Shelf Go.Lib Go.Proofs.YtjgommaikaeobaaDoorW.PrintWords Go.Proofs.YtjgommaikaeobaaDoor.PLabelSorts Go.Proofs.YtjgommaikaeobaaDoor.R Go.Proofs.YtjgommaikaeobaaDoor.L

theorem sameB_refl (l : List S35) : sameB l l = true := by simp [sameB]
theorem sortE_len (l : List S35) : (sortE l).1.length ≤ l.length := by
  unfold sortE
  split
  · split
    · exact Nat.le_of_eq (sortL_perm l).length_eq
    · exact Nat.zero_le _
  · exact Nat.zero_le _
theorem sorts_l0 (x0 : List S35) (d : Nat) : ∀ (k : Nat) (x4 : List S35) (j : Nat), x4.length ≤ 4398046511104 → j + d = x4.length → d < k → watchfirelaw02_LabelSorts.l0 k x0 x0 x4 true (j : Int) = some true := by
  induction d with
  | zero =>
    intro k x4 j hx h hk
    obtain ⟨k, rfl⟩ : ∃ m, k = m + 1 := ⟨k - 1, by omega⟩
    simp only [watchfirelaw02_LabelSorts.l0]
    rw [if_neg (by omega)]
    simp [WSameG.f, sameB_refl, Awake.f]
  | succ d ih =>
    intro k x4 j hx h hk
    obtain ⟨k, rfl⟩ : ∃ m, k = m + 1 := ⟨k - 1, by omega⟩
    simp only [watchfirelaw02_LabelSorts.l0]
    rw [if_pos (by omega), if_pos (by omega), wrap1 (n := x4.length) (by omega) (by omega) (by omega), cast1]
    exact ih k _ (j + 1) (by rw [List.length_set]; exact hx) (by rw [List.length_set]; omega) (by omega)
theorem labelSorts_pure (l : List S35) (hl : l.length < 4398046511104) (hf : Fit l) : ∃ k, watchfirelaw02_LabelSorts.f k l = some true := by
  have hlen := sortE_len l
  obtain ⟨k, hk⟩ : ∃ k, k = (sortE l).1.length + 1 := ⟨_, rfl⟩
  have h0 := sorts_l0 l (sortE l).1.length k (sortE l).1 0 (by omega) (by omega) (by omega)
  refine ⟨k + 1, ?_⟩
  have hl0 : ([] : List S35).length + l.length < 4398046511104 := by simpa using hl
  simp only [watchfirelaw02_LabelSorts.f, Option.bind_some, List.nil_append]
  rw [if_pos hl0]
  simp only [LSort.f, WSortG.f, (fitB_iff l).2 hf, if_true, Option.bind_some, LSameG.f, WSameG.f, sameB_refl, beq_self_eq_true, watchfirelaw02_LabelSorts.j0]
  exact h0
/-! ### LabelOrder -/
theorem sortE_perm {l l' : List S35} (h : l'.Perm l) : sortE l' = sortE l := by
  obtain ⟨d1, d2⟩ := sort_det ((sortL_perm l').trans h) (sortL_sorted l')
  unfold sortE
  rw [partsE_perm h]
  split
  · rw [← d1]
    cases hr : risesB (sortL l') with
    | true => rw [if_pos rfl, if_pos rfl, d2 hr]
    | false => rfl
  · rfl
theorem get_strict : ∀ (L : List S35), (L.map nm).Nodup → ∀ x ∈ L, getL L x.f0 = x.f1 := by
  intro L
  induction L with
  | nil => intro _ x hx; cases hx
  | cons a L ih =>
    intro hn x hx
    rw [List.map_cons, List.nodup_cons] at hn
    rcases List.mem_cons.1 hx with rfl | hx
    · simp [getL]
    · have hne : ¬ a.f0 = x.f0 := fun e => hn.1 (List.mem_map.2 ⟨x, hx, by unfold nm; rw [e]⟩)
      rw [getL, if_neg hne]
      exact ih hn.2 x hx
theorem order_l1 (l a b : List S35) (hl : l.length < 4398046511104) (ha : ∀ x ∈ l, getL a x.f0 = x.f1) (hs : sortE a = (a, 0)) (hc : checkE a = 0) (hlen : a.length = l.length) (hab : a = b) (d : Nat) :
    ∀ (k j : Nat), j + d = l.length → d < k → watchfirelaw02_LabelOrder.l1 k l a b 0 (j : Int) = some true := by
  induction d with
  | zero =>
    intro k j h hk
    obtain ⟨k, rfl⟩ : ∃ m, k = m + 1 := ⟨k - 1, by omega⟩
    subst hab
    simp only [watchfirelaw02_LabelOrder.l1]
    rw [if_neg (by omega)]
    simp [LSort.f, hs, LCheck.f, hc, hlen, LSameG.f, sameB_refl, Awake.f]
  | succ d ih =>
    intro k j h hk
    obtain ⟨k, rfl⟩ : ∃ m, k = m + 1 := ⟨k - 1, by omega⟩
    have hj : j < l.length := by omega
    simp only [watchfirelaw02_LabelOrder.l1]
    rw [if_pos (by omega), if_pos (by omega), rd35_get l j hj, wrap1 (n := l.length) (by omega) (by omega) (by omega), cast1, ih k (j + 1) (by omega) (by omega)]
    simp [LGetG.f, ha _ (List.getElem_mem hj)]
theorem order_l0 (l a : List S35) (e : Int) (hl : l.length < 4398046511104) (hend : ∀ k, l.length < k → ((LSort.f l.reverse).bind fun bt129 => (if e = 0 then (watchfirelaw02_LabelOrder.l1 k l a bt129.1 bt129.2 0) else (if bt129.2 = e then (if (a.length : Int) = 0 then ((Awake.f).bind fun t133 => (some t133)) else (some false)) else (some false)))) = some true) (d : Nat) :
    ∀ (k : Nat) (acc : List S35), d ≤ l.length → acc = (l.drop d).reverse → d + l.length + 1 < k → watchfirelaw02_LabelOrder.l0 k l a e acc ((d : Int) - 1) = some true := by
  induction d with
  | zero =>
    intro k acc h1 h2 hk
    obtain ⟨k, rfl⟩ : ∃ m, k = m + 1 := ⟨k - 1, by omega⟩
    simp only [watchfirelaw02_LabelOrder.l0]
    rw [if_neg (by omega), h2, List.drop_zero]
    exact hend k (by omega)
  | succ d ih =>
    intro k acc h1 h2 hk
    obtain ⟨k, rfl⟩ : ∃ m, k = m + 1 := ⟨k - 1, by omega⟩
    have hj : d < l.length := by omega
    have ea : acc.length < 4398046511104 := by rw [h2, List.length_reverse, List.length_drop]; omega
    have ei : ((d + 1 : Nat) : Int) - 1 = (d : Int) := by omega
    have ew : wrap64 ((d : Int) - 1) = (d : Int) - 1 := by unfold wrap64; omega
    simp only [watchfirelaw02_LabelOrder.l0]
    rw [ei, if_pos (by omega), if_pos (by omega), if_pos (by omega), if_pos ea, rd35_get l d hj, ew]
    refine ih k _ (by omega) ?_ (by omega)
    rw [h2, List.drop_eq_getElem_cons hj, List.reverse_cons]
theorem labelOrder_pure (l : List S35) (hl : l.length < 4398046511104) : ∃ k, watchfirelaw02_LabelOrder.f k l = some true := by
  refine ⟨2 * l.length + 10, ?_⟩
  have hrev : sortE l.reverse = sortE l := sortE_perm (List.reverse_perm l)
  have ew : wrap64 ((l.length : Int) - 1) = (l.length : Int) - 1 := by unfold wrap64; omega
  simp only [watchfirelaw02_LabelOrder.f, LSort.f, Option.bind_some]
  rw [ew]
  refine order_l0 l _ _ hl ?_ l.length _ [] (Nat.le_refl _) (by simp) (by omega)
  intro k hk
  simp only [LSort.f, Option.bind_some, hrev]
  by_cases hp : partsE l = 0
  · cases hr : risesB (sortL l) with
    | true =>
      have he : sortE l = (sortL l, 0) := by unfold sortE; rw [if_pos hp, hr, if_pos rfl]
      rw [he, if_pos rfl]
      have hst := rises_strict hr
      have hpm := sortL_perm l
      exact order_l1 l (sortL l) (sortL l) hl (fun x hx => get_strict _ (strict_nodup hst) x (hpm.mem_iff.2 hx)) (by rw [sortE_perm hpm, he]) (by unfold checkE; rw [partsE_perm hpm, if_pos hp, hr]; rfl) hpm.length_eq rfl l.length k 0 (by omega) (by omega)
    | false =>
      have he : sortE l = ([], 7) := by unfold sortE; rw [if_pos hp, hr, if_neg (by simp)]
      rw [he]
      simp [Awake.f]
  · have he : sortE l = ([], partsE l) := by unfold sortE; rw [if_neg hp]
    rw [he]
    simp [hp, Awake.f]
theorem labelSorts_walk (A : Option Addr) (c : Nat) (l : List S35) (w : World) (h : Kd.C k35 w A l.length l) (hc : l.length ≤ c) (hl : l.length < 4398046511104) (hf : Fit l) :
    Calls Tryd.prog 4 #[.slice A l.length c] w fun e w' => e = .returned (.bool true) ∧ Below w.heap.size w w' := by
  obtain ⟨k, hk⟩ := labelSorts_pure l hl hf
  exact watchfirelaw02_LabelSorts.calls k A c l true w h hc hk
theorem labelOrder_walk (A : Option Addr) (c : Nat) (l : List S35) (w : World) (h : Kd.C k35 w A l.length l) (hc : l.length ≤ c) (hl : l.length < 4398046511104) :
    Calls Tryd.prog 5 #[.slice A l.length c] w fun e w' => e = .returned (.bool true) ∧ Below w.heap.size w w' := by
  obtain ⟨k, hk⟩ := labelOrder_pure l hl
  exact watchfirelaw02_LabelOrder.calls k A c l true w h hc hk
end Go.Proofs.YtjgommaikaeobaaDoor.G
