/- Functions of label and of its reference, told as plain Lean functions without rounds, each with its contract: what the printed laws go by. -/
import Derived.Test.YtjgommaikaeobaaDoorLZ
import Derived.Test.YtjgommaikaeobaaDoorLQ
import Derived.Test.YtjgommaikaeobaaDoorLH
set_option linter.unusedVariables false
set_option linter.unusedSimpArgs false
namespace Go.Proofs.YtjgommaikaeobaaDoor.G
open Go.RowKit Go.Shelf Go.Lib Go.Proofs.YtjgommaikaeobaaDoorW.PrintWords Go.Proofs.YtjgommaikaeobaaDoor.PLabelSorts Go.Proofs.YtjgommaikaeobaaDoor.R Go.Proofs.YtjgommaikaeobaaDoor.L

theorem s35_ext {x y : S35} : x = y ↔ x.f0 = y.f0 ∧ x.f1 = y.f1 := by
  obtain ⟨x0, x1⟩ := x
  obtain ⟨y0, y1⟩ := y
  constructor
  · intro h; injection h with h1 h2; exact ⟨h1, h2⟩
  · rintro ⟨rfl, rfl⟩; rfl
instance : DecidableEq S35 := fun _ _ => decidable_of_iff _ s35_ext.symm

/-! ### Sort -/
def sortL (l : List S35) : List S35 := l.mergeSort (fun x y => !(ltN y x))
theorem sortL_perm (l : List S35) : (sortL l).Perm l := List.mergeSort_perm _ _
theorem ltN_not_trans {x y z : S35} (h1 : ltN y x = false) (h2 : ltN z y = false) : ltN z x = false := by
  have := swoN.ntrans z y x (by rw [ltOf_N]; exact h2) (by rw [ltOf_N]; exact h1)
  rwa [ltOf_N] at this
theorem ltN_or (x y : S35) : ltN y x = false ∨ ltN x y = false := by
  cases h : ltN y x with
  | false => exact .inl rfl
  | true =>
    right
    cases h2 : ltN x y with
    | false => rfl
    | true => exact (ltN_asymm h h2).elim
theorem sortL_sorted (l : List S35) : SortedN (sortL l) := by
  have h := List.pairwise_mergeSort (le := fun x y => !(ltN y x)) (fun a b c h1 h2 => by
    simp only [Bool.not_eq_true', Bool.not_eq_eq_eq_not, Bool.not_true] at h1 h2 ⊢
    exact ltN_not_trans h1 h2) (fun a b => by
    rcases ltN_or a b with h | h <;> simp [h]) l
  exact h.imp fun {x y} h => by simpa using h
theorem sort_det {l l' : List S35} (hp : l'.Perm l) (hs : SortedN l') : risesB l' = risesB (sortL l) ∧ (risesB l' = true → l' = sortL l) := by
  have key : ∀ a b : List S35, a.Perm b → SortedN b → risesB a = true → b = a := fun a b hab hb hr => by
    have ha := rises_strict hr
    have hn : (b.map nm).Nodup := ((hab.map nm).nodup_iff).1 (strict_nodup ha)
    exact strict_one b a (strict_of_nodup hb hn) ha hab.symm
  have hq := sortL_perm l
  have hsq := sortL_sorted l
  cases h1 : risesB l' with
  | true =>
    have e := key l' (sortL l) (hp.trans hq.symm) hsq h1
    rw [e]
    exact ⟨h1.symm, fun _ => rfl⟩
  | false =>
    refine ⟨?_, fun h => by cases h⟩
    cases h2 : risesB (sortL l) with
    | false => rfl
    | true =>
      have e := key (sortL l) l' (hq.trans hp.symm) hs h2
      rw [e, h2] at h1
      cases h1
/-- What both Sorts answer. -/
def sortE (l : List S35) : List S35 × Int := if partsE l = 0 then (if risesB (sortL l) then (sortL l, 0) else ([], 7)) else ([], partsE l)
def LSort.f (l0 : List (S35)) : Option ((List (S35)) × Int) := some (sortE l0)
theorem LSort.calls (A0 : Option Addr) (c0 : Nat) (l0 : List (S35)) (r1 : List (S35)) (r2 : Int) (w : World) (hr0 : Kd.C k35 w A0 l0.length l0) (hc0 : l0.length ≤ c0) (h : LSort.f l0 = some (r1, r2)) :
    Calls Tryd.prog 14 #[.slice A0 l0.length c0] w fun e w' => ∃ v0_ : Value, e = .returned (.tuple #[v0_, .int .i64 r2]) ∧ Kd.R k35 35 w' w.heap.size (fun _ => True) v0_ r1 ∧ Below w.heap.size w w' := by
  have h' : sortE l0 = (r1, r2) := Option.some.inj h
  refine (sort_all A0 c0 l0 w hr0).mono fun e w' ⟨hs, hb⟩ => ?_
  rcases hs with ⟨hp, rfl⟩ | ⟨hp, l', hpm, hst, ⟨hr, rfl⟩ | ⟨hr, v, rfl, hR⟩⟩
  · unfold sortE at h'
    rw [if_neg hp] at h'
    injection h' with h1 h2
    subst h1 h2
    exact ⟨_, rfl, Kd.R_nil _ _ _ _ _, hb⟩
  · obtain ⟨d1, d2⟩ := sort_det hpm hst
    unfold sortE at h'
    rw [if_pos hp, ← d1, hr, if_neg (by simp)] at h'
    injection h' with h1 h2
    subst h1 h2
    exact ⟨_, rfl, Kd.R_nil _ _ _ _ _, hb⟩
  · obtain ⟨d1, d2⟩ := sort_det hpm hst
    have e := d2 hr
    unfold sortE at h'
    rw [if_pos hp, ← d1, hr, if_pos rfl, ← e] at h'
    injection h' with h1 h2
    subst h1 h2
    exact ⟨_, rfl, hR, hb⟩
def fitB (l : List S35) : Bool := l.all fun x => decide (x.f0.size ≤ 9223372036854775807 ∧ x.f1.size ≤ 9223372036854775807)
theorem fitB_iff (l : List S35) : fitB l = true ↔ Fit l := by
  unfold fitB Fit
  simp
def WSortG.f (l0 : List (S35)) : Option ((List (S35)) × Int) := if fitB l0 then some (sortE l0) else none
theorem WSortG.calls (A0 : Option Addr) (c0 : Nat) (l0 : List (S35)) (r1 : List (S35)) (r2 : Int) (w : World) (hr0 : Kd.C k35 w A0 l0.length l0) (hc0 : l0.length ≤ c0) (h : WSortG.f l0 = some (r1, r2)) :
    Calls Tryd.prog 15 #[.slice A0 l0.length c0] w fun e w' => ∃ v0_ : Value, e = .returned (.tuple #[v0_, .int .i64 r2]) ∧ Kd.R k35 35 w' w.heap.size (fun _ => True) v0_ r1 ∧ Below w.heap.size w w' := by
  unfold WSortG.f at h
  by_cases hf : fitB l0 = true
  · rw [if_pos hf] at h
    have h' : sortE l0 = (r1, r2) := Option.some.inj h
    refine (wsort_any A0 c0 l0 w hr0 hc0 ((fitB_iff l0).1 hf)).mono fun e w' ⟨L, r, hL, v, he, hR, hb⟩ => ?_
    have e : L = r1 ∧ r = r2 := by
      unfold sortE at h'
      rcases hL with ⟨hp, hE⟩ | ⟨hp, rfl, rfl⟩
      · rw [if_pos hp] at h'
        rcases sorts_agree (sortL_perm l0) (sortL_sorted l0) hE with ⟨h1, rfl, rfl⟩ | ⟨h1, rfl, rfl⟩
        · rw [h1, if_pos rfl] at h'
          injection h' with h1 h2
          exact ⟨h1, h2⟩
        · rw [h1, if_neg (by simp)] at h'
          injection h' with h1 h2
          exact ⟨h1, h2⟩
      · rw [if_neg hp] at h'
        injection h' with h1 h2
        exact ⟨h1, h2⟩
    obtain ⟨rfl, rfl⟩ := e
    exact ⟨v, he, hR, hb⟩
  · rw [if_neg hf] at h
    cases h
def LCheck.f (l0 : List (S35)) : Option (Int) := some (checkE l0)
theorem LCheck.calls (A0 : Option Addr) (c0 : Nat) (l0 : List (S35)) (r : Int) (w : World) (hr0 : Kd.C k35 w A0 l0.length l0) (hc0 : l0.length ≤ c0) (h : LCheck.f l0 = some r) :
    Calls Tryd.prog 11 #[.slice A0 l0.length c0] w fun e w' => e = .returned (.int .i64 r) ∧ Below w.heap.size w w' := by
  obtain rfl := Option.some.inj h
  exact check_any A0 c0 l0 w hr0
/-! ### Same -/
def sameB (a b : List S35) : Bool := decide (a = b)
theorem peq_l0 (a b : List S35) (hab : a.length = b.length) (ha : a.length ≤ 9223372036854775807) (d : Nat) : ∀ (k j : Nat), j + d = a.length → d < k → ∃ r, PEq.l0 k a b (a.length : Int) (j : Int) = some r ∧ (r = true ↔ a.drop j = b.drop j) := by
  induction d with
  | zero =>
    intro k j h hk
    obtain ⟨k, rfl⟩ : ∃ m, k = m + 1 := ⟨k - 1, by omega⟩
    simp only [PEq.l0]
    rw [if_neg (by omega), List.drop_eq_nil_of_le (by omega), List.drop_eq_nil_of_le (by omega)]
    exact ⟨true, rfl, by simp⟩
  | succ d ih =>
    intro k j h hk
    obtain ⟨k, rfl⟩ : ∃ m, k = m + 1 := ⟨k - 1, by omega⟩
    simp only [PEq.l0]
    have hj : j < a.length := by omega
    have hj2 : j < b.length := by omega
    obtain ⟨r, h1, h2⟩ := ih k (j + 1) (by omega) (by omega)
    rw [if_pos (by omega), if_pos (by omega), if_pos (by omega), if_pos (by omega), rd35_get a j hj, rd35_get b j hj2, wrap1 (n := a.length) (by omega) (by omega) (by omega), cast1, h1, List.drop_eq_getElem_cons hj, List.drop_eq_getElem_cons hj2]
    generalize a.drop (j + 1) = t at h2 ⊢
    generalize b.drop (j + 1) = t' at h2 ⊢
    generalize a[j] = x
    generalize b[j] = y
    by_cases e : x = y
    · subst e
      refine ⟨r, by simp, by simp [h2]⟩
    · refine ⟨false, ?_, by simp [e]⟩
      have hne : ¬ (x.f0.toList = y.f0.toList ∧ x.f1.toList = y.f1.toList) := fun ⟨h1, h2⟩ => e (s35_ext.2 ⟨tl_inj.1 h1, tl_inj.1 h2⟩)
      rw [if_pos]
      by_cases e0 : x.f0.toList = y.f0.toList
      · have e1 : ¬ x.f1.toList = y.f1.toList := fun h => hne ⟨e0, h⟩
        simp [e0, e1]
      · simp [e0]
theorem peq_f (a b : List S35) (ha : a.length ≤ 9223372036854775807) : PEq.f (a.length + 1) a b = some (sameB a b) := by
  unfold PEq.f
  by_cases hl : (a.length : Int) = (b.length : Int)
  · rw [if_pos hl]
    obtain ⟨r, h1, h2⟩ := peq_l0 a b (by omega) ha a.length (a.length + 1) 0 (by omega) (by omega)
    rw [Int.natCast_zero] at h1
    rw [h1]
    have e : r = sameB a b := by rw [Bool.eq_iff_iff, h2, List.drop_zero, List.drop_zero]; simp [sameB]
    rw [e]
  · rw [if_neg hl]
    have : ¬ a = b := fun e => hl (by rw [e])
    simp [sameB, this]
theorem wsame_sameB (a b : List S35) (ha : a.length ≤ 9223372036854775807) : WSame.f (a.length + 1) a b = some (sameB a b) := by
  obtain ⟨r, h1, h2⟩ := wsame_f a b ha
  rw [h1]
  have e : r = sameB a b := by rw [Bool.eq_iff_iff, h2]; simp [sameB]
  rw [e]
def LSameG.f (l0 : List (S35)) (l1 : List (S35)) : Option (Bool) := some (sameB l0 l1)
theorem LSameG.calls (A0 : Option Addr) (c0 : Nat) (l0 : List (S35)) (A1 : Option Addr) (c1 : Nat) (l1 : List (S35)) (r : Bool) (w : World) (hr0 : Kd.C k35 w A0 l0.length l0) (hc0 : l0.length ≤ c0) (hr1 : Kd.C k35 w A1 l1.length l1) (hc1 : l1.length ≤ c1) (h : LSameG.f l0 l1 = some r) :
    Calls Tryd.prog 16 #[.slice A0 l0.length c0, .slice A1 l1.length c1] w fun e w' => e = .returned (.bool r) ∧ Below w.heap.size w w' := by
  obtain rfl := Option.some.inj h
  exact (LSame.calls (l0.length + 1) A0 c0 l0 A1 c1 l1 _ w hr0 hc0 hr1 hc1 (by unfold LSame.f; rw [peq_f l0 l1 hr0.2.1]; rfl)).mono fun _ _ ⟨he, hw⟩ => ⟨he, hw.below⟩
def WSameG.f (l0 : List (S35)) (l1 : List (S35)) : Option (Bool) := some (sameB l0 l1)
theorem WSameG.calls (A0 : Option Addr) (c0 : Nat) (l0 : List (S35)) (A1 : Option Addr) (c1 : Nat) (l1 : List (S35)) (r : Bool) (w : World) (hr0 : Kd.C k35 w A0 l0.length l0) (hc0 : l0.length ≤ c0) (hr1 : Kd.C k35 w A1 l1.length l1) (hc1 : l1.length ≤ c1) (h : WSameG.f l0 l1 = some r) :
    Calls Tryd.prog 17 #[.slice A0 l0.length c0, .slice A1 l1.length c1] w fun e w' => e = .returned (.bool r) ∧ Drawn0 w w' := by
  obtain rfl := Option.some.inj h
  exact WSame.calls (l0.length + 1) A0 c0 l0 A1 c1 l1 _ w hr0 hc0 hr1 hc1 (wsame_sameB l0 l1 hr0.2.1)
/-! ### Get, Pick, awake -/
def LGetG.f (l0 : List (S35)) (a1 : ByteArray) : Option (ByteArray) := some (getL l0 a1)
theorem LGetG.calls (A0 : Option Addr) (c0 : Nat) (l0 : List (S35)) (a1 : ByteArray) (r : ByteArray) (w : World) (hr0 : Kd.C k35 w A0 l0.length l0) (hc0 : l0.length ≤ c0) (h : LGetG.f l0 a1 = some r) :
    Calls Tryd.prog 18 #[.slice A0 l0.length c0, .string a1] w fun e w' => e = .returned (.string r) ∧ Below w.heap.size w w' := by
  obtain rfl := Option.some.inj h
  exact LGet.calls _ A0 c0 l0 a1 _ w hr0 hc0 (lget_f l0 a1 hr0.2.1)
def LPickG.f (l0 : List (S35)) (l1 : List ByteArray) : Option ((List (S35))) := if l0.length < 4398046511104 then some (pickL l0 l1) else none
theorem LPickG.calls (A0 : Option Addr) (c0 : Nat) (l0 : List (S35)) (A1 : Option Addr) (c1 : Nat) (l1 : List ByteArray) (r : List (S35)) (w : World) (hr0 : Kd.C k35 w A0 l0.length l0) (hc0 : l0.length ≤ c0) (hr1 : Kd.C Kd.string w A1 l1.length l1) (hc1 : l1.length ≤ c1) (h : LPickG.f l0 l1 = some r) :
    Calls Tryd.prog 19 #[.slice A0 l0.length c0, .slice A1 l1.length c1] w fun e w' => ∃ v0_ : Value, e = .returned (v0_) ∧ Kd.R k35 35 w' w.heap.size (fun _ => True) v0_ r ∧ Below w.heap.size w w' := by
  unfold LPickG.f at h
  by_cases hl : l0.length < 4398046511104
  · rw [if_pos hl] at h
    obtain rfl := Option.some.inj h
    exact LPick.calls _ A0 c0 l0 A1 c1 l1 _ w hr0 hc0 hr1 hc1 (lpick_f l0 l1 hl hr1.2.1)
  · rw [if_neg hl] at h; cases h
def Awake.f : Option (Bool) := some true
theorem Awake.calls (r : Bool) (w : World) (h : Awake.f = some r) :
    Calls Tryd.prog 13 #[] w fun e w' => e = .returned (.bool r) ∧ Below w.heap.size w w' := by
  obtain rfl := Option.some.inj h
  exact awake_any w
end Go.Proofs.YtjgommaikaeobaaDoor.G
