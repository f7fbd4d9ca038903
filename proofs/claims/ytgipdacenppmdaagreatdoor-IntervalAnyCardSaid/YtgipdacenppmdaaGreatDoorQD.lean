/- Has: the program's and the document's are one. -/
import Derived.Test.YtgipdacenppmdaaGreatDoorQC
import Derived.Test.YtgipdacenppmdaaGreatDoorIB
import Derived.Test.YtgipdacenppmdaaGreatDoorP7
set_option linter.unusedVariables false
set_option linter.unusedSimpArgs false
namespace Go.Proofs.YtgipdacenppmdaaGreatDoor.G
open Go.RowKit Go.Lib Go.Proofs.YtgipdacenppmdaaGreatDoorW.PrintWords Go.Proofs.YtgipdacenppmdaaGreatDoor.P
theorem leapY_eq (y : Int) (h1 : 1 ≤ y) (h2 : y ≤ 9999) : leapY y = decide (lpI y = 1) := by
  unfold leapY isY
  rw [decide_eq_true h1, decide_eq_true h2, tmod_pos _ _ (by omega), tmod_pos _ _ (by omega), tmod_pos _ _ (by omega)]
  unfold lpI
  by_cases h4 : y % 4 = 0
  · by_cases h100 : y % 100 = 0
    · by_cases h400 : y % 400 = 0
      · rw [if_pos (Or.inr h400)]; simp [h4, h400]
      · rw [if_neg (by omega)]; simp [h4, h100, h400]
    · rw [if_pos (Or.inl ⟨h4, h100⟩)]; simp [h4, h100]
  · have h400 : ¬ y % 400 = 0 := by omega
    rw [if_neg (by omega)]; simp [h4]
theorem longC_eq (y m : Int) (h1 : 1 ≤ y) (h2 : y ≤ 9999) (hm1 : 1 ≤ m) (hm2 : m ≤ 12) : longC y m = mlen y m := by
  have hy : isY y = true := by unfold isY; rw [decide_eq_true h1, decide_eq_true h2]; rfl
  unfold longC
  rw [if_pos ⟨hy, hm1, hm2⟩, leapY_eq y h1 h2]
  have hl := lpI_rng y
  rcases m_cases hm1 hm2 with rfl | rfl | rfl | rfl | rfl | rfl | rfl | rfl | rfl | rfl | rfl | rfl <;> simp [aheadTab, mlen] <;> first | (rw [wid (by omega) (by omega)]; done) | (rw [wid (by omega) (by omega)]; rcases hl with h | h <;> simp [h]) | skip
theorem rof_f (s ah : Int) (k : Nat) (hk : 13010 ≤ k) : watchfireref25_Of.f k s ah = civil_Of.f s ah := by
  obtain ⟨k, rfl⟩ : ∃ n, k = n + 2 := ⟨k - 2, by omega⟩
  have hj0 : ∀ b, watchfireref25_Of.j0 (k + 2) s ah b = if b = true then some (0, 0, 0, 0, 0, 0, 2) else (if s < (-1125899906842624) then (watchfireref25_Of.j1 (k + 1) s ah true) else (watchfireref25_Of.j1 (k + 1) s ah (decide (s > 1125899906842624)))) := fun b => by rw [watchfireref25_Of.j0]
  have hj1 : ∀ b, watchfireref25_Of.j1 (k + 1) s ah b = if b = true then (some (0, 0, 0, 0, 0, 0, 13)) else ((watchfireref25_floor.f (wrap64 (s + (wrap64 (60 * ah)))) 86400).bind fun bt128 => ((watchfireref25_Date.f k bt128.1).bind fun bt130 => (if bt130.1 = 0 then (some (0, 0, 0, 0, 0, 0, 13)) else ((watchfireref25_floor.f (wrap64 (bt128.1 + 4)) 7).bind fun bt133 => (some (bt130.1, bt130.2.1, bt130.2.2, bt133.2, wrap64 (Int.tdiv bt128.2 60), Int.tmod bt128.2 60, 0)))))) := fun b => by rw [watchfireref25_Of.j1]
  have hd : ∀ n, watchfireref25_Date.f k n = CDate.f n := fun n => rdate_f k n (by omega)
  have hfl : ∀ a b, watchfireref25_floor.f a b = civil_floor.f a b := fun a b => rfl
  unfold watchfireref25_Of.f civil_Of.f civil_clock.f
  rw [hj0, hj0]
  by_cases h1 : ah < -1440
  · rw [if_pos h1, if_pos rfl, if_neg (show ¬ ah ≥ -1440 by omega), Option.bind_some, if_neg (by simp)]
  · rw [if_neg h1, if_pos (show ah ≥ -1440 by omega), Option.bind_some]
    by_cases h2 : ah > 1440
    · rw [decide_eq_true h2, if_pos rfl, decide_eq_false (show ¬ ah ≤ 1440 by omega), if_neg (by simp)]
    · rw [decide_eq_false h2, if_neg (by simp), decide_eq_true (show ah ≤ 1440 by omega), if_pos rfl, hj1, hj1]
      by_cases h3 : s < -1125899906842624
      · rw [if_pos h3, if_pos h3, if_pos rfl]
      · rw [if_neg h3, if_neg h3]
        by_cases h4 : s > 1125899906842624
        · rw [decide_eq_true h4, if_pos rfl, if_pos h4]
        · rw [decide_eq_false h4, if_neg (by simp), if_neg h4]
          simp only [hd, hfl]
theorem CDate_f (n : Int) : CDate.f n = some (dateC n) := rfl
/-- A second that there is has a year and a month. -/
theorem ofC_day (s ah : Int) (h : (ofC s ah).e = 0) : 1 ≤ (ofC s ah).y ∧ (ofC s ah).y ≤ 9999 ∧ 1 ≤ (ofC s ah).m ∧ (ofC s ah).m ≤ 12 ∧ 1 ≤ (ofC s ah).d ∧ (ofC s ah).d ≤ 31 := by
  have hf := of_f s ah
  rw [h] at hf
  revert hf
  generalize (ofC s ah).y = Y
  generalize (ofC s ah).m = M
  generalize (ofC s ah).d = D
  intro hf
  unfold civil_Of.f at hf
  obtain ⟨c, _, hf⟩ := Option.bind_eq_some_iff.1 hf
  split at hf
  · split at hf
    · simp at hf
    split at hf
    · simp at hf
    obtain ⟨q, _, hf⟩ := Option.bind_eq_some_iff.1 hf
    rw [CDate_f, Option.bind_some] at hf
    split at hf
    · simp at hf
    rename_i hne
    obtain ⟨q2, _, hf⟩ := Option.bind_eq_some_iff.1 hf
    have he := Option.some.inj hf
    simp only [Prod.mk.injEq] at he
    obtain ⟨h1, h2, h3, _⟩ := he
    by_cases hr : q.1 < -719162 ∨ 2932896 < q.1
    · exact absurd (by unfold dateC; rw [if_pos hr]) hne
    · obtain ⟨Y', M', D', hd, y1, y2, m1, m2, d1, d2, _⟩ := date_is q.1 (by omega) (by omega)
      have hl := mlen_pos Y' M'
      rw [hd] at h1 h2 h3
      simp only at h1 h2 h3
      subst h1 h2 h3
      exact ⟨y1, y2, m1, m2, d1, by omega⟩
  · simp at hf
def numT (i y m d wd mi : Int) : Int := if i = 0 then wd else if i = 1 then m else if i = 2 then d else if i = 3 then y else mi
theorem number_rf (i y m d wd mi se : Int) : watchfireref26_number.f i y m d wd mi se = some (numT i y m d wd mi) := by
  unfold watchfireref26_number.f numT
  split
  · rfl
  split
  · rfl
  split
  · rfl
  split <;> rfl
theorem ite_and (a b : Int) (p : Prop) [Decidable p] : (if a ≤ b then some (decide p) else some false) = some (decide (a ≤ b) && decide p) := by
  by_cases h : a ≤ b
  · rw [if_pos h, decide_eq_true h, Bool.true_and]
  · rw [if_neg h, decide_eq_false h, Bool.false_and]
theorem rhas1_f (k : Nat) (i y m d wd mi se : Int) (x : S55) (h1 : 1 ≤ y) (h2 : y ≤ 9999) (hm1 : 1 ≤ m) (hm2 : m ≤ 12) (hr : rightB i x.f0 x.f1 = true) :
    watchfireref26_has.f (k + 3) i x.f0 x.f1 y m d wd mi se = some (inB i (longC y m) (numT i y m d wd mi) x) := by
  unfold watchfireref26_has.f
  rw [number_rf, Option.bind_some, rlong_f k y m h1 h2 hm1 hm2, Option.bind_some, longC_eq y m h1 h2 hm1 hm2]
  generalize numT i y m d wd mi = n
  generalize mlen y m = L
  have hj0 : ∀ b, watchfireref26_has.j0 (k + 3) i n L b x.f0 x.f1 = if b = true then (watchfireref26_has.j1 (k + 2) i n L (wrap64 (x.f0 + (wrap64 (L + 1)))) x.f1) else (watchfireref26_has.j1 (k + 2) i n L x.f0 x.f1) := fun b => by rw [watchfireref26_has.j0]
  have hj1 : ∀ a, watchfireref26_has.j1 (k + 2) i n L a x.f1 = if i = 2 then (watchfireref26_has.j2 (k + 1) i n L (decide (x.f1 < 0)) a x.f1) else (watchfireref26_has.j2 (k + 1) i n L false a x.f1) := fun a => by rw [watchfireref26_has.j1]
  have hj2 : ∀ a b, watchfireref26_has.j2 (k + 1) i n L b a x.f1 = if b = true then (if i = 4 then (if a ≤ n then (some (decide (n < (wrap64 (x.f1 + (wrap64 (L + 1))))))) else (some false)) else (if a ≤ n then (some (decide (n ≤ (wrap64 (x.f1 + (wrap64 (L + 1))))))) else (some false))) else (if i = 4 then (if a ≤ n then (some (decide (n < x.f1))) else (some false)) else (if a ≤ n then (some (decide (n ≤ x.f1))) else (some false))) := fun a b => by rw [watchfireref26_has.j2]
  unfold inB
  rw [hj0, hj0]
  by_cases i2 : i = 2
  · subst i2
    have e4 : ((2 : Int) = 4) = False := by simp
    by_cases a1 : x.f0 < 0 <;> by_cases a2 : x.f1 < 0 <;>
      simp only [hj1, hj2, a1, a2, e4, decide_true, decide_false, and_true, and_false, if_true, if_false, Bool.false_eq_true, ite_and]
  · have hm : i = 4 → 0 ≤ x.f1 ∧ x.f1 ≤ 1440 := by
      rintro rfl
      unfold rightB at hr
      rw [Bool.and_eq_true, Bool.and_eq_true] at hr
      have := hr.2.1
      unfold mayB at this
      rw [if_neg (by omega), if_neg (by omega), if_neg (by omega), if_neg (by omega)] at this
      exact of_decide_eq_true this
    by_cases i4 : i = 4
    · have h2 := hm i4
      subst i4
      have e42 : ((4 : Int) = 2) = False := by simp
      simp only [hj1, hj2, e42, false_and, if_true, if_false, Bool.false_eq_true, ite_and]
      rw [wid (x := x.f1 - 1) (by omega) (by omega)]
      congr 2
      apply decide_eq_decide.2
      omega
    · simp only [hj1, hj2, i2, i4, false_and, if_false, Bool.false_eq_true, ite_and]
theorem rhas_l1 (nm : ByteArray) (l1 l2 l3 l4 l5 : List S55) (ah i y m d wd mi se : Int) (l : List S55) (R : Option Bool) (N : Nat) (hb : l.length ≤ 1000000) (hR : ∀ k, N ≤ k → watchfireref26_Has.l0 k (wrap64 (i + 1)) nm l1 l2 l3 l4 l5 ah y m d wd mi se = R)
    (h1 : 1 ≤ y) (h2 : y ≤ 9999) (hm1 : 1 ≤ m) (hm2 : m ≤ 12) (hr : ∀ x ∈ l, rightB i x.f0 x.f1 = true) :
    ∀ (e j k : Nat) (b : Bool), j + e = l.length → N + e + 6 ≤ k → watchfireref26_Has.l1 k i l b (j : Int) nm l1 l2 l3 l4 l5 ah y m d wd mi se = if (b || ((l.drop j).any (inB i (longC y m) (numT i y m d wd mi)))) = true then R else some false
  | 0, j, k + 1, b, hj, hk => by
    rw [watchfireref26_Has.l1, if_neg (by omega), hR k (by omega), List.drop_of_length_le (by omega)]
    cases b <;> simp
  | e + 1, j, k + 4, b, hj, hk => by
    have hjl : j < l.length := by omega
    have ih := fun b => rhas_l1 nm l1 l2 l3 l4 l5 ah i y m d wd mi se l R N hb hR h1 h2 hm1 hm2 hr e (j + 1) (k + 3) b (by omega) (by omega)
    rw [watchfireref26_Has.l1, if_pos (by omega), wid (x := (j : Int) + 1) (by omega) (by omega), show (j : Int) + 1 = ((j + 1 : Nat) : Int) by omega]
    cases b with
    | true => rw [if_pos rfl, ih]; simp
    | false =>
      rw [if_neg (by simp), if_pos (by omega), rd55 l j hjl, rhas1_f k i y m d wd mi se l[j] h1 h2 hm1 hm2 (hr _ (List.getElem_mem _)), Option.bind_some, ih, List.drop_eq_getElem_cons hjl, List.any_cons, Bool.false_or]
  | _, _, 0, _, _, hk => absurd hk (by omega)
  | _ + 1, _, 1, _, _, hk => absurd hk (by omega)
  | _ + 1, _, 2, _, _, hk => absurd hk (by omega)
  | _ + 1, _, 3, _, _, hk => absurd hk (by omega)
theorem atL_cons (k : Int) (l : List S55) (n : Int) (r : List (List S55 × Int)) (long : Int) : atL k ((l, n) :: r) long = if l.length = 0 then atL (k + 1) r long else if l.any (inB k long n) = true then atL (k + 1) r long else false := by rw [atL]
theorem rhas_l0 (nm : ByteArray) (l1 l2 l3 l4 l5 : List S55) (ah i y m d wd mi se n : Int) (l : List S55) (t : List (List S55 × Int)) (N : Nat) (hi0 : 0 ≤ i) (hi : i < 5) (hb : l.length ≤ 20) (hp : watchfireref26_part.f nm l1 l2 l3 l4 l5 ah i = some l) (hn : numT i y m d wd mi = n)
    (h1 : 1 ≤ y) (h2 : y ≤ 9999) (hm1 : 1 ≤ m) (hm2 : m ≤ 12) (hr : ∀ x ∈ l, rightB i x.f0 x.f1 = true)
    (hR : ∀ k, N ≤ k → watchfireref26_Has.l0 k (i + 1) nm l1 l2 l3 l4 l5 ah y m d wd mi se = some (atL (i + 1) t (longC y m))) :
    ∀ k, N + 30 ≤ k → watchfireref26_Has.l0 k i nm l1 l2 l3 l4 l5 ah y m d wd mi se = some (atL i ((l, n) :: t) (longC y m)) := by
  intro k hk
  obtain ⟨k, rfl⟩ : ∃ n, k = n + 1 := ⟨k - 1, by omega⟩
  have := rhas_l1 nm l1 l2 l3 l4 l5 ah i y m d wd mi se l (some (atL (i + 1) t (longC y m))) N (by omega) (fun k hk => by rw [wid (x := i + 1) (by omega) (by omega)]; exact hR k hk) h1 h2 hm1 hm2 hr l.length 0 k ((l.length : Int) == 0) (by omega) (by omega)
  rw [show ((0 : Nat) : Int) = 0 from rfl, List.drop_zero, hn] at this
  rw [watchfireref26_Has.l0, if_pos hi, hp, Option.bind_some, this, atL_cons]
  by_cases hz : l.length = 0
  · rw [if_pos hz, hz]; rfl
  · rw [if_neg hz, beq_eq_false_iff_ne.2 (show ¬ (l.length : Int) = 0 by omega), Bool.false_or]
    split <;> rfl
theorem chk_right (ah : Int) : ∀ (k : Int) (ls : List (List S55)), chk k ls ah = 0 → ∀ (j : Nat) (h : j < ls.length), ∀ x ∈ ls[j], rightB (k + j) x.f0 x.f1 = true
  | k, [], hc, j, h => absurd h (by simp)
  | k, l :: t, hc, j, h => by
    unfold chk at hc
    split at hc
    · cases hc
    split at hc
    · rename_i hall
      cases j with
      | zero =>
        intro x hx
        have := List.all_eq_true.1 hall x hx
        simpa using this
      | succ j =>
        intro x hx
        have := chk_right ah (k + 1) t hc j (by simpa using h) x (by simpa using hx)
        rw [show k + ((j + 1 : Nat) : Int) = k + 1 + (j : Int) by omega]
        exact this
    · cases hc
theorem rhas_f (nm : ByteArray) (l1 l2 l3 l4 l5 : List S55) (ah s : Int) (hf : Few l1 l2 l3 l4 l5) (hn : nm.size ≤ 1000) (k : Nat) (hk : 13100 ≤ k) : watchfireref26_Has.f k nm l1 l2 l3 l4 l5 ah s = IHas.f nm l1 l2 l3 l4 l5 ah s := by
  unfold watchfireref26_Has.f IHas.f
  rw [rcheck_f nm l1 l2 l3 l4 l5 ah hf hn k (by omega)]
  unfold ICheck.f
  rw [pname_f, Option.bind_some, Option.bind_some, Option.bind_some]
  by_cases hc : (if nameOk nm = true then chk 0 [l1, l2, l3, l4, l5] ah else 6) = 0
  · rw [if_pos hc, decide_eq_true hc, Bool.true_and, rof_f s ah k (by omega), of_f s ah, Option.bind_some]
    unfold atB
    by_cases he : (ofC s ah).e = 0
    · rw [if_pos he, if_pos he]
      obtain ⟨y1, y2, m1, m2, _, _⟩ := ofC_day s ah he
      have hch : chk 0 [l1, l2, l3, l4, l5] ah = 0 := by
        split at hc
        · exact hc
        · cases hc
      have hr := chk_right ah 0 _ hch
      obtain ⟨f1, f2, f3, f4, f5⟩ := hf
      have r1 := hr 0 (by simp)
      have r2 := hr 1 (by simp)
      have r3 := hr 2 (by simp)
      have r4 := hr 3 (by simp)
      have r5 := hr 4 (by simp)
      simp only [List.getElem_cons_zero, List.getElem_cons_succ] at r1 r2 r3 r4 r5
      simp only
      have h5 : ∀ k, 1 ≤ k → watchfireref26_Has.l0 k (4 + 1) nm l1 l2 l3 l4 l5 ah (ofC s ah).y (ofC s ah).m (ofC s ah).d (ofC s ah).wd (ofC s ah).mi (ofC s ah).se = some (atL (4 + 1) [] (longC (ofC s ah).y (ofC s ah).m)) := by
        intro k hk
        obtain ⟨k, rfl⟩ : ∃ n, k = n + 1 := ⟨k - 1, by omega⟩
        rw [watchfireref26_Has.l0, if_neg (by omega)]
        rfl
      have h4 := rhas_l0 nm l1 l2 l3 l4 l5 ah 4 _ _ _ _ _ _ _ l5 [] 1 (by omega) (by omega) f5 rfl rfl y1 y2 m1 m2 r5 h5
      have h3 := rhas_l0 nm l1 l2 l3 l4 l5 ah 3 _ _ _ _ _ _ _ l4 _ 31 (by omega) (by omega) f4 rfl rfl y1 y2 m1 m2 r4 h4
      have h2 := rhas_l0 nm l1 l2 l3 l4 l5 ah 2 _ _ _ _ _ _ _ l3 _ 61 (by omega) (by omega) f3 rfl rfl y1 y2 m1 m2 r3 h3
      have h1 := rhas_l0 nm l1 l2 l3 l4 l5 ah 1 _ _ _ _ _ _ _ l2 _ 91 (by omega) (by omega) f2 rfl rfl y1 y2 m1 m2 r2 h2
      have h0 := rhas_l0 nm l1 l2 l3 l4 l5 ah 0 _ _ _ _ _ _ _ l1 _ 121 (by omega) (by omega) f1 rfl rfl y1 y2 m1 m2 r1 h1
      exact h0 k (by omega)
    · rw [if_neg he, if_neg he]
  · rw [if_neg hc, decide_eq_false hc, Bool.false_and]
end Go.Proofs.YtgipdacenppmdaaGreatDoor.G
