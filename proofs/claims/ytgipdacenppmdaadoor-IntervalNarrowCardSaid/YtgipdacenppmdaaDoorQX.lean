/- IntervalNarrow: the plain law; the walk's end. -/
import Derived.Test.YtgipdacenppmdaaDoorQV
import Derived.Test.YtgipdacenppmdaaDoorQL
import Derived.Test.YtgipdacenppmdaaDoorIY
import Derived.Test.YtgipdacenppmdaaDoorLN
set_option linter.unusedVariables false
set_option linter.unusedSimpArgs false
namespace Go.Proofs.YtgipdacenppmdaaDoor.G
open Go.RowKit Go.Lib Go.Proofs.YtgipdacenppmdaaDoorW.PrintWords Go.Proofs.YtgipdacenppmdaaDoor.P
theorem c_nil (w : World) : Kd.C k37 w none ([] : List S37).length ([] : List S37) := ⟨rfl, by simp, fun h => absurd h (by simp)⟩
theorem atL_cons (k : Int) (l : List S37) (n : Int) (r : List (List S37 × Int)) (long : Int) : atL k ((l, n) :: r) long = if l.length = 0 then atL (k + 1) r long else if l.any (inB k long n) = true then atL (k + 1) r long else false := by rw [atL]
/-- What has a row less has no seconds less. -/
theorem atL_less (long : Int) : ∀ (a b : List (List S37 × Int)) (k : Int), a.map (·.2) = b.map (·.2) → (∀ i (h : i < a.length) (h2 : i < b.length), (b[i]).1 = (a[i]).1 ∨ (b[i]).1 = []) → atL k a long = true → atL k b long = true
  | [], [], k, _, _, h => h
  | [], _ :: _, k, hm, _, _ => by simp at hm
  | _ :: _, [], k, hm, _, _ => by simp at hm
  | (l, n) :: r, (l2, n2) :: r2, k, hm, hi, h => by
    rw [List.map_cons, List.map_cons, List.cons.injEq] at hm
    obtain ⟨hn, hm⟩ := hm
    simp only at hn
    subst hn
    have h0 := hi 0 (by simp) (by simp)
    simp only [List.getElem_cons_zero] at h0
    rw [atL_cons] at h ⊢
    have ht : atL (k + 1) r long = true → atL (k + 1) r2 long = true := atL_less long r r2 (k + 1) hm (fun i h1 h2 => by
      have := hi (i + 1) (by simpa using h1) (by simpa using h2)
      simpa using this)
    rcases h0 with e | e
    · rw [e]
      split at h
      · rename_i hz; rw [if_pos hz]; exact ht h
      · rename_i hz
        rw [if_neg hz]
        split at h
        · rename_i ha; rw [if_pos ha]; exact ht h
        · cases h
    · rw [e, if_pos List.length_nil]
      split at h
      · exact ht h
      · split at h
        · exact ht h
        · cases h
theorem atB_less (l1 l2 l3 l4 l5 m1 m2 m3 m4 m5 : List S37) (ah s : Int) (h1 : m1 = l1 ∨ m1 = []) (h2 : m2 = l2 ∨ m2 = []) (h3 : m3 = l3 ∨ m3 = []) (h4 : m4 = l4 ∨ m4 = []) (h5 : m5 = l5 ∨ m5 = []) (h : atB l1 l2 l3 l4 l5 ah s = true) : atB m1 m2 m3 m4 m5 ah s = true := by
  unfold atB at h ⊢
  split at h
  · rename_i he
    rw [if_pos he]
    refine atL_less _ _ _ _ (by rfl) (fun i hi hi2 => ?_) h
    have hi5 : i < 5 := by simpa using hi
    have h5c : i = 0 ∨ i = 1 ∨ i = 2 ∨ i = 3 ∨ i = 4 := by omega
    rcases h5c with rfl | rfl | rfl | rfl | rfl
    · exact h1
    · exact h2
    · exact h3
    · exact h4
    · exact h5
  · cases h
theorem chk_less (ah : Int) : ∀ (a b : List (List S37)) (k : Int), a.length = b.length → (∀ i (h : i < a.length) (h2 : i < b.length), b[i] = a[i] ∨ b[i] = []) → chk k a ah = 0 → chk k b ah = 0
  | [], [], k, _, _, h => h
  | [], _ :: _, k, hm, _, _ => by simp at hm
  | _ :: _, [], k, hm, _, _ => by simp at hm
  | l :: r, l2 :: r2, k, hm, hi, h => by
    have h0 := hi 0 (by simp) (by simp)
    simp only [List.getElem_cons_zero] at h0
    rw [chk_cons] at h ⊢
    split at h
    · cases h
    split at h
    · rename_i h8 hall
      have ht := chk_less ah r r2 (k + 1) (by simpa using hm) (fun i h1 h2 => by
        have := hi (i + 1) (by simpa using h1) (by simpa using h2)
        simpa using this) h
      rcases h0 with e | e
      · rw [e, if_neg h8, if_pos hall, ht]
      · rw [e, if_neg (by simp), if_pos (by simp), ht]
    · cases h
theorem chk_less5 (l1 l2 l3 l4 l5 m1 m2 m3 m4 m5 : List S37) (ah : Int) (h1 : m1 = l1 ∨ m1 = []) (h2 : m2 = l2 ∨ m2 = []) (h3 : m3 = l3 ∨ m3 = []) (h4 : m4 = l4 ∨ m4 = []) (h5 : m5 = l5 ∨ m5 = []) (h : chk 0 [l1, l2, l3, l4, l5] ah = 0) : chk 0 [m1, m2, m3, m4, m5] ah = 0 := by
  refine chk_less ah [l1, l2, l3, l4, l5] [m1, m2, m3, m4, m5] 0 rfl (fun i hi hi2 => ?_) h
  have hi5 : i < 5 := by simpa using hi
  have h5c : i = 0 ∨ i = 1 ∨ i = 2 ∨ i = 3 ∨ i = 4 := by omega
  rcases h5c with rfl | rfl | rfl | rfl | rfl
  · exact h1
  · exact h2
  · exact h3
  · exact h4
  · exact h5
theorem atB_none (ah s : Int) : atB [] [] [] [] [] ah s = decide ((ofC s ah).e = 0) := by
  unfold atB
  by_cases h : (ofC s ah).e = 0
  · rw [if_pos h, decide_eq_true h]; simp [atL]
  · rw [if_neg h, decide_eq_false h]
theorem narrow_walk (v0 : Value) (x : S24) (s h : Int) (w : World) (hx : k24.K w x v0.cells.toList) (hT : TabS w) (hh : (Lit.int .u8 h).wf = true) :
    Calls Tryd.prog 3 #[v0, .int .i64 s, .int .u8 h] w fun e w' => e = .returned (.bool true) ∧ Below w.heap.size w w' := by
  obtain ⟨A1, c1, A2, c2, A3, c3, A4, c4, A5, c5, hcs, g1, r1, g2, r2, g3, r3, g4, r4, g5, r5⟩ := k24_open hx
  obtain rfl := agg_of hcs (by simp)
  have h8 := in_u8 hh
  have nn : ∀ (b : Nat) (W : World), Kd.C k37 W none ([] : List S37).length ([] : List S37) ∧ ([] : List S37).length ≤ 0 := fun _ W => ⟨c_nil W, Nat.le_refl _⟩
  obtain ⟨ec, hec⟩ : ∃ ec, ICheck.f x.f0 x.f1 x.f2 x.f3 x.f4 x.f5 x.f6 = some ec := ⟨_, icheck_n _ _ _ _ _ _ _⟩
  have hof := of_f s x.f6
  obtain ⟨bv, hbv⟩ : ∃ bv, bv = atB x.f1 x.f2 x.f3 x.f4 x.f5 x.f6 s := ⟨_, rfl⟩
  have hok : ec = 0 → nameOk x.f0 = true ∧ chk 0 [x.f1, x.f2, x.f3, x.f4, x.f5] x.f6 = 0 := fun he => ok_of (by rw [hec, he])
  have hless : ∀ m1 m2 m3 m4 m5 : List S37, (m1 = x.f1 ∨ m1 = []) → (m2 = x.f2 ∨ m2 = []) → (m3 = x.f3 ∨ m3 = []) → (m4 = x.f4 ∨ m4 = []) → (m5 = x.f5 ∨ m5 = []) → ec = 0 → bv = true → IHas.f x.f0 m1 m2 m3 m4 m5 x.f6 s = some true := fun m1 m2 m3 m4 m5 e1 e2 e3 e4 e5 he hb => by
    obtain ⟨hn, hc⟩ := hok he
    rw [hasB_f x.f0 m1 m2 m3 m4 m5 x.f6 s hn (chk_less5 _ _ _ _ _ _ _ _ _ _ _ e1 e2 e3 e4 e5 hc), atB_less _ _ _ _ _ _ _ _ _ _ _ _ e1 e2 e3 e4 e5 (by rw [← hbv, hb])]
  refine narrow_any x.f0 A1 x.f1.length c1 A2 x.f2.length c2 A3 x.f3.length c3 A4 x.f4.length c4 A5 x.f5.length c5 x.f6 s h w (decide (Few x.f1 x.f2 x.f3 x.f4 x.f5 ∧ x.f0.size ≤ 200)) ec (ofC s x.f6).y (ofC s x.f6).m (ofC s x.f6).d (ofC s x.f6).wd (ofC s x.f6).mi (ofC s x.f6).se (ofC s x.f6).e bv h8.1 h8.2 ?_ ?_ ?_ ?_ ?_ ?_ ?_ ?_ ?_ ?_ ?_
  · intro W hW
    refine (watchfireref26_Light.calls (0 + 6) x.f0 A1 c1 x.f1 A2 c2 x.f2 A3 c3 x.f3 A4 c4 x.f4 A5 c5 x.f5 x.f6 _ W (Kd.C_below r1 hW) g1 (Kd.C_below r2 hW) g2 (Kd.C_below r3 hW) g3 (Kd.C_below r4 hW) g4 (Kd.C_below r5 hW) g5 (light_f _ _ _ _ _ _ _ 0)).mono ?_
    rintro e w' ⟨rfl, hb⟩
    exact ⟨rfl, hb⟩
  · intro W hW
    exact ICheck.calls x.f0 A1 c1 x.f1 A2 c2 x.f2 A3 c3 x.f3 A4 c4 x.f4 A5 c5 x.f5 x.f6 _ W (Kd.C_below r1 hW) g1 (Kd.C_below r2 hW) g2 (Kd.C_below r3 hW) g3 (Kd.C_below r4 hW) g4 (Kd.C_below r5 hW) g5 hec
  · intro W hW
    exact civil_Of.calls s x.f6 _ _ _ _ _ _ _ W (hT.below hW) hof
  · intro _ he W hW
    obtain ⟨hn, hc⟩ := hok he
    exact IHas.calls x.f0 A1 c1 x.f1 A2 c2 x.f2 A3 c3 x.f3 A4 c4 x.f4 A5 c5 x.f5 x.f6 s _ W (Kd.C_below r1 hW) g1 (Kd.C_below r2 hW) g2 (Kd.C_below r3 hW) g3 (Kd.C_below r4 hW) g4 (Kd.C_below r5 hW) g5 (hT.below hW) (by rw [hasB_f _ _ _ _ _ _ _ _ hn hc, hbv])
  · intro _ he W hW
    obtain ⟨hn, hc⟩ := hok he
    have hc0 : chk 0 [[], [], [], [], []] x.f6 = 0 := chk_less5 _ _ _ _ _ _ _ _ _ _ _ (.inr rfl) (.inr rfl) (.inr rfl) (.inr rfl) (.inr rfl) hc
    exact IHas.calls x.f0 none 0 [] none 0 [] none 0 [] none 0 [] none 0 [] x.f6 s _ W (c_nil W) (Nat.le_refl _) (c_nil W) (Nat.le_refl _) (c_nil W) (Nat.le_refl _) (c_nil W) (Nat.le_refl _) (c_nil W) (Nat.le_refl _) (hT.below hW) (by rw [hasB_f _ _ _ _ _ _ _ _ hn hc0, atB_none])
  · intro _ he hb W hW
    exact IHas.calls x.f0 none 0 [] A2 c2 x.f2 A3 c3 x.f3 A4 c4 x.f4 A5 c5 x.f5 x.f6 s _ W (c_nil W) (Nat.le_refl _) (Kd.C_below r2 hW) g2 (Kd.C_below r3 hW) g3 (Kd.C_below r4 hW) g4 (Kd.C_below r5 hW) g5 (hT.below hW) (hless _ _ _ _ _ (.inr rfl) (.inl rfl) (.inl rfl) (.inl rfl) (.inl rfl) he hb)
  · intro _ he hb W hW
    exact IHas.calls x.f0 A1 c1 x.f1 none 0 [] A3 c3 x.f3 A4 c4 x.f4 A5 c5 x.f5 x.f6 s _ W (Kd.C_below r1 hW) g1 (c_nil W) (Nat.le_refl _) (Kd.C_below r3 hW) g3 (Kd.C_below r4 hW) g4 (Kd.C_below r5 hW) g5 (hT.below hW) (hless _ _ _ _ _ (.inl rfl) (.inr rfl) (.inl rfl) (.inl rfl) (.inl rfl) he hb)
  · intro _ he hb W hW
    exact IHas.calls x.f0 A1 c1 x.f1 A2 c2 x.f2 none 0 [] A4 c4 x.f4 A5 c5 x.f5 x.f6 s _ W (Kd.C_below r1 hW) g1 (Kd.C_below r2 hW) g2 (c_nil W) (Nat.le_refl _) (Kd.C_below r4 hW) g4 (Kd.C_below r5 hW) g5 (hT.below hW) (hless _ _ _ _ _ (.inl rfl) (.inl rfl) (.inr rfl) (.inl rfl) (.inl rfl) he hb)
  · intro _ he hb W hW
    exact IHas.calls x.f0 A1 c1 x.f1 A2 c2 x.f2 A3 c3 x.f3 none 0 [] A5 c5 x.f5 x.f6 s _ W (Kd.C_below r1 hW) g1 (Kd.C_below r2 hW) g2 (Kd.C_below r3 hW) g3 (c_nil W) (Nat.le_refl _) (Kd.C_below r5 hW) g5 (hT.below hW) (hless _ _ _ _ _ (.inl rfl) (.inl rfl) (.inl rfl) (.inr rfl) (.inl rfl) he hb)
  · intro _ he hb W hW
    exact IHas.calls x.f0 A1 c1 x.f1 A2 c2 x.f2 A3 c3 x.f3 A4 c4 x.f4 none 0 [] x.f6 s _ W (Kd.C_below r1 hW) g1 (Kd.C_below r2 hW) g2 (Kd.C_below r3 hW) g3 (Kd.C_below r4 hW) g4 (c_nil W) (Nat.le_refl _) (hT.below hW) (hless _ _ _ _ _ (.inl rfl) (.inl rfl) (.inl rfl) (.inl rfl) (.inr rfl) he hb)
  · intro W hW
    exact IAwake.calls true W (hT.below hW) rfl
end Go.Proofs.YtgipdacenppmdaaDoor.G
