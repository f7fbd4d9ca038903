/- IntervalNexts: the plain law and the walk. -/
import Derived.Test.YtgipdacenppmdaaGreatDoorQE
import Derived.Test.YtgipdacenppmdaaGreatDoorP9
set_option linter.unusedVariables false
set_option linter.unusedSimpArgs false
namespace Go.Proofs.YtgipdacenppmdaaGreatDoor.G
open Go.RowKit Go.Lib Go.Proofs.YtgipdacenppmdaaGreatDoorW.PrintWords Go.Proofs.YtgipdacenppmdaaGreatDoor.P
theorem nextC_none (p : Int → Bool) (h : ∀ i, p i = false) : ∀ d m, nextC p d m = (0, false)
  | 0, m => rfl
  | d + 1, m => by unfold nextC; rw [h, if_neg (by simp)]; exact nextC_none p h d (m + 1)
theorem rnext_l0 (nm : ByteArray) (l1 l2 l3 l4 l5 : List S55) (ah s most : Int) (p : Int → Bool) (hm : most ≤ 300) (hs1 : -1125899906842624 ≤ s) (hs2 : s ≤ 1125899906842624)
    (hp : ∀ (k : Nat) (m : Int), 13100 ≤ k → watchfireref26_Has.f k nm l1 l2 l3 l4 l5 ah (s + 60 * m) = some (p m)) :
    ∀ (d m k : Nat), (m : Int) + d = most + 1 → 13101 + d ≤ k → watchfireref26_Next.l0 k s most (m : Int) nm l1 l2 l3 l4 l5 ah = some (nextC p d m)
  | 0, m, k + 1, hd, hk => by
    rw [watchfireref26_Next.l0, if_neg (by omega)]; rfl
  | d + 1, m, k + 1, hd, hk => by
    have ih := rnext_l0 nm l1 l2 l3 l4 l5 ah s most p hm hs1 hs2 hp d (m + 1) k (by omega) (by omega)
    rw [watchfireref26_Next.l0, if_pos (by omega), wid (x := 60 * (m : Int)) (by omega) (by omega), wid (x := s + 60 * (m : Int)) (by omega) (by omega), hp k m (by omega), Option.bind_some, wid (x := (m : Int) + 1) (by omega) (by omega), show (m : Int) + 1 = ((m + 1 : Nat) : Int) by omega, ih]
    conv => rhs; rw [nextC]
    split <;> rfl
  | _, _, 0, _, hk => absurd hk (by omega)
theorem rnext_f (nm : ByteArray) (l1 l2 l3 l4 l5 : List S55) (ah s most : Int) (hf : Few l1 l2 l3 l4 l5) (hn : nm.size ≤ 1000) (hm : most ≤ 300 ∨ 100000 < most) (k : Nat) (hk : 13900 ≤ k) :
    watchfireref26_Next.f k nm l1 l2 l3 l4 l5 ah s most = INext.f nm l1 l2 l3 l4 l5 ah s most := by
  obtain ⟨k, rfl⟩ : ∃ n, k = n + 1 := ⟨k - 1, by omega⟩
  have hj : ∀ b, watchfireref26_Next.j0 (k + 1) s most b nm l1 l2 l3 l4 l5 ah = if b = true then (some (0, false)) else (watchfireref26_Next.l0 k s most 0 nm l1 l2 l3 l4 l5 ah) := fun b => by rw [watchfireref26_Next.j0]
  unfold watchfireref26_Next.f INext.f nextBad
  rw [hj, hj]
  by_cases h1 : most < 0
  · rw [if_pos h1, if_pos rfl, decide_eq_true (Or.inl h1), if_pos rfl]
  rw [if_neg h1]
  by_cases h2 : most > 100000
  · rw [if_pos h2, if_pos rfl, decide_eq_true (Or.inr (Or.inl h2)), if_pos rfl]
  rw [if_neg h2]
  by_cases h3 : s < -1125899906842624
  · rw [if_pos h3, if_pos rfl, decide_eq_true (Or.inr (Or.inr (Or.inl h3))), if_pos rfl]
  rw [if_neg h3]
  by_cases h4 : s > 1125899906842624
  · rw [decide_eq_true h4, if_pos rfl, decide_eq_true (Or.inr (Or.inr (Or.inr h4))), if_pos rfl]
  rw [decide_eq_false h4, if_neg (by simp), decide_eq_false (show ¬ (most < 0 ∨ 100000 < most ∨ s < -1125899906842624 ∨ 1125899906842624 < s) by omega), if_neg (by simp)]
  obtain ⟨e, he⟩ := icheck_ex nm l1 l2 l3 l4 l5 ah
  have hh : ∀ (k : Nat) (m : Int), 13100 ≤ k → watchfireref26_Has.f k nm l1 l2 l3 l4 l5 ah (s + 60 * m) = some (decide (e = 0) && atB l1 l2 l3 l4 l5 ah (s + 60 * m)) := fun k m hk => by
    rw [rhas_f nm l1 l2 l3 l4 l5 ah _ hf hn k hk]
    unfold IHas.f
    rw [he]; rfl
  have hl := rnext_l0 nm l1 l2 l3 l4 l5 ah s most (fun m => decide (e = 0) && atB l1 l2 l3 l4 l5 ah (s + 60 * m)) (by omega) (by omega) (by omega) hh (most + 1).toNat 0 k (by omega) (by omega)
  rw [show ((0 : Nat) : Int) = 0 from rfl] at hl
  rw [hl, he, Option.bind_some]
  by_cases h0 : e = 0
  · rw [if_pos h0, decide_eq_true h0]
    simp only [Bool.true_and]
  · rw [if_neg h0, decide_eq_false h0, nextC_none _ (fun i => by rw [Bool.false_and])]
theorem inext_ex (nm : ByteArray) (l1 l2 l3 l4 l5 : List S55) (ah s m : Int) : ∃ r, INext.f nm l1 l2 l3 l4 l5 ah s m = some r := by
  obtain ⟨e, he⟩ := icheck_ex nm l1 l2 l3 l4 l5 ah
  unfold INext.f
  rw [he]
  split
  · exact ⟨_, rfl⟩
  · exact ⟨_, rfl⟩
theorem intervalNexts_true (nm : ByteArray) (l1 l2 l3 l4 l5 : List S55) (ah s m : Int) : watchfirelaw26_IntervalNexts.f 14000 nm l1 l2 l3 l4 l5 ah s m = some true := by
  have hj : ∀ b, watchfirelaw26_IntervalNexts.j0 14000 s m b nm l1 l2 l3 l4 l5 ah = if b = true then ((IAwake.f).bind fun t167 => (some t167)) else ((INext.f nm l1 l2 l3 l4 l5 ah s m).bind fun bt168 => ((watchfireref26_Next.f 13999 nm l1 l2 l3 l4 l5 ah s m).bind fun bt170 => (if bt168.1 = bt170.1 then (if (bt168.2 == bt170.2) = true then ((IAwake.f).bind fun t172 => (some t172)) else (some false)) else (some false)))) := fun b => by rw [watchfirelaw26_IntervalNexts.j0]
  unfold watchfirelaw26_IntervalNexts.f
  rw [light_f nm l1 l2 l3 l4 l5 ah 13994, Option.bind_some, hj, hj, hj]
  obtain ⟨r, hr⟩ := inext_ex nm l1 l2 l3 l4 l5 ah s m
  by_cases h : Few l1 l2 l3 l4 l5 ∧ nm.size ≤ 200
  · rw [decide_eq_true h, if_pos rfl]
    by_cases h3 : m > 300
    · rw [if_pos h3]
      by_cases h4 : m ≤ 100000
      · rw [decide_eq_true h4, if_pos rfl]; rfl
      · rw [decide_eq_false h4, if_neg (by simp), rnext_f nm l1 l2 l3 l4 l5 ah s m h.1 (by omega) (by omega) 13999 (by omega), hr]
        simp only [Option.bind_some, if_true, beq_self_eq_true]
        rfl
    · rw [if_neg h3, if_neg (by simp), rnext_f nm l1 l2 l3 l4 l5 ah s m h.1 (by omega) (by omega) 13999 (by omega), hr]
      simp only [Option.bind_some, if_true, beq_self_eq_true]
      rfl
  · rw [decide_eq_false h, if_neg (by simp), if_pos rfl]
    rfl
theorem intervalNexts_walk (v0 : Value) (x : S24) (s m : Int) (w : World) (hx : k24.K w x v0.cells.toList) (hT : TabS w) :
    Calls Tryz.prog 5 #[v0, .int .i64 s, .int .i64 m] w fun e w' => e = .returned (.bool true) ∧ Below w.heap.size w w' := by
  obtain ⟨A1, c1, A2, c2, A3, c3, A4, c4, A5, c5, hcs, g1, r1, g2, r2, g3, r3, g4, r4, g5, r5⟩ := k24_open hx
  obtain rfl := agg_of hcs (by simp)
  exact watchfirelaw26_IntervalNexts.calls 14000 x.f0 A1 c1 x.f1 A2 c2 x.f2 A3 c3 x.f3 A4 c4 x.f4 A5 c5 x.f5 x.f6 s m true w r1 g1 r2 g2 r3 g3 r4 g4 r5 g5 hT (intervalNexts_true _ _ _ _ _ _ _ _ _)
end Go.Proofs.YtgipdacenppmdaaGreatDoor.G
