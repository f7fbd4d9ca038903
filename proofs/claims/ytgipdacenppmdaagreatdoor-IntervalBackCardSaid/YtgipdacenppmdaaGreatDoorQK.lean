/- IntervalBack: the plain law and the walk. -/
import Derived.Test.YtgipdacenppmdaaGreatDoorQC
import Derived.Test.YtgipdacenppmdaaGreatDoorLN
import Derived.Test.YtgipdacenppmdaaGreatDoorIY
import Derived.Test.YtgipdacenppmdaaGreatDoorQP
import Derived.Test.YtgipdacenppmdaaGreatDoorIS
import Derived.Test.YtgipdacenppmdaaGreatDoorP12
set_option linter.unusedVariables false
set_option linter.unusedSimpArgs false
namespace Go.Proofs.YtgipdacenppmdaaGreatDoor.G
open Go.RowKit Go.Lib Go.Proofs.YtgipdacenppmdaaGreatDoorW.PrintWords Go.Proofs.YtgipdacenppmdaaGreatDoor.P
theorem eqL_refl : ∀ l : List S55, eqL l l = true
  | [] => rfl
  | x :: t => by rw [eqL, eqL_refl t]; simp
theorem same_refl (nm : ByteArray) (l1 l2 l3 l4 l5 : List S55) (ah : Int) (hf : Few l1 l2 l3 l4 l5) : ISame.f nm l1 l2 l3 l4 l5 ah nm l1 l2 l3 l4 l5 ah = some true := by
  obtain ⟨f1, f2, f3, f4, f5⟩ := hf
  unfold ISame.f sameT
  rw [if_pos ⟨by omega, by omega, by omega, by omega, by omega⟩]
  simp [eqL_refl]
theorem back_j1 (s : ByteArray) (hs : s.size ≤ 300) (k : Nat) : watchfirelaw26_IntervalBack.j1 (k + 1) s = some true := by
  rw [watchfirelaw26_IntervalBack.j1]
  rcases iread_cases s (by omega) with ⟨nm, l1, l2, l3, l4, l5, ah, hr, ht⟩ | ⟨hr, _⟩
  · rw [hr, Option.bind_some]
    simp only [if_true, ht, Option.bind_some]
    rfl
  · rw [hr, Option.bind_some]
    simp only [show ¬ ((4 : Int) = 0) by omega, if_false]
    rw [same_refl _ [] [] [] [] [] 0 ⟨by simp, by simp, by simp, by simp, by simp⟩]
    rfl
theorem intervalBack_true (nm : ByteArray) (l1 l2 l3 l4 l5 : List S55) (ah : Int) (s : ByteArray) : watchfirelaw26_IntervalBack.f 100 nm l1 l2 l3 l4 l5 ah s = some true := by
  have hj : ∀ b, watchfirelaw26_IntervalBack.j0 100 s b nm l1 l2 l3 l4 l5 ah = if b = true then ((IAwake.f).bind fun t221 => (some t221)) else ((IText.f nm l1 l2 l3 l4 l5 ah).bind fun bt222 => (if bt222.2 = 0 then ((IRead.f bt222.1).bind fun bt224 => (if bt224.2.2.2.2.2.2.2 = 0 then ((ISame.f nm l1 l2 l3 l4 l5 ah bt224.1 bt224.2.1 bt224.2.2.1 bt224.2.2.2.1 bt224.2.2.2.2.1 bt224.2.2.2.2.2.1 bt224.2.2.2.2.2.2.1).bind fun t243 => (if t243 = true then (watchfirelaw26_IntervalBack.j1 99 s) else (some false))) else (some false))) else (watchfirelaw26_IntervalBack.j1 99 s))) := fun b => by rw [watchfirelaw26_IntervalBack.j0]
  unfold watchfirelaw26_IntervalBack.f
  rw [light_f nm l1 l2 l3 l4 l5 ah 94, Option.bind_some, hj, hj]
  by_cases h : Few l1 l2 l3 l4 l5 ∧ nm.size ≤ 200
  · rw [decide_eq_true h, if_pos rfl]
    by_cases h3 : (s.size : Int) > 300
    · rw [decide_eq_true h3, if_pos rfl]; rfl
    · rw [decide_eq_false h3, if_neg (by simp), back_j1 s (by omega) 98]
      obtain ⟨t, e, ht⟩ := itext_ex nm l1 l2 l3 l4 l5 ah
      rw [ht, Option.bind_some]
      by_cases he : e = 0
      · subst he
        simp only [if_true, read_text ht, Option.bind_some, same_refl nm l1 l2 l3 l4 l5 ah h.1]
      · simp only [he, if_false]
  · rw [decide_eq_false h, if_neg (by simp), if_pos rfl]
    rfl
theorem intervalBack_walk (v0 : Value) (x : S24) (s : ByteArray) (w : World) (hx : k24.K w x v0.cells.toList) (hT : TabS w) (hs : s.size ≤ 140737488351232) :
    Calls Tryz.prog 6 #[v0, .string s] w fun e w' => e = .returned (.bool true) ∧ Below w.heap.size w w' := by
  obtain ⟨A1, c1, A2, c2, A3, c3, A4, c4, A5, c5, hcs, g1, r1, g2, r2, g3, r3, g4, r4, g5, r5⟩ := k24_open hx
  obtain rfl := agg_of hcs (by simp)
  exact watchfirelaw26_IntervalBack.calls 100 x.f0 A1 c1 x.f1 A2 c2 x.f2 A3 c3 x.f3 A4 c4 x.f4 A5 c5 x.f5 x.f6 s true w r1 g1 r2 g2 r3 g3 r4 g4 r5 g5 hT (intervalBack_true _ _ _ _ _ _ _ _)
end Go.Proofs.YtgipdacenppmdaaGreatDoor.G
