/- IntervalClock: the plain law and the walk. -/
import Derived.Test.YtgipdacenppmdaaDoorQL
import Derived.Test.YtgipdacenppmdaaDoorIY
import Derived.Test.YtgipdacenppmdaaDoorLN
import Derived.Test.YtgipdacenppmdaaDoorP2
set_option linter.unusedVariables false
set_option linter.unusedSimpArgs false
namespace Go.Proofs.YtgipdacenppmdaaDoor.G
open Go.RowKit Go.Lib Go.Proofs.YtgipdacenppmdaaDoorW.PrintWords Go.Proofs.YtgipdacenppmdaaDoor.P
theorem intervalClock_true (nm : ByteArray) (l1 l2 l3 l4 l5 : List S37) (ah s : Int) (hs1 : 0 ≤ s) (hs2 : s ≤ 4294967295) : watchfirelaw26_IntervalClock.f 10 nm l1 l2 l3 l4 l5 ah s = some true := by
  have hj : ∀ b, watchfirelaw26_IntervalClock.j0 10 s b nm l1 l2 l3 l4 l5 ah = if b = true then ((IAwake.f).bind fun t123 => (some t123)) else ((IHas.f nm l1 l2 l3 l4 l5 ah (wrap64 (s))).bind fun t125 => ((IHas.f nm l1 l2 l3 l4 l5 0 (wrap64 ((wrap64 (s)) + (wrap64 (60 * ah))))).bind fun t126 => (if (t125 == t126) = true then ((IAwake.f).bind fun t127 => (some t127)) else (some false)))) := fun b => by rw [watchfirelaw26_IntervalClock.j0]
  unfold watchfirelaw26_IntervalClock.f
  rw [light_f nm l1 l2 l3 l4 l5 ah 4, Option.bind_some, hj]
  by_cases h : Few l1 l2 l3 l4 l5 ∧ nm.size ≤ 200
  · rw [decide_eq_true h, if_pos rfl, icheck_n, Option.bind_some, hj]
    by_cases hc : (if nameOk nm = true then chk 0 [l1, l2, l3, l4, l5] ah else 6) = 0
    · have hok := ok_of (show ICheck.f nm l1 l2 l3 l4 l5 ah = some 0 by rw [icheck_n, hc])
      obtain ⟨c0, a1, a2⟩ := chk_zero ah 0 _ hok.2
      rw [hc, if_neg (by simp), wid (x := s) (by omega) (by omega), wid (x := 60 * ah) (by omega) (by omega), wid (x := s + 60 * ah) (by omega) (by omega), hasB_f nm l1 l2 l3 l4 l5 ah s hok.1 hok.2, hasB_f nm l1 l2 l3 l4 l5 0 _ hok.1 c0, atB_shift l1 l2 l3 l4 l5 s ah a1 a2 hs1 (by omega)]
      simp only [Option.bind_some, beq_self_eq_true, if_true]
      rfl
    · rw [if_pos (by simpa using hc)]
      rfl
  · rw [decide_eq_false h, if_neg (by simp), if_pos rfl]
    rfl
theorem intervalClock_walk (v0 : Value) (x : S24) (s : Int) (w : World) (hx : k24.K w x v0.cells.toList) (hT : TabS w) (hs : (Lit.int .u32 s).wf = true) :
    Calls Tryd.prog 5 #[v0, .int .u32 s] w fun e w' => e = .returned (.bool true) ∧ Below w.heap.size w w' := by
  obtain ⟨A1, c1, A2, c2, A3, c3, A4, c4, A5, c5, hcs, g1, r1, g2, r2, g3, r3, g4, r4, g5, r5⟩ := k24_open hx
  obtain rfl := agg_of hcs (by simp)
  have h32 := in_u32 hs
  exact watchfirelaw26_IntervalClock.calls 10 x.f0 A1 c1 x.f1 A2 c2 x.f2 A3 c3 x.f3 A4 c4 x.f4 A5 c5 x.f5 x.f6 s true w r1 g1 r2 g2 r3 g3 r4 g4 r5 g5 hT (intervalClock_true _ _ _ _ _ _ _ _ h32.1 h32.2)
end Go.Proofs.YtgipdacenppmdaaDoor.G
