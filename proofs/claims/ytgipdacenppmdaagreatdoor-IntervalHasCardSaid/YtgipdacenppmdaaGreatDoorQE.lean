/- IntervalHas: the plain law and the walk. -/
import Derived.Test.YtgipdacenppmdaaGreatDoorQD
import Derived.Test.YtgipdacenppmdaaGreatDoorIY
import Derived.Test.YtgipdacenppmdaaGreatDoorP8
import Derived.Test.YtgipdacenppmdaaGreatDoorLN
set_option linter.unusedVariables false
set_option linter.unusedSimpArgs false
namespace Go.Proofs.YtgipdacenppmdaaGreatDoor.G
open Go.RowKit Go.Lib Go.Proofs.YtgipdacenppmdaaGreatDoorW.PrintWords Go.Proofs.YtgipdacenppmdaaGreatDoor.P
theorem icheck_ex (nm : ByteArray) (l1 l2 l3 l4 l5 : List S55) (ah : Int) : ∃ e, ICheck.f nm l1 l2 l3 l4 l5 ah = some e := by
  unfold ICheck.f
  rw [pname_f]
  exact ⟨_, rfl⟩
theorem ihas_ex (nm : ByteArray) (l1 l2 l3 l4 l5 : List S55) (ah s : Int) : ∃ b, IHas.f nm l1 l2 l3 l4 l5 ah s = some b := by
  obtain ⟨e, he⟩ := icheck_ex nm l1 l2 l3 l4 l5 ah
  unfold IHas.f
  rw [he]
  exact ⟨_, rfl⟩
theorem intervalHas_true (nm : ByteArray) (l1 l2 l3 l4 l5 : List S55) (ah s : Int) : watchfirelaw26_IntervalHas.f 14000 nm l1 l2 l3 l4 l5 ah s = some true := by
  unfold watchfirelaw26_IntervalHas.f
  rw [light_f nm l1 l2 l3 l4 l5 ah 13994, Option.bind_some]
  by_cases h : Few l1 l2 l3 l4 l5 ∧ nm.size ≤ 200
  · obtain ⟨e, he⟩ := icheck_ex nm l1 l2 l3 l4 l5 ah
    obtain ⟨b, hb⟩ := ihas_ex nm l1 l2 l3 l4 l5 ah s
    rw [decide_eq_true h, if_pos rfl, rcheck_f nm l1 l2 l3 l4 l5 ah h.1 (by omega) 14000 (by omega), rhas_f nm l1 l2 l3 l4 l5 ah s h.1 (by omega) 14000 (by omega), he, hb]
    simp only [Option.bind_some, if_true, beq_self_eq_true]
    rfl
  · rw [decide_eq_false h, if_neg (by simp)]
    rfl
theorem intervalHas_walk (v0 : Value) (x : S24) (s : Int) (w : World) (hx : k24.K w x v0.cells.toList) (hT : TabS w) :
    Calls Tryz.prog 3 #[v0, .int .i64 s] w fun e w' => e = .returned (.bool true) ∧ Below w.heap.size w w' := by
  obtain ⟨A1, c1, A2, c2, A3, c3, A4, c4, A5, c5, hcs, g1, r1, g2, r2, g3, r3, g4, r4, g5, r5⟩ := k24_open hx
  obtain rfl := agg_of hcs (by simp)
  exact watchfirelaw26_IntervalHas.calls 14000 x.f0 A1 c1 x.f1 A2 c2 x.f2 A3 c3 x.f3 A4 c4 x.f4 A5 c5 x.f5 x.f6 s true w r1 g1 r2 g2 r3 g3 r4 g4 r5 g5 hT (intervalHas_true _ _ _ _ _ _ _ _)
end Go.Proofs.YtgipdacenppmdaaGreatDoor.G
