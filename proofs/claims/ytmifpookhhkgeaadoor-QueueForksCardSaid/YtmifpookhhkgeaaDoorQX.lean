/- A call on both queues. -/
import Derived.Test.YtmifpookhhkgeaaDoorQV
set_option linter.unusedVariables false
set_option linter.unusedSimpArgs false
namespace Go.Proofs.YtmifpookhhkgeaaDoor.Q
open Go.RowKit Go.Lib Go.Proofs.YtmifpookhhkgeaaDoorW.PrintWords Go.Proofs.YtmifpookhhkgeaaDoorW.PrintMore Go.Proofs.YtmifpookhhkgeaaDoorW.PrintLast Go.Proofs.YtmifpookhhkgeaaDoor.P Go.Proofs.YtmifpookhhkgeaaDoor.G
theorem takeL_len : ∀ (l : List S47) (room limit : Int), (takeL l room limit).1.length ≤ l.length
  | [], room, limit => by simp [takeL]
  | x :: t, room, limit => by
    rw [takeL_cons]
    split
    · have := takeL_len t (room - sizeE x.f0) limit
      simp; omega
    · have := takeL_len t room limit
      simp; omega
theorem G6.kept {w0 w : World} {p : Nat} (h : G6 w0 w p) : Kept w0 w (fun k => k = p) := ⟨h.size, fun i hi hn => h.block i hi hn⟩
theorem Qv.g6 {B : Nat} {w0 w : World} {p g : Nat} {v : Value} {l : List S47} {came lost : Int} {cells : Array Value} (h : Qv B w0 g v l came lost) (hG : G6 w0 w p) (hp : w0.heap[p]? = some (.cells cells 38 (0, 0))) : Qv B w g v l came lost :=
  h.kept hG.kept (fun e => by
    have := h.cell
    rw [e, hp] at this
    injection this with this
    injection this with _ this _
    exact absurd this (by decide)) (fun b hb e => by
    obtain ⟨_, _, _, cells', hc⟩ := h.row.bound hb
    rw [e, hp] at hc
    injection hc with hc
    injection hc with _ hc _
    exact absurd hc (by decide))
theorem r69_g6 {w0 w : World} {p base : Nat} {ok : Nat → Prop} {v : Value} {xs : List S69} {cells : Array Value} (h : Kd.R k69 69 w0 base ok v xs) (hG : G6 w0 w p) (hp : w0.heap[p]? = some (.cells cells 38 (0, 0))) : Kd.R k69 69 w base ok v xs :=
  Kd.R_mono (Kd.R_step (Kd.R_types h hp (fun q hq => by rw [e69 q hq]; decide)) (fun k hk hlt => hG.block k hlt hk.2)) (fun k hk => hk.1)
theorem r27_g6 {w0 w : World} {p base : Nat} {ok : Nat → Prop} {v : Value} {xs : List S27} {cells : Array Value} (h : Kd.R k27 27 w0 base ok v xs) (hG : G6 w0 w p) (hp : w0.heap[p]? = some (.cells cells 38 (0, 0))) : Kd.R k27 27 w base ok v xs :=
  Kd.R_mono (Kd.R_step (Kd.R_types h hp (fun q hq => by
    have e : k27.E = [] := rfl
    rw [e] at hq
    rcases List.mem_cons.1 hq with rfl | h
    · decide
    · cases h)) (fun k hk hlt => hG.block k hlt hk.2)) (fun k hk => hk.1)
end Go.Proofs.YtmifpookhhkgeaaDoor.Q
