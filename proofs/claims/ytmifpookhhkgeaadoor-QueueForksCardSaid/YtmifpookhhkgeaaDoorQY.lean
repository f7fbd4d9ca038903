/- Both queues behind some calls; what a row of acts reads as. -/
import Derived.Test.YtmifpookhhkgeaaDoorQX
import Derived.Test.YtmifpookhhkgeaaDoorOpens
set_option linter.unusedVariables false
set_option linter.unusedSimpArgs false
namespace Go.Proofs.YtmifpookhhkgeaaDoor.Q
open Go.RowKit Go.Lib Go.Proofs.YtmifpookhhkgeaaDoorW.PrintWords Go.Proofs.YtmifpookhhkgeaaDoorW.PrintMore Go.Proofs.YtmifpookhhkgeaaDoorW.PrintLast Go.Proofs.YtmifpookhhkgeaaDoor.P Go.Proofs.YtmifpookhhkgeaaDoor.G
structure St (W0 w : World) (g : Nat) (v u : Value) (l L : List S47) (came lost : Int) (N : Nat) : Prop where
  q : Qv W0.heap.size w g v l came lost
  r : Kd.R k69 69 w W0.heap.size (fun _ => True) u (List.map cv L)
  inv : Inv l L came lost N
  low : Below W0.heap.size W0 w
theorem St.below {W0 w w' : World} {g : Nat} {v u : Value} {l L : List S47} {came lost : Int} {N : Nat} (h : St W0 w g v u l L came lost N) (hb : Below w.heap.size w w') : St W0 w' g v u l L came lost N :=
  ⟨h.q.below hb, Kd.R_below h.r hb, h.inv, below_then h.low h.low.size hb⟩
theorem St.g6 {W0 w w' : World} {g p : Nat} {v u : Value} {l L : List S47} {came lost : Int} {N : Nat} {cells : Array Value} (h : St W0 w g v u l L came lost N) (hG : G6 w w' p) (hp : w.heap[p]? = some (.cells cells 38 (0, 0))) (hlo : W0.heap.size ≤ p) : St W0 w' g v u l L came lost N :=
  ⟨h.q.g6 hG hp, r69_g6 h.r hG hp, h.inv, hG.toBelow h.low hlo⟩
/-- A block of another kind stays where both queues change. -/
theorem St.blk {W0 w w' : World} {g : Nat} {v u : Value} {l L : List S47} {came lost : Int} {N : Nat} (h : St W0 w g v u l L came lost N) (hk : Kept w w' (Free g v u)) {k t : Nat} {cells : Array Value} (hb : w.heap[k]? = some (.cells cells t (0, 0))) (h1 : t ≠ 55) (h2 : t ≠ 47) (h3 : t ≠ 69) : w'.heap[k]? = some (.cells cells t (0, 0)) := by
  refine blk_kept hb hk (fun e => ?_)
  rcases e with e | e | e
  · rw [e, h.q.cell] at hb
    injection hb with hb
    injection hb with _ hb _
    exact h1 hb.symm
  · obtain ⟨_, _, _, cells', hc⟩ := h.q.row.bound e
    rw [hc] at hb
    injection hb with hb
    injection hb with _ hb _
    exact h2 hb.symm
  · exact Kd.R_ne h.r hb (fun e2 => h3 e2.symm) e.symm
theorem open27 {H : Type} {enc : TypeId × Value → H} {w : World} {base : Nat} {spare : Nat → Bool} {held : Bool} : Opn.Opens enc Tryd.prog w base spare held 27 k27 (fun _ => True) :=
  (Opn.Opens.iso (Opn.Opens.struct Tryd.underlying27 (by kernel_rfl) (Opn.OpT.cons (off := 1) (Opn.Opens.string Tryd.underlying9) (by kernel_rfl) rfl (Opn.OpT.cons (off := 2) (Opn.Opens.int Tryd.underlying3) (by kernel_rfl) rfl (Opn.OpT.cons (off := 3) (Opn.Opens.int Tryd.underlying25) (by kernel_rfl) rfl (Opn.OpT.cons (off := 4) (Opn.Opens.string Tryd.underlying9) (by kernel_rfl) rfl (Opn.OpT.one (Opn.Opens.int Tryd.underlying3) (by kernel_rfl)))))))
    (fun x : S27 => (x.f0, x.f1, x.f2, x.f3, x.f4)) (fun p => ⟨p.1, p.2.1, p.2.2.1, p.2.2.2.1, p.2.2.2.2⟩) (fun _ => rfl)).imp (fun y h => trivial)
theorem open42 {H : Type} {enc : TypeId × Value → H} {w : World} {base : Nat} {spare : Nat → Bool} {held : Bool} : Opn.Opens enc Tryd.prog w base spare held 42 k42 (fun x => (Lit.int .i64 x.f2).wf = true) :=
  (Opn.Opens.iso (Opn.Opens.struct Tryd.underlying42 (by kernel_rfl) (Opn.OpT.cons (off := 1) (Opn.Opens.bool Tryd.underlying4) (by kernel_rfl) rfl (Opn.OpT.cons (off := 6) open27 (by kernel_rfl) rfl (Opn.OpT.cons (off := 7) (Opn.Opens.int Tryd.underlying3) (by kernel_rfl) rfl (Opn.OpT.one (Opn.Opens.int Tryd.underlying3) (by kernel_rfl))))))
    (fun x : S42 => (x.f0, x.f1, x.f2, x.f3)) (fun p => ⟨p.1, p.2.1, p.2.2.1, p.2.2.2⟩) (fun _ => rfl)).imp (fun y h => h.2.2.1)
def ActsOk (l : List S42) : Prop := ∀ x ∈ l, x.f2 ≤ 9223372036854775807
theorem openActs {H : Type} {enc : TypeId × Value → H} {w : World} {base : Nat} {spare : Nat → Bool} {held : Bool} : Opn.Opens enc Tryd.prog w base spare held 35 (Kd.slice 42 k42) (fun l => ActsOk l ∧ l.length ≤ maxLen) :=
  (Opn.Opens.slice 42 Tryd.underlying35 (by kernel_rfl) open42).imp (fun l h => ⟨fun x hx => by
    have := h.1 x hx
    simp only [Lit.wf, Bool.and_eq_true, decide_eq_true_eq] at this
    exact this.2, h.2⟩)
end Go.Proofs.YtmifpookhhkgeaaDoor.Q
