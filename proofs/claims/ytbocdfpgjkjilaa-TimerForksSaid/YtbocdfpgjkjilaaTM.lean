/- A call of the law, opened from the row's reading. -/
import Derived.Test.YtbocdfpgjkjilaaTK
import Derived.Test.YtbocdfpgjkjilaaOpens
set_option linter.unusedVariables false
set_option linter.unusedSimpArgs false
namespace Go.Proofs.Ytbocdfpgjkjilaa.T
open Go.RowKit Go.Proofs.YtbocdfpgjkjilaaW.PrintWords Go.Proofs.Ytbocdfpgjkjilaa.PTimerPlays

theorem u8_of {n : Int} (h : (Lit.int .u8 n).wf = true) : 0 ≤ n ∧ n < 256 := by
  simp [Lit.wf, IntKind.min, IntKind.max, IntKind.signed, IntKind.bits] at h
  omega
theorem open44 {H : Type} {enc : TypeId × Value → H} {w : World} {base : Nat} {spare : Nat → Bool} {held : Bool} : Opn.Opens enc Try.prog w base spare held 44 k44 ActOk :=
  (Opn.Opens.iso (Opn.Opens.struct Try.underlying44 (by kernel_rfl)
    (Opn.OpT.cons (off := 1) (Opn.Opens.int Try.underlying5) (by kernel_rfl) rfl (Opn.OpT.cons (off := 2) (Opn.Opens.string Try.underlying9) (by kernel_rfl) rfl (Opn.OpT.cons (off := 3) (Opn.Opens.int Try.underlying3) (by kernel_rfl) rfl
      (Opn.OpT.cons (off := 4) (Opn.Opens.int Try.underlying3) (by kernel_rfl) rfl (Opn.OpT.one (Opn.Opens.slice 9 Try.underlying42 (by kernel_rfl) (Opn.Opens.string Try.underlying9)) (by kernel_rfl)))))))
    (fun x : S44 => (x.f0, x.f1, x.f2, x.f3, x.f4)) (fun p => ⟨p.1, p.2.1, p.2.2.1, p.2.2.2.1, p.2.2.2.2⟩) (fun _ => rfl)).imp (fun y h => ⟨u8_of h.1, h.2.1⟩)
theorem openActs {H : Type} {enc : TypeId × Value → H} {w : World} {base : Nat} {spare : Nat → Bool} {held : Bool} : Opn.Opens enc Try.prog w base spare held 35 (Kd.slice 44 k44) (fun l => (∀ y ∈ l, ActOk y) ∧ l.length ≤ maxLen) :=
  Opn.Opens.slice 44 Try.underlying35 (by kernel_rfl) open44
end Go.Proofs.Ytbocdfpgjkjilaa.T
