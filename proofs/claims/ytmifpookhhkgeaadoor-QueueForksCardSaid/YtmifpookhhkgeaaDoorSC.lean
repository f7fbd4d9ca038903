/- strings.Compare, as a plain Lean function. -/
import Derived.Test.YtmifpookhhkgeaaDoorLay
import Derived.Test.YtmifpookhhkgeaaDoorP0
import Derived.Test.YtmifpookhhkgeaaDoorLayB
import Derived.Sort.Walk0
namespace Go.Proofs.YtmifpookhhkgeaaDoor.G
open Go.RowKit Go.Proofs.YtmifpookhhkgeaaDoorW.PrintWords
def SCmp.f (a0 : ByteArray) (a1 : ByteArray) : Option (Int) := some (Go.Lib.compareBytes a0.data.toList a1.data.toList)
theorem SCmp.calls (a0 : ByteArray) (a1 : ByteArray) (r : Int) (w : World) (h : SCmp.f a0 a1 = some r) :
    Calls Tryd.prog 37 #[.string a0, .string a1] w fun e w' => e = .returned (.int .i64 r) ∧ Drawn0 w w' := by
  have h' := Option.some.inj h
  subst h'
  refine (Tryd.strings_Compare a0 a1 w).mono ?_
  rintro e w' ⟨rfl, rfl⟩
  exact ⟨rfl, Drawn0.refl _⟩
end Go.Proofs.YtmifpookhhkgeaaDoor.G
namespace Go.Proofs.YtmifpookhhkgeaaDoor.G
open Go.RowKit Go.Proofs.YtmifpookhhkgeaaDoorW.PrintWords
def BLen.f (a0 : Int) : Option (Int) := if 0 ≤ a0 ∧ a0 ≤ 18446744073709551615 then some (Go.Lib.bitLen a0.toNat) else none
theorem BLen.calls (a0 : Int) (r : Int) (w : World) (h : BLen.f a0 = some r) :
    Calls Tryd.prog 33 #[.int .u64 a0] w fun e w' => e = .returned (.int .i64 r) ∧ Drawn0 w w' := by
  unfold BLen.f at h
  by_cases hc : 0 ≤ a0 ∧ a0 ≤ 18446744073709551615
  · rw [if_pos hc] at h
    have h' := Option.some.inj h
    subst h'
    refine (Tryd.bits_Len a0 w hc.1 hc.2).mono ?_
    rintro e w' ⟨rfl, rfl⟩
    exact ⟨rfl, Drawn0.refl _⟩
  · rw [if_neg hc] at h; cases h
/-- A text that is greater. -/
theorem gtr9 (t : TypeId) (a b : ByteArray) : binOp .gtr t (.string a) (.string b) = pure (.bool (Op.bytesLess b.toList a.toList)) := by
  have h : (!(Op.bytesLess a.toList b.toList || a.toList == b.toList)) = Op.bytesLess b.toList a.toList := by
    rw [bytesLess_eq, bytesLess_eq]
    by_cases h1 : a.toList < b.toList
    · rw [decide_eq_true h1, decide_eq_false (fun h2 => List.lt_asymm h1 h2)]
      rfl
    · by_cases h2 : a.toList = b.toList
      · rw [h2]; simp [List.lt_irrefl]
      · have h3 : b.toList < a.toList := by
          rcases List.le_iff_lt_or_eq.1 (List.not_lt.1 h1) with h4 | h4
          · exact h4
          · exact absurd h4.symm h2
        rw [decide_eq_false h1, decide_eq_true h3]
        simp [h2]
  rw [← h]
  simp [binOp, Op.stringOp]
end Go.Proofs.YtmifpookhhkgeaaDoor.G
