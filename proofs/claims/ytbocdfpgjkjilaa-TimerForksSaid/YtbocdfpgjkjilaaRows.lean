/-
  No cell of these rows narrows 'for every input' (looked for: loops, veiled, ifaces, maps, wideKeys, modest, calm, conditions, laid).
  DERIVED. THE GIVEN ROWS OF THIS SEAT. 5 by the template 'for every input the law returns true; each argument reads behind the call as it read before'; 0 by the template 'total and deterministic' (their statements: YtbocdfpgjkjilaaTotals.lean).
  GIVEN WITH THE SEED: the statements are not yours to turn. If you find one false, say at which input.
  Laid BY PROGRAM, IN A SANDBOX (cutbox-rows.mjs): the forced cells as the released guide's own fill.sh prints them over the translation 346e31f0b7a92e2d… (all of the seat's roots in one cut). By AI agents, Wed Nov 11 2026. No macro, syntax, notation, axiom, sorry.
-/
import Derived.Test.YtbocdfpgjkjilaaChecked
import GoSem.Claim
import GoSem.ClaimJoined
import GoSem.ClaimMapViews
import Derived.JoinedTies
import Derived.KernelRfl
namespace Go.Proofs.Ytbocdfpgjkjilaa
/- THE CELL 'sum', in the pinned program and in every row, IS THE sha256 OF THE DUMP (.gsa) THAT YtbocdfpgjkjilaaProg.lean LOADS. Nothing in Lean hashes anything: it is a label: what it is worth is what the hold of that sum in a sandbox is worth. -/
noncomputable def Try.pinned : Pinned := { name := "ytbocdfpgjkjilaa", sum := "346e31f0b7a92e2d0f5c82a055e053248e5334dc92f01f9b1559101591f3881a", checked := Try.checked }
namespace Rows
def none {H : Type} : Left H := { results := [], args := [] }

/-- 'watchfirelaw19.TimerFirst': WHATEVER THE INPUT: true; the input reads as it did. -/
def timerFirstSpec : ChangeSpec := { name := "timerFirst", fn := fun _ => fun
  | [d1, d2, d3] => { results := [.lit (.bool true)], args := [d1, d2, d3] }
  | _ => none }
def timerFirstRow : OpenClaim := { program := "ytbocdfpgjkjilaa", sum := "346e31f0b7a92e2d0f5c82a055e053248e5334dc92f01f9b1559101591f3881a", func := "watchfire/watchfirelaw19.TimerFirst", spec := "timerFirst", inPlace := ["internal/bytealg.abigen_runtime_cmpstring"], unfollowed := true, recurses := true, apart := false }
def TimerFirstSaid : Prop := timerFirstRow.holds Try.pinned (OpenSpec.ofChange timerFirstSpec)

/-- ITS FALSE NEIGHBOUR: 'it returns false'. Refute it at one input. -/
def timerFirstWrong : ChangeSpec := { name := "timerFirst", fn := fun _ => fun
  | [d1, d2, d3] => { results := [.lit (.bool false)], args := [d1, d2, d3] }
  | _ => none }
def TimerFirstWrongFalsely : Prop := timerFirstRow.holds Try.pinned (OpenSpec.ofChange timerFirstWrong)

/-- 'watchfirelaw19.TimerPlays': WHATEVER THE INPUT: true; the input reads as it did. -/
def timerPlaysSpec : ChangeSpec := { name := "timerPlays", fn := fun _ => fun
  | [d1, d2, d3] => { results := [.lit (.bool true)], args := [d1, d2, d3] }
  | _ => none }
def timerPlaysRow : OpenClaim := { program := "ytbocdfpgjkjilaa", sum := "346e31f0b7a92e2d0f5c82a055e053248e5334dc92f01f9b1559101591f3881a", func := "watchfire/watchfirelaw19.TimerPlays", spec := "timerPlays", inPlace := ["internal/bytealg.abigen_runtime_cmpstring"], unfollowed := true, recurses := true, apart := false }
def TimerPlaysSaid : Prop := timerPlaysRow.holds Try.pinned (OpenSpec.ofChange timerPlaysSpec)

/-- ITS FALSE NEIGHBOUR: 'it returns false'. Refute it at one input. -/
def timerPlaysWrong : ChangeSpec := { name := "timerPlays", fn := fun _ => fun
  | [d1, d2, d3] => { results := [.lit (.bool false)], args := [d1, d2, d3] }
  | _ => none }
def TimerPlaysWrongFalsely : Prop := timerPlaysRow.holds Try.pinned (OpenSpec.ofChange timerPlaysWrong)

/-- 'watchfirelaw19.TimerOrder': WHATEVER THE INPUT: true; the input reads as it did. -/
def timerOrderSpec : ChangeSpec := { name := "timerOrder", fn := fun _ => fun
  | [d1, d2, d3] => { results := [.lit (.bool true)], args := [d1, d2, d3] }
  | _ => none }
def timerOrderRow : OpenClaim := { program := "ytbocdfpgjkjilaa", sum := "346e31f0b7a92e2d0f5c82a055e053248e5334dc92f01f9b1559101591f3881a", func := "watchfire/watchfirelaw19.TimerOrder", spec := "timerOrder", inPlace := ["internal/bytealg.abigen_runtime_cmpstring"], unfollowed := true, recurses := true, apart := false }
def TimerOrderSaid : Prop := timerOrderRow.holds Try.pinned (OpenSpec.ofChange timerOrderSpec)

/-- ITS FALSE NEIGHBOUR: 'it returns false'. Refute it at one input. -/
def timerOrderWrong : ChangeSpec := { name := "timerOrder", fn := fun _ => fun
  | [d1, d2, d3] => { results := [.lit (.bool false)], args := [d1, d2, d3] }
  | _ => none }
def TimerOrderWrongFalsely : Prop := timerOrderRow.holds Try.pinned (OpenSpec.ofChange timerOrderWrong)

/-- 'watchfirelaw19.TimerForks': WHATEVER THE INPUT: true; the input reads as it did. -/
def timerForksSpec : ChangeSpec := { name := "timerForks", fn := fun _ => fun
  | [d1, d2] => { results := [.lit (.bool true)], args := [d1, d2] }
  | _ => none }
def timerForksRow : OpenClaim := { program := "ytbocdfpgjkjilaa", sum := "346e31f0b7a92e2d0f5c82a055e053248e5334dc92f01f9b1559101591f3881a", func := "watchfire/watchfirelaw19.TimerForks", spec := "timerForks", inPlace := ["internal/bytealg.abigen_runtime_cmpstring", "maps.clone"], unfollowed := true, recurses := true, apart := false }
def TimerForksSaid : Prop := timerForksRow.holds Try.pinned (OpenSpec.ofChange timerForksSpec)

/-- ITS FALSE NEIGHBOUR: 'it returns false'. Refute it at one input. -/
def timerForksWrong : ChangeSpec := { name := "timerForks", fn := fun _ => fun
  | [d1, d2] => { results := [.lit (.bool false)], args := [d1, d2] }
  | _ => none }
def TimerForksWrongFalsely : Prop := timerForksRow.holds Try.pinned (OpenSpec.ofChange timerForksWrong)

/-- 'watchfirelaw19.TimerKeeps': WHATEVER THE INPUT: true; the input reads as it did. -/
def timerKeepsSpec : ChangeSpec := { name := "timerKeeps", fn := fun _ => fun
  | [d1, d2] => { results := [.lit (.bool true)], args := [d1, d2] }
  | _ => none }
def timerKeepsRow : OpenClaim := { program := "ytbocdfpgjkjilaa", sum := "346e31f0b7a92e2d0f5c82a055e053248e5334dc92f01f9b1559101591f3881a", func := "watchfire/watchfirelaw19.TimerKeeps", spec := "timerKeeps", inPlace := ["internal/bytealg.abigen_runtime_cmpstring", "maps.clone"], unfollowed := true, recurses := true, apart := false }
def TimerKeepsSaid : Prop := timerKeepsRow.holds Try.pinned (OpenSpec.ofChange timerKeepsSpec)

/-- ITS FALSE NEIGHBOUR: 'it returns false'. Refute it at one input. -/
def timerKeepsWrong : ChangeSpec := { name := "timerKeeps", fn := fun _ => fun
  | [d1, d2] => { results := [.lit (.bool false)], args := [d1, d2] }
  | _ => none }
def TimerKeepsWrongFalsely : Prop := timerKeepsRow.holds Try.pinned (OpenSpec.ofChange timerKeepsWrong)

/- THE SECOND FORM. 'bulk': how many values and letters a reading holds, each counted each time it is reached (what is shared counts as often as it is met; a slice's spare places count too). A statement '..UptoSaid' is the law's where the arguments, and the package variables that the reading takes, are together of bulk at most 1048576: NARROWER than '..Said'. Prove '..Said' where nothing that the law and all that it calls make is longer than what came in: it says more and counts as full. Else prove '..UptoSaid'. A law counts once. -/
mutual
def uptoBulk {H : Type} : DataW H → Nat
  | .lit (.string bytes) => bytes.length + 1
  | .lit _ => 1
  | .nil => 1
  | .ptr d => uptoBulk d + 1
  | .slice elems spare => uptoBulkAll elems + uptoBulkAll spare + 1
  | .agg parts => uptoBulkAll parts + 1
  | .iface _ d => uptoBulk d + 1
  | .map entries => uptoBulkEntries entries + 1
  | .held _ => 1
def uptoBulkAll {H : Type} : List (DataW H) → Nat
  | [] => 0
  | d :: r => uptoBulk d + uptoBulkAll r
def uptoBulkEntries {H : Type} : List (Lit × DataW H) → Nat
  | [] => 0
  | x :: r => uptoBulkEntry x + uptoBulkEntries r
def uptoBulkEntry {H : Type} : Lit × DataW H → Nat
  | (.string bytes, d) => bytes.length + uptoBulk d + 1
  | (_, d) => uptoBulk d + 1
 end
def uptoSmall : (H : Type) → List (DataW H) → Bool := fun _ ds => decide (uptoBulkAll ds ≤ 1048576)
def OpenSpec.upto (s : _root_.Go.ChangeSpec) : _root_.Go.OpenSpec := { _root_.Go.OpenSpec.ofChange s with cond := some uptoSmall }

/-- 'watchfirelaw19.TimerFirst', WHERE WHAT IT READS IS OF BULK AT MOST 1048576: true; the input reads as it did. -/
def timerFirstUptoRow : OpenClaim := { program := "ytbocdfpgjkjilaa", sum := "346e31f0b7a92e2d0f5c82a055e053248e5334dc92f01f9b1559101591f3881a", func := "watchfire/watchfirelaw19.TimerFirst", spec := "timerFirst", inPlace := ["internal/bytealg.abigen_runtime_cmpstring"], unfollowed := true, recurses := true, apart := false, narrowed := true }
def TimerFirstUptoSaid : Prop := timerFirstUptoRow.holds Try.pinned (OpenSpec.upto timerFirstSpec)

/-- 'watchfirelaw19.TimerPlays', WHERE WHAT IT READS IS OF BULK AT MOST 1048576: true; the input reads as it did. -/
def timerPlaysUptoRow : OpenClaim := { program := "ytbocdfpgjkjilaa", sum := "346e31f0b7a92e2d0f5c82a055e053248e5334dc92f01f9b1559101591f3881a", func := "watchfire/watchfirelaw19.TimerPlays", spec := "timerPlays", inPlace := ["internal/bytealg.abigen_runtime_cmpstring"], unfollowed := true, recurses := true, apart := false, narrowed := true }
def TimerPlaysUptoSaid : Prop := timerPlaysUptoRow.holds Try.pinned (OpenSpec.upto timerPlaysSpec)

/-- 'watchfirelaw19.TimerOrder', WHERE WHAT IT READS IS OF BULK AT MOST 1048576: true; the input reads as it did. -/
def timerOrderUptoRow : OpenClaim := { program := "ytbocdfpgjkjilaa", sum := "346e31f0b7a92e2d0f5c82a055e053248e5334dc92f01f9b1559101591f3881a", func := "watchfire/watchfirelaw19.TimerOrder", spec := "timerOrder", inPlace := ["internal/bytealg.abigen_runtime_cmpstring"], unfollowed := true, recurses := true, apart := false, narrowed := true }
def TimerOrderUptoSaid : Prop := timerOrderUptoRow.holds Try.pinned (OpenSpec.upto timerOrderSpec)

/-- 'watchfirelaw19.TimerForks', WHERE WHAT IT READS IS OF BULK AT MOST 1048576: true; the input reads as it did. -/
def timerForksUptoRow : OpenClaim := { program := "ytbocdfpgjkjilaa", sum := "346e31f0b7a92e2d0f5c82a055e053248e5334dc92f01f9b1559101591f3881a", func := "watchfire/watchfirelaw19.TimerForks", spec := "timerForks", inPlace := ["internal/bytealg.abigen_runtime_cmpstring", "maps.clone"], unfollowed := true, recurses := true, apart := false, narrowed := true }
def TimerForksUptoSaid : Prop := timerForksUptoRow.holds Try.pinned (OpenSpec.upto timerForksSpec)

/-- 'watchfirelaw19.TimerKeeps', WHERE WHAT IT READS IS OF BULK AT MOST 1048576: true; the input reads as it did. -/
def timerKeepsUptoRow : OpenClaim := { program := "ytbocdfpgjkjilaa", sum := "346e31f0b7a92e2d0f5c82a055e053248e5334dc92f01f9b1559101591f3881a", func := "watchfire/watchfirelaw19.TimerKeeps", spec := "timerKeeps", inPlace := ["internal/bytealg.abigen_runtime_cmpstring", "maps.clone"], unfollowed := true, recurses := true, apart := false, narrowed := true }
def TimerKeepsUptoSaid : Prop := timerKeepsUptoRow.holds Try.pinned (OpenSpec.upto timerKeepsSpec)

end Rows
end Go.Proofs.Ytbocdfpgjkjilaa
