/-
  DERIVED. GIVEN WITH THE SEED: THE CARDS: each row of YtjgommaikaeobaaGreatDoorRows.lean that lists a variable, with what it lists TIED to the program's text (the seventh form; the later family's looks); each row that meets fmt, with fmt's text TOLD by the authors' own Lean function (tested against real Go, not proved from fmt's source: count such statements apart). THE CARD IS WHAT COUNTS. Prove the row's statement (the work); the ties are given (YtjgommaikaeobaaGreatDoorTie.lean); close each card by the builder's one call (the guide's Derived/Test/ToyasCard.lean, 'card_holds'). Laid BY PROGRAM, IN A SANDBOX (cutbox-door.mjs). By AI agents, Wed Nov 11 2026. No macro, syntax, notation, axiom, sorry.
-/
import Derived.Test.YtjgommaikaeobaaGreatDoorRows
import GoSem.ClaimSeven
namespace Go.Proofs.YtjgommaikaeobaaGreatDoor
namespace Rows

/-- THE TIED CARD OF 'watchfirelaw02.LabelKeys'. -/
def labelKeysCard : Claim7 := { stood := { row := labelKeysRow, standIns := [], harness := (true, "752b08618ccc10604fe1c5ec0545973484d4d5ce31db99e394850fa7bfc67435"), looks := true }, kinds := [], alts := [], laidByText := true, laidKinds := [.data, .data, .data, .sentinel, .sentinel], laidTests := true, laidLooks := .later }
def LabelKeysCardSaid : Prop := Claim7.holds Tryz.pinned (.plain (OpenSpec.ofChange labelKeysSpec)) labelKeysCard

/-- THE SECOND FORM's CARD OF 'watchfirelaw02.LabelKeys'. -/
def labelKeysUptoCard : Claim7 := { stood := { row := labelKeysUptoRow, standIns := [], harness := (true, "752b08618ccc10604fe1c5ec0545973484d4d5ce31db99e394850fa7bfc67435"), looks := true }, kinds := [], alts := [], laidByText := true, laidKinds := [.data, .data, .data, .sentinel, .sentinel], laidTests := true, laidLooks := .later }
def LabelKeysUptoCardSaid : Prop := Claim7.holds Tryz.pinned (.plain (OpenSpec.upto labelKeysSpec)) labelKeysUptoCard
end Rows
end Go.Proofs.YtjgommaikaeobaaGreatDoor
