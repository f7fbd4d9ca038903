/-
  DERIVED. GIVEN WITH THE SEED: THE CARDS: each row of YtgipdacenppmdaaGreatDoorRows.lean that lists a variable, with what it lists TIED to the program's text (the seventh form; the later family's looks); each row that meets fmt, with fmt's text TOLD by the authors' own Lean function (tested against real Go, not proved from fmt's source: count such statements apart). THE CARD IS WHAT COUNTS. Prove the row's statement (the work); the ties are given (YtgipdacenppmdaaGreatDoorTie.lean); close each card by the builder's one call (the guide's Derived/Test/ToyasCard.lean, 'card_holds'). Laid BY PROGRAM, IN A SANDBOX (cutbox-door.mjs). By AI agents, Wed Nov 11 2026. No macro, syntax, notation, axiom, sorry.
-/
import Derived.Test.YtgipdacenppmdaaGreatDoorRows
import GoSem.ClaimSeven
namespace Go.Proofs.YtgipdacenppmdaaGreatDoor
namespace Rows

/-- THE TIED CARD OF 'watchfirelaw26.IntervalHas'. -/
def intervalHasCard : Claim7 := { stood := { row := intervalHasRow, standIns := [], harness := (true, "b25fb69c5777e044783db52fe7fb6c00e636569d5109a9ad5a9b27a64f77a152"), looks := true }, kinds := [], alts := [], laidByText := true, laidKinds := [.data, .data, .data, .data, .data, .sentinel, .sentinel, .listed, .data, .pinned], laidTests := true, laidLooks := .later }
def IntervalHasCardSaid : Prop := Claim7.holds Tryz.pinned (.plain (OpenSpec.ofChange intervalHasSpec)) intervalHasCard

/-- THE TIED CARD OF 'watchfirelaw26.IntervalTexts'. -/
def intervalTextsCard : Claim7 := { stood := { row := intervalTextsRow, standIns := [], harness := (true, "b25fb69c5777e044783db52fe7fb6c00e636569d5109a9ad5a9b27a64f77a152"), looks := true }, kinds := [], alts := [], laidByText := true, laidKinds := [.data, .data, .data, .data, .data, .sentinel, .sentinel, .listed, .data, .pinned], laidTests := true, laidLooks := .later }
def IntervalTextsCardSaid : Prop := Claim7.holds Tryz.pinned (.plain (OpenSpec.ofChange intervalTextsSpec)) intervalTextsCard

/-- THE TIED CARD OF 'watchfirelaw26.IntervalNexts'. -/
def intervalNextsCard : Claim7 := { stood := { row := intervalNextsRow, standIns := [], harness := (true, "b25fb69c5777e044783db52fe7fb6c00e636569d5109a9ad5a9b27a64f77a152"), looks := true }, kinds := [], alts := [], laidByText := true, laidKinds := [.data, .data, .data, .data, .data, .sentinel, .sentinel, .listed, .data, .pinned], laidTests := true, laidLooks := .later }
def IntervalNextsCardSaid : Prop := Claim7.holds Tryz.pinned (.plain (OpenSpec.ofChange intervalNextsSpec)) intervalNextsCard

/-- THE TIED CARD OF 'watchfirelaw26.IntervalBack'. -/
def intervalBackCard : Claim7 := { stood := { row := intervalBackRow, standIns := [], harness := (true, "b25fb69c5777e044783db52fe7fb6c00e636569d5109a9ad5a9b27a64f77a152"), looks := true }, kinds := [], alts := [], laidByText := true, laidKinds := [.data, .data, .data, .data, .data, .sentinel, .sentinel, .listed, .data, .pinned], laidTests := true, laidLooks := .later }
def IntervalBackCardSaid : Prop := Claim7.holds Tryz.pinned (.plain (OpenSpec.ofChange intervalBackSpec)) intervalBackCard

/-- THE TIED CARD OF 'watchfirelaw26.IntervalAny'. -/
def intervalAnyCard : Claim7 := { stood := { row := intervalAnyRow, standIns := [], harness := (true, "b25fb69c5777e044783db52fe7fb6c00e636569d5109a9ad5a9b27a64f77a152"), looks := true }, kinds := [], alts := [], laidByText := true, laidKinds := [.data, .data, .data, .data, .data, .sentinel, .sentinel, .listed, .data, .pinned], laidTests := true, laidLooks := .later }
def IntervalAnyCardSaid : Prop := Claim7.holds Tryz.pinned (.plain (OpenSpec.ofChange intervalAnySpec)) intervalAnyCard

/-- THE SECOND FORM's CARD OF 'watchfirelaw26.IntervalHas'. -/
def intervalHasUptoCard : Claim7 := { stood := { row := intervalHasUptoRow, standIns := [], harness := (true, "b25fb69c5777e044783db52fe7fb6c00e636569d5109a9ad5a9b27a64f77a152"), looks := true }, kinds := [], alts := [], laidByText := true, laidKinds := [.data, .data, .data, .data, .data, .sentinel, .sentinel, .listed, .data, .pinned], laidTests := true, laidLooks := .later }
def IntervalHasUptoCardSaid : Prop := Claim7.holds Tryz.pinned (.plain (OpenSpec.upto intervalHasSpec)) intervalHasUptoCard

/-- THE SECOND FORM's CARD OF 'watchfirelaw26.IntervalTexts'. -/
def intervalTextsUptoCard : Claim7 := { stood := { row := intervalTextsUptoRow, standIns := [], harness := (true, "b25fb69c5777e044783db52fe7fb6c00e636569d5109a9ad5a9b27a64f77a152"), looks := true }, kinds := [], alts := [], laidByText := true, laidKinds := [.data, .data, .data, .data, .data, .sentinel, .sentinel, .listed, .data, .pinned], laidTests := true, laidLooks := .later }
def IntervalTextsUptoCardSaid : Prop := Claim7.holds Tryz.pinned (.plain (OpenSpec.upto intervalTextsSpec)) intervalTextsUptoCard

/-- THE SECOND FORM's CARD OF 'watchfirelaw26.IntervalNexts'. -/
def intervalNextsUptoCard : Claim7 := { stood := { row := intervalNextsUptoRow, standIns := [], harness := (true, "b25fb69c5777e044783db52fe7fb6c00e636569d5109a9ad5a9b27a64f77a152"), looks := true }, kinds := [], alts := [], laidByText := true, laidKinds := [.data, .data, .data, .data, .data, .sentinel, .sentinel, .listed, .data, .pinned], laidTests := true, laidLooks := .later }
def IntervalNextsUptoCardSaid : Prop := Claim7.holds Tryz.pinned (.plain (OpenSpec.upto intervalNextsSpec)) intervalNextsUptoCard

/-- THE SECOND FORM's CARD OF 'watchfirelaw26.IntervalBack'. -/
def intervalBackUptoCard : Claim7 := { stood := { row := intervalBackUptoRow, standIns := [], harness := (true, "b25fb69c5777e044783db52fe7fb6c00e636569d5109a9ad5a9b27a64f77a152"), looks := true }, kinds := [], alts := [], laidByText := true, laidKinds := [.data, .data, .data, .data, .data, .sentinel, .sentinel, .listed, .data, .pinned], laidTests := true, laidLooks := .later }
def IntervalBackUptoCardSaid : Prop := Claim7.holds Tryz.pinned (.plain (OpenSpec.upto intervalBackSpec)) intervalBackUptoCard

/-- THE SECOND FORM's CARD OF 'watchfirelaw26.IntervalAny'. -/
def intervalAnyUptoCard : Claim7 := { stood := { row := intervalAnyUptoRow, standIns := [], harness := (true, "b25fb69c5777e044783db52fe7fb6c00e636569d5109a9ad5a9b27a64f77a152"), looks := true }, kinds := [], alts := [], laidByText := true, laidKinds := [.data, .data, .data, .data, .data, .sentinel, .sentinel, .listed, .data, .pinned], laidTests := true, laidLooks := .later }
def IntervalAnyUptoCardSaid : Prop := Claim7.holds Tryz.pinned (.plain (OpenSpec.upto intervalAnySpec)) intervalAnyUptoCard
end Rows
end Go.Proofs.YtgipdacenppmdaaGreatDoor
