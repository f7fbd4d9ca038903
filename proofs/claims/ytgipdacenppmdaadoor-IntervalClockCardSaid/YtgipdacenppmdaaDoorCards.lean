/-
  DERIVED. GIVEN WITH THE SEED: THE CARDS: each row of YtgipdacenppmdaaDoorRows.lean that lists a variable, with what it lists TIED to the program's text (the seventh form; the later family's looks); each row that meets fmt, with fmt's text TOLD by the authors' own Lean function (tested against real Go, not proved from fmt's source: count such statements apart). THE CARD IS WHAT COUNTS. Prove the row's statement (the work); the ties are given (YtgipdacenppmdaaDoorTie.lean); close each card by the builder's one call (the guide's Derived/Test/ToyasCard.lean, 'card_holds'). Laid BY PROGRAM, IN A SANDBOX (cutbox-door.mjs). By AI agents, Wed Nov 11 2026. No macro, syntax, notation, axiom, sorry.
-/
import Derived.Test.YtgipdacenppmdaaDoorRows
import GoSem.ClaimSeven
namespace Go.Proofs.YtgipdacenppmdaaDoor
namespace Rows

/-- THE TIED CARD OF 'watchfirelaw26.IntervalNarrow'. -/
def intervalNarrowCard : Claim7 := { stood := { row := intervalNarrowRow, standIns := [], harness := (true, "06e0ed2e657cc275b4f746321c75f9b70c46aaf51de12c4db840b20edda212f4"), looks := true }, kinds := [], alts := [], laidByText := true, laidKinds := [.data, .data, .data, .data, .data, .sentinel, .sentinel, .listed, .data, .pinned], laidTests := true, laidLooks := .later }
def IntervalNarrowCardSaid : Prop := Claim7.holds Tryd.pinned (.plain (OpenSpec.ofChange intervalNarrowSpec)) intervalNarrowCard

/-- THE TIED CARD OF 'watchfirelaw26.IntervalWeeks'. -/
def intervalWeeksCard : Claim7 := { stood := { row := intervalWeeksRow, standIns := [], harness := (true, "06e0ed2e657cc275b4f746321c75f9b70c46aaf51de12c4db840b20edda212f4"), looks := true }, kinds := [], alts := [], laidByText := true, laidKinds := [.data, .data, .data, .data, .data, .sentinel, .sentinel, .listed, .data, .pinned], laidTests := true, laidLooks := .later }
def IntervalWeeksCardSaid : Prop := Claim7.holds Tryd.pinned (.plain (OpenSpec.ofChange intervalWeeksSpec)) intervalWeeksCard

/-- THE TIED CARD OF 'watchfirelaw26.IntervalClock'. -/
def intervalClockCard : Claim7 := { stood := { row := intervalClockRow, standIns := [], harness := (true, "06e0ed2e657cc275b4f746321c75f9b70c46aaf51de12c4db840b20edda212f4"), looks := true }, kinds := [], alts := [], laidByText := true, laidKinds := [.data, .data, .data, .data, .data, .sentinel, .sentinel, .listed, .data, .pinned], laidTests := true, laidLooks := .later }
def IntervalClockCardSaid : Prop := Claim7.holds Tryd.pinned (.plain (OpenSpec.ofChange intervalClockSpec)) intervalClockCard

/-- THE SECOND FORM's CARD OF 'watchfirelaw26.IntervalNarrow'. -/
def intervalNarrowUptoCard : Claim7 := { stood := { row := intervalNarrowUptoRow, standIns := [], harness := (true, "06e0ed2e657cc275b4f746321c75f9b70c46aaf51de12c4db840b20edda212f4"), looks := true }, kinds := [], alts := [], laidByText := true, laidKinds := [.data, .data, .data, .data, .data, .sentinel, .sentinel, .listed, .data, .pinned], laidTests := true, laidLooks := .later }
def IntervalNarrowUptoCardSaid : Prop := Claim7.holds Tryd.pinned (.plain (OpenSpec.upto intervalNarrowSpec)) intervalNarrowUptoCard

/-- THE SECOND FORM's CARD OF 'watchfirelaw26.IntervalWeeks'. -/
def intervalWeeksUptoCard : Claim7 := { stood := { row := intervalWeeksUptoRow, standIns := [], harness := (true, "06e0ed2e657cc275b4f746321c75f9b70c46aaf51de12c4db840b20edda212f4"), looks := true }, kinds := [], alts := [], laidByText := true, laidKinds := [.data, .data, .data, .data, .data, .sentinel, .sentinel, .listed, .data, .pinned], laidTests := true, laidLooks := .later }
def IntervalWeeksUptoCardSaid : Prop := Claim7.holds Tryd.pinned (.plain (OpenSpec.upto intervalWeeksSpec)) intervalWeeksUptoCard

/-- THE SECOND FORM's CARD OF 'watchfirelaw26.IntervalClock'. -/
def intervalClockUptoCard : Claim7 := { stood := { row := intervalClockUptoRow, standIns := [], harness := (true, "06e0ed2e657cc275b4f746321c75f9b70c46aaf51de12c4db840b20edda212f4"), looks := true }, kinds := [], alts := [], laidByText := true, laidKinds := [.data, .data, .data, .data, .data, .sentinel, .sentinel, .listed, .data, .pinned], laidTests := true, laidLooks := .later }
def IntervalClockUptoCardSaid : Prop := Claim7.holds Tryd.pinned (.plain (OpenSpec.upto intervalClockSpec)) intervalClockUptoCard
end Rows
end Go.Proofs.YtgipdacenppmdaaDoor
