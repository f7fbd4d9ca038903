/-
  DERIVED. GIVEN WITH THE SEED: THE CARDS: each row of YtpbemhjiffnamaaDoorRows.lean that lists a variable, with what it lists TIED to the program's text (the seventh form; the later family's looks); each row that meets fmt, with fmt's text TOLD by the authors' own Lean function (tested against real Go, not proved from fmt's source: count such statements apart). THE CARD IS WHAT COUNTS. Prove the row's statement (the work); the ties are given (YtpbemhjiffnamaaDoorTie.lean); close each card by the builder's one call (the guide's Derived/Test/ToyasCard.lean, 'card_holds'). Laid BY PROGRAM, IN A SANDBOX (cutbox-door.mjs). By AI agents, Wed Nov 11 2026. No macro, syntax, notation, axiom, sorry.
-/
import Derived.Test.YtpbemhjiffnamaaDoorRows
import GoSem.ClaimSeven
namespace Go.Proofs.YtpbemhjiffnamaaDoor
namespace Rows

/-- THE TIED CARD OF 'watchfirelaw08.GroupKeys'. -/
def groupKeysCard : Claim7 := { stood := { row := groupKeysRow, standIns := [], harness := (true, "51d2f94fdc54936894bf25024c69e5ea6621d4f3d820577294a479542cb99122"), looks := true }, kinds := [], alts := [], laidByText := true, laidKinds := [.data, .data, .data, .sentinel, .sentinel], laidTests := true, laidLooks := .later }
def GroupKeysCardSaid : Prop := Claim7.holds Tryd.pinned (.plain (OpenSpec.ofChange groupKeysSpec)) groupKeysCard

/-- THE TIED CARD OF 'watchfirelaw08.GroupCounts'. -/
def groupCountsCard : Claim7 := { stood := { row := groupCountsRow, standIns := [], harness := (true, "51d2f94fdc54936894bf25024c69e5ea6621d4f3d820577294a479542cb99122"), looks := true }, kinds := [], alts := [], laidByText := true, laidKinds := [.data, .data, .data, .sentinel, .sentinel], laidTests := true, laidLooks := .later }
def GroupCountsCardSaid : Prop := Claim7.holds Tryd.pinned (.plain (OpenSpec.ofChange groupCountsSpec)) groupCountsCard

/-- THE TIED CARD OF 'watchfirelaw08.GroupTells'. -/
def groupTellsCard : Claim7 := { stood := { row := groupTellsRow, standIns := [], harness := (true, "51d2f94fdc54936894bf25024c69e5ea6621d4f3d820577294a479542cb99122"), looks := true }, kinds := [], alts := [], laidByText := true, laidKinds := [.data, .data, .data, .sentinel, .sentinel], laidTests := true, laidLooks := .later }
def GroupTellsCardSaid : Prop := Claim7.holds Tryd.pinned (.plain (OpenSpec.ofChange groupTellsSpec)) groupTellsCard

/-- THE SECOND FORM's CARD OF 'watchfirelaw08.GroupKeys'. -/
def groupKeysUptoCard : Claim7 := { stood := { row := groupKeysUptoRow, standIns := [], harness := (true, "51d2f94fdc54936894bf25024c69e5ea6621d4f3d820577294a479542cb99122"), looks := true }, kinds := [], alts := [], laidByText := true, laidKinds := [.data, .data, .data, .sentinel, .sentinel], laidTests := true, laidLooks := .later }
def GroupKeysUptoCardSaid : Prop := Claim7.holds Tryd.pinned (.plain (OpenSpec.upto groupKeysSpec)) groupKeysUptoCard

/-- THE SECOND FORM's CARD OF 'watchfirelaw08.GroupCounts'. -/
def groupCountsUptoCard : Claim7 := { stood := { row := groupCountsUptoRow, standIns := [], harness := (true, "51d2f94fdc54936894bf25024c69e5ea6621d4f3d820577294a479542cb99122"), looks := true }, kinds := [], alts := [], laidByText := true, laidKinds := [.data, .data, .data, .sentinel, .sentinel], laidTests := true, laidLooks := .later }
def GroupCountsUptoCardSaid : Prop := Claim7.holds Tryd.pinned (.plain (OpenSpec.upto groupCountsSpec)) groupCountsUptoCard

/-- THE SECOND FORM's CARD OF 'watchfirelaw08.GroupTells'. -/
def groupTellsUptoCard : Claim7 := { stood := { row := groupTellsUptoRow, standIns := [], harness := (true, "51d2f94fdc54936894bf25024c69e5ea6621d4f3d820577294a479542cb99122"), looks := true }, kinds := [], alts := [], laidByText := true, laidKinds := [.data, .data, .data, .sentinel, .sentinel], laidTests := true, laidLooks := .later }
def GroupTellsUptoCardSaid : Prop := Claim7.holds Tryd.pinned (.plain (OpenSpec.upto groupTellsSpec)) groupTellsUptoCard
end Rows
end Go.Proofs.YtpbemhjiffnamaaDoor
