/-
  DERIVED. GIVEN WITH THE SEED: THE CARDS: each row of YtmifpookhhkgeaaDoorRows.lean that lists a variable, with what it lists TIED to the program's text (the seventh form; the later family's looks); each row that meets fmt, with fmt's text TOLD by the authors' own Lean function (tested against real Go, not proved from fmt's source: count such statements apart). THE CARD IS WHAT COUNTS. Prove the row's statement (the work); the ties are given (YtmifpookhhkgeaaDoorTie.lean); close each card by the builder's one call (the guide's Derived/Test/ToyasCard.lean, 'card_holds'). Laid BY PROGRAM, IN A SANDBOX (cutbox-door.mjs). By AI agents, Wed Nov 11 2026. No macro, syntax, notation, axiom, sorry.
-/
import Derived.Test.YtmifpookhhkgeaaDoorRows
import GoSem.ClaimSeven
namespace Go.Proofs.YtmifpookhhkgeaaDoor
namespace Rows

/-- THE TIED CARD OF 'watchfirelaw14.QueueOften'. -/
def queueOftenCard : Claim7 := { stood := { row := queueOftenRow, standIns := [], harness := (true, "1d1b0806548ae2ff14c7206bc7e9d2ebb91c79ac069f6b4b224167562f6bb33b"), looks := false }, kinds := [], alts := [], laidByText := true, laidKinds := [.data, .data, .data], laidTests := true, laidLooks := .later }
def QueueOftenCardSaid : Prop := Claim7.holds Tryd.pinned (.plain (OpenSpec.ofChange queueOftenSpec)) queueOftenCard

/-- THE TIED CARD OF 'watchfirelaw14.QueueRoom'. -/
def queueRoomCard : Claim7 := { stood := { row := queueRoomRow, standIns := [], harness := (true, "1d1b0806548ae2ff14c7206bc7e9d2ebb91c79ac069f6b4b224167562f6bb33b"), looks := false }, kinds := [], alts := [], laidByText := true, laidKinds := [.data, .data, .data], laidTests := true, laidLooks := .later }
def QueueRoomCardSaid : Prop := Claim7.holds Tryd.pinned (.plain (OpenSpec.ofChange queueRoomSpec)) queueRoomCard

/-- THE TIED CARD OF 'watchfirelaw14.QueueLeast'. -/
def queueLeastCard : Claim7 := { stood := { row := queueLeastRow, standIns := [], harness := (true, "1d1b0806548ae2ff14c7206bc7e9d2ebb91c79ac069f6b4b224167562f6bb33b"), looks := false }, kinds := [], alts := [], laidByText := true, laidKinds := [.data, .data, .data], laidTests := true, laidLooks := .later }
def QueueLeastCardSaid : Prop := Claim7.holds Tryd.pinned (.plain (OpenSpec.ofChange queueLeastSpec)) queueLeastCard

/-- THE TIED CARD OF 'watchfirelaw14.QueuePlays'. -/
def queuePlaysCard : Claim7 := { stood := { row := queuePlaysRow, standIns := [], harness := (true, "1d1b0806548ae2ff14c7206bc7e9d2ebb91c79ac069f6b4b224167562f6bb33b"), looks := false }, kinds := [], alts := [], laidByText := true, laidKinds := [.data, .data, .data], laidTests := true, laidLooks := .later }
def QueuePlaysCardSaid : Prop := Claim7.holds Tryd.pinned (.plain (OpenSpec.ofChange queuePlaysSpec)) queuePlaysCard

/-- THE TIED CARD OF 'watchfirelaw14.QueueForks'. -/
def queueForksCard : Claim7 := { stood := { row := queueForksRow, standIns := [], harness := (true, "1d1b0806548ae2ff14c7206bc7e9d2ebb91c79ac069f6b4b224167562f6bb33b"), looks := false }, kinds := [], alts := [], laidByText := true, laidKinds := [.data, .data, .data], laidTests := true, laidLooks := .later }
def QueueForksCardSaid : Prop := Claim7.holds Tryd.pinned (.plain (OpenSpec.ofChange queueForksSpec)) queueForksCard

/-- THE SECOND FORM's CARD OF 'watchfirelaw14.QueueOften'. -/
def queueOftenUptoCard : Claim7 := { stood := { row := queueOftenUptoRow, standIns := [], harness := (true, "1d1b0806548ae2ff14c7206bc7e9d2ebb91c79ac069f6b4b224167562f6bb33b"), looks := false }, kinds := [], alts := [], laidByText := true, laidKinds := [.data, .data, .data], laidTests := true, laidLooks := .later }
def QueueOftenUptoCardSaid : Prop := Claim7.holds Tryd.pinned (.plain (OpenSpec.upto queueOftenSpec)) queueOftenUptoCard

/-- THE SECOND FORM's CARD OF 'watchfirelaw14.QueueRoom'. -/
def queueRoomUptoCard : Claim7 := { stood := { row := queueRoomUptoRow, standIns := [], harness := (true, "1d1b0806548ae2ff14c7206bc7e9d2ebb91c79ac069f6b4b224167562f6bb33b"), looks := false }, kinds := [], alts := [], laidByText := true, laidKinds := [.data, .data, .data], laidTests := true, laidLooks := .later }
def QueueRoomUptoCardSaid : Prop := Claim7.holds Tryd.pinned (.plain (OpenSpec.upto queueRoomSpec)) queueRoomUptoCard

/-- THE SECOND FORM's CARD OF 'watchfirelaw14.QueueLeast'. -/
def queueLeastUptoCard : Claim7 := { stood := { row := queueLeastUptoRow, standIns := [], harness := (true, "1d1b0806548ae2ff14c7206bc7e9d2ebb91c79ac069f6b4b224167562f6bb33b"), looks := false }, kinds := [], alts := [], laidByText := true, laidKinds := [.data, .data, .data], laidTests := true, laidLooks := .later }
def QueueLeastUptoCardSaid : Prop := Claim7.holds Tryd.pinned (.plain (OpenSpec.upto queueLeastSpec)) queueLeastUptoCard

/-- THE SECOND FORM's CARD OF 'watchfirelaw14.QueuePlays'. -/
def queuePlaysUptoCard : Claim7 := { stood := { row := queuePlaysUptoRow, standIns := [], harness := (true, "1d1b0806548ae2ff14c7206bc7e9d2ebb91c79ac069f6b4b224167562f6bb33b"), looks := false }, kinds := [], alts := [], laidByText := true, laidKinds := [.data, .data, .data], laidTests := true, laidLooks := .later }
def QueuePlaysUptoCardSaid : Prop := Claim7.holds Tryd.pinned (.plain (OpenSpec.upto queuePlaysSpec)) queuePlaysUptoCard

/-- THE SECOND FORM's CARD OF 'watchfirelaw14.QueueForks'. -/
def queueForksUptoCard : Claim7 := { stood := { row := queueForksUptoRow, standIns := [], harness := (true, "1d1b0806548ae2ff14c7206bc7e9d2ebb91c79ac069f6b4b224167562f6bb33b"), looks := false }, kinds := [], alts := [], laidByText := true, laidKinds := [.data, .data, .data], laidTests := true, laidLooks := .later }
def QueueForksUptoCardSaid : Prop := Claim7.holds Tryd.pinned (.plain (OpenSpec.upto queueForksSpec)) queueForksUptoCard
end Rows
end Go.Proofs.YtmifpookhhkgeaaDoor
