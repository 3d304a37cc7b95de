/-
  DERIVED. GIVEN WITH THE SEED: THE CARDS: each row of YtdkiloganbhfkaaGreatDoorRows.lean that lists a variable, with what it lists TIED to the program's text (the seventh form; the later family's looks); each row that meets fmt, with fmt's text TOLD by the authors' own Lean function (tested against real Go, not proved from fmt's source: count such statements apart). THE CARD IS WHAT COUNTS. Prove the row's statement (the work); the ties are given (YtdkiloganbhfkaaGreatDoorTie.lean); close each card by the builder's one call (the guide's Derived/Test/ToyasCard.lean, 'card_holds'). Laid BY PROGRAM, IN A SANDBOX (cutbox-door.mjs). By AI agents, Wed Nov 11 2026. No macro, syntax, notation, axiom, sorry.
-/
import Derived.Test.YtdkiloganbhfkaaGreatDoorRows
import GoSem.ClaimSeven
namespace Go.Proofs.YtdkiloganbhfkaaGreatDoor
namespace Rows

/-- THE TIED CARD OF 'pharoslaw35.SyncShort'. -/
def syncShortCard : Claim7 := { stood := { row := syncShortRow, standIns := [], harness := (true, "7fc700eb6be01d82ef2a936e156ad7cae77cb38b3e8e4cfb2c595405a5386891"), looks := false }, kinds := [], alts := [], laidByText := true, laidKinds := [.data], laidTests := true, laidLooks := .later }
def SyncShortCardSaid : Prop := Claim7.holds Tryz.pinned (.plain (OpenSpec.ofChange syncShortSpec)) syncShortCard

/-- THE TIED CARD OF 'pharoslaw35.SyncTrue'. -/
def syncTrueCard : Claim7 := { stood := { row := syncTrueRow, standIns := [], harness := (true, "7fc700eb6be01d82ef2a936e156ad7cae77cb38b3e8e4cfb2c595405a5386891"), looks := false }, kinds := [], alts := [], laidByText := true, laidKinds := [.data], laidTests := true, laidLooks := .later }
def SyncTrueCardSaid : Prop := Claim7.holds Tryz.pinned (.plain (OpenSpec.ofChange syncTrueSpec)) syncTrueCard

/-- THE TIED CARD OF 'pharoslaw35.SyncHalves'. -/
def syncHalvesCard : Claim7 := { stood := { row := syncHalvesRow, standIns := [], harness := (true, "7fc700eb6be01d82ef2a936e156ad7cae77cb38b3e8e4cfb2c595405a5386891"), looks := false }, kinds := [], alts := [], laidByText := true, laidKinds := [.data], laidTests := true, laidLooks := .later }
def SyncHalvesCardSaid : Prop := Claim7.holds Tryz.pinned (.plain (OpenSpec.ofChange syncHalvesSpec)) syncHalvesCard

/-- THE TIED CARD OF 'pharoslaw35.SyncPlays'. -/
def syncPlaysCard : Claim7 := { stood := { row := syncPlaysRow, standIns := [], harness := (true, "7fc700eb6be01d82ef2a936e156ad7cae77cb38b3e8e4cfb2c595405a5386891"), looks := false }, kinds := [], alts := [], laidByText := true, laidKinds := [.data], laidTests := true, laidLooks := .later }
def SyncPlaysCardSaid : Prop := Claim7.holds Tryz.pinned (.plain (OpenSpec.ofChange syncPlaysSpec)) syncPlaysCard

/-- THE SECOND FORM's CARD OF 'pharoslaw35.SyncShort'. -/
def syncShortUptoCard : Claim7 := { stood := { row := syncShortUptoRow, standIns := [], harness := (true, "7fc700eb6be01d82ef2a936e156ad7cae77cb38b3e8e4cfb2c595405a5386891"), looks := false }, kinds := [], alts := [], laidByText := true, laidKinds := [.data], laidTests := true, laidLooks := .later }
def SyncShortUptoCardSaid : Prop := Claim7.holds Tryz.pinned (.plain (OpenSpec.upto syncShortSpec)) syncShortUptoCard

/-- THE SECOND FORM's CARD OF 'pharoslaw35.SyncTrue'. -/
def syncTrueUptoCard : Claim7 := { stood := { row := syncTrueUptoRow, standIns := [], harness := (true, "7fc700eb6be01d82ef2a936e156ad7cae77cb38b3e8e4cfb2c595405a5386891"), looks := false }, kinds := [], alts := [], laidByText := true, laidKinds := [.data], laidTests := true, laidLooks := .later }
def SyncTrueUptoCardSaid : Prop := Claim7.holds Tryz.pinned (.plain (OpenSpec.upto syncTrueSpec)) syncTrueUptoCard

/-- THE SECOND FORM's CARD OF 'pharoslaw35.SyncHalves'. -/
def syncHalvesUptoCard : Claim7 := { stood := { row := syncHalvesUptoRow, standIns := [], harness := (true, "7fc700eb6be01d82ef2a936e156ad7cae77cb38b3e8e4cfb2c595405a5386891"), looks := false }, kinds := [], alts := [], laidByText := true, laidKinds := [.data], laidTests := true, laidLooks := .later }
def SyncHalvesUptoCardSaid : Prop := Claim7.holds Tryz.pinned (.plain (OpenSpec.upto syncHalvesSpec)) syncHalvesUptoCard

/-- THE SECOND FORM's CARD OF 'pharoslaw35.SyncPlays'. -/
def syncPlaysUptoCard : Claim7 := { stood := { row := syncPlaysUptoRow, standIns := [], harness := (true, "7fc700eb6be01d82ef2a936e156ad7cae77cb38b3e8e4cfb2c595405a5386891"), looks := false }, kinds := [], alts := [], laidByText := true, laidKinds := [.data], laidTests := true, laidLooks := .later }
def SyncPlaysUptoCardSaid : Prop := Claim7.holds Tryz.pinned (.plain (OpenSpec.upto syncPlaysSpec)) syncPlaysUptoCard
end Rows
end Go.Proofs.YtdkiloganbhfkaaGreatDoor
