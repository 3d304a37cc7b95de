/-
  DERIVED. GIVEN WITH THE SEED: THE CARDS: each row of YtnelhjfjkkdoaaaGreatDoorRows.lean that lists a variable, with what it lists TIED to the program's text (the seventh form; the later family's looks); each row that meets fmt, with fmt's text TOLD by the authors' own Lean function (tested against real Go, not proved from fmt's source: count such statements apart). THE CARD IS WHAT COUNTS. Prove the row's statement (the work); the ties are given (YtnelhjfjkkdoaaaGreatDoorTie.lean); close each card by the builder's one call (the guide's Derived/Test/ToyasCard.lean, 'card_holds'). Laid BY PROGRAM, IN A SANDBOX (cutbox-door.mjs). By AI agents, Wed Nov 11 2026. No macro, syntax, notation, axiom, sorry.
-/
import Derived.Test.YtnelhjfjkkdoaaaGreatDoorRows
import GoSem.ClaimSeven
namespace Go.Proofs.YtnelhjfjkkdoaaaGreatDoor
namespace Rows

/-- THE TIED CARD OF 'pharostop.TopVersions'. -/
def topVersionsCard : Claim7 := { stood := { row := topVersionsRow, standIns := [], harness := (true, "62bdef09cd360224515e28b471798749263a2b6dd04891f1e927c06fb78c081e"), looks := false }, kinds := [], alts := [], laidByText := true, laidKinds := [.data], laidTests := true, laidLooks := .later }
def TopVersionsCardSaid : Prop := Claim7.holds Tryz.pinned (.plain (OpenSpec.ofChange topVersionsSpec)) topVersionsCard

/-- THE TIED CARD OF 'pharostop.TopSeqs'. -/
def topSeqsCard : Claim7 := { stood := { row := topSeqsRow, standIns := [], harness := (true, "62bdef09cd360224515e28b471798749263a2b6dd04891f1e927c06fb78c081e"), looks := false }, kinds := [], alts := [], laidByText := true, laidKinds := [.data], laidTests := true, laidLooks := .later }
def TopSeqsCardSaid : Prop := Claim7.holds Tryz.pinned (.plain (OpenSpec.ofChange topSeqsSpec)) topSeqsCard

/-- THE TIED CARD OF 'pharoslaw20.LedgerEpochs'. -/
def ledgerEpochsCard : Claim7 := { stood := { row := ledgerEpochsRow, standIns := [], harness := (true, "62bdef09cd360224515e28b471798749263a2b6dd04891f1e927c06fb78c081e"), looks := false }, kinds := [], alts := [], laidByText := true, laidKinds := [.data], laidTests := true, laidLooks := .later }
def LedgerEpochsCardSaid : Prop := Claim7.holds Tryz.pinned (.plain (OpenSpec.ofChange ledgerEpochsSpec)) ledgerEpochsCard

/-- THE TIED CARD OF 'pharoslaw20.LedgerForks'. -/
def ledgerForksCard : Claim7 := { stood := { row := ledgerForksRow, standIns := [], harness := (true, "62bdef09cd360224515e28b471798749263a2b6dd04891f1e927c06fb78c081e"), looks := false }, kinds := [], alts := [], laidByText := true, laidKinds := [.data], laidTests := true, laidLooks := .later }
def LedgerForksCardSaid : Prop := Claim7.holds Tryz.pinned (.plain (OpenSpec.ofChange ledgerForksSpec)) ledgerForksCard

/-- THE TIED CARD OF 'pharoslaw20.LedgerRoots'. -/
def ledgerRootsCard : Claim7 := { stood := { row := ledgerRootsRow, standIns := [], harness := (true, "62bdef09cd360224515e28b471798749263a2b6dd04891f1e927c06fb78c081e"), looks := false }, kinds := [], alts := [], laidByText := true, laidKinds := [.data], laidTests := true, laidLooks := .later }
def LedgerRootsCardSaid : Prop := Claim7.holds Tryz.pinned (.plain (OpenSpec.ofChange ledgerRootsSpec)) ledgerRootsCard

/-- THE TIED CARD OF 'pharoslaw20.LedgerLinks'. -/
def ledgerLinksCard : Claim7 := { stood := { row := ledgerLinksRow, standIns := [], harness := (true, "62bdef09cd360224515e28b471798749263a2b6dd04891f1e927c06fb78c081e"), looks := false }, kinds := [], alts := [], laidByText := true, laidKinds := [.data], laidTests := true, laidLooks := .later }
def LedgerLinksCardSaid : Prop := Claim7.holds Tryz.pinned (.plain (OpenSpec.ofChange ledgerLinksSpec)) ledgerLinksCard

/-- THE SECOND FORM's CARD OF 'pharostop.TopVersions'. -/
def topVersionsUptoCard : Claim7 := { stood := { row := topVersionsUptoRow, standIns := [], harness := (true, "62bdef09cd360224515e28b471798749263a2b6dd04891f1e927c06fb78c081e"), looks := false }, kinds := [], alts := [], laidByText := true, laidKinds := [.data], laidTests := true, laidLooks := .later }
def TopVersionsUptoCardSaid : Prop := Claim7.holds Tryz.pinned (.plain (OpenSpec.upto topVersionsSpec)) topVersionsUptoCard

/-- THE SECOND FORM's CARD OF 'pharostop.TopSeqs'. -/
def topSeqsUptoCard : Claim7 := { stood := { row := topSeqsUptoRow, standIns := [], harness := (true, "62bdef09cd360224515e28b471798749263a2b6dd04891f1e927c06fb78c081e"), looks := false }, kinds := [], alts := [], laidByText := true, laidKinds := [.data], laidTests := true, laidLooks := .later }
def TopSeqsUptoCardSaid : Prop := Claim7.holds Tryz.pinned (.plain (OpenSpec.upto topSeqsSpec)) topSeqsUptoCard

/-- THE SECOND FORM's CARD OF 'pharoslaw20.LedgerEpochs'. -/
def ledgerEpochsUptoCard : Claim7 := { stood := { row := ledgerEpochsUptoRow, standIns := [], harness := (true, "62bdef09cd360224515e28b471798749263a2b6dd04891f1e927c06fb78c081e"), looks := false }, kinds := [], alts := [], laidByText := true, laidKinds := [.data], laidTests := true, laidLooks := .later }
def LedgerEpochsUptoCardSaid : Prop := Claim7.holds Tryz.pinned (.plain (OpenSpec.upto ledgerEpochsSpec)) ledgerEpochsUptoCard

/-- THE SECOND FORM's CARD OF 'pharoslaw20.LedgerForks'. -/
def ledgerForksUptoCard : Claim7 := { stood := { row := ledgerForksUptoRow, standIns := [], harness := (true, "62bdef09cd360224515e28b471798749263a2b6dd04891f1e927c06fb78c081e"), looks := false }, kinds := [], alts := [], laidByText := true, laidKinds := [.data], laidTests := true, laidLooks := .later }
def LedgerForksUptoCardSaid : Prop := Claim7.holds Tryz.pinned (.plain (OpenSpec.upto ledgerForksSpec)) ledgerForksUptoCard

/-- THE SECOND FORM's CARD OF 'pharoslaw20.LedgerRoots'. -/
def ledgerRootsUptoCard : Claim7 := { stood := { row := ledgerRootsUptoRow, standIns := [], harness := (true, "62bdef09cd360224515e28b471798749263a2b6dd04891f1e927c06fb78c081e"), looks := false }, kinds := [], alts := [], laidByText := true, laidKinds := [.data], laidTests := true, laidLooks := .later }
def LedgerRootsUptoCardSaid : Prop := Claim7.holds Tryz.pinned (.plain (OpenSpec.upto ledgerRootsSpec)) ledgerRootsUptoCard

/-- THE SECOND FORM's CARD OF 'pharoslaw20.LedgerLinks'. -/
def ledgerLinksUptoCard : Claim7 := { stood := { row := ledgerLinksUptoRow, standIns := [], harness := (true, "62bdef09cd360224515e28b471798749263a2b6dd04891f1e927c06fb78c081e"), looks := false }, kinds := [], alts := [], laidByText := true, laidKinds := [.data], laidTests := true, laidLooks := .later }
def LedgerLinksUptoCardSaid : Prop := Claim7.holds Tryz.pinned (.plain (OpenSpec.upto ledgerLinksSpec)) ledgerLinksUptoCard
end Rows
end Go.Proofs.YtnelhjfjkkdoaaaGreatDoor
