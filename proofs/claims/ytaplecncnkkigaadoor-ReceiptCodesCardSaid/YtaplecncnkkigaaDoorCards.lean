/-
  DERIVED. GIVEN WITH THE SEED: THE CARDS: each row of YtaplecncnkkigaaDoorRows.lean that lists a variable, with what it lists TIED to the program's text (the seventh form; the later family's looks); each row that meets fmt, with fmt's text TOLD by the authors' own Lean function (tested against real Go, not proved from fmt's source: count such statements apart). THE CARD IS WHAT COUNTS. Prove the row's statement (the work); the ties are given (YtaplecncnkkigaaDoorTie.lean); close each card by the builder's one call (the guide's Derived/Test/ToyasCard.lean, 'card_holds'). Laid BY PROGRAM, IN A SANDBOX (cutbox-door.mjs). By AI agents, Wed Nov 11 2026. No macro, syntax, notation, axiom, sorry.
-/
import Derived.Test.YtaplecncnkkigaaDoorRows
import GoSem.ClaimSeven
namespace Go.Proofs.YtaplecncnkkigaaDoor
namespace Rows

/-- THE TIED CARD OF 'pharoslaw10.TrieNodes'. -/
def trieNodesCard : Claim7 := { stood := { row := trieNodesRow, standIns := [], harness := (true, "03901dfeae9134969b74ec3fcdaff6efebc1ce1f3d098b423d0fe75cc4c740bf"), looks := false }, kinds := [], alts := [], laidByText := true, laidKinds := [.data], laidTests := true, laidLooks := .later }
def TrieNodesCardSaid : Prop := Claim7.holds Tryd.pinned (.plain (OpenSpec.ofChange trieNodesSpec)) trieNodesCard

/-- THE TIED CARD OF 'pharoslaw10.TriePlays'. -/
def triePlaysCard : Claim7 := { stood := { row := triePlaysRow, standIns := [], harness := (true, "03901dfeae9134969b74ec3fcdaff6efebc1ce1f3d098b423d0fe75cc4c740bf"), looks := false }, kinds := [], alts := [], laidByText := true, laidKinds := [.data], laidTests := true, laidLooks := .later }
def TriePlaysCardSaid : Prop := Claim7.holds Tryd.pinned (.plain (OpenSpec.ofChange triePlaysSpec)) triePlaysCard

/-- THE TIED CARD OF 'pharoslaw10.TrieMap'. -/
def trieMapCard : Claim7 := { stood := { row := trieMapRow, standIns := [], harness := (true, "03901dfeae9134969b74ec3fcdaff6efebc1ce1f3d098b423d0fe75cc4c740bf"), looks := false }, kinds := [], alts := [], laidByText := true, laidKinds := [.data], laidTests := true, laidLooks := .later }
def TrieMapCardSaid : Prop := Claim7.holds Tryd.pinned (.plain (OpenSpec.ofChange trieMapSpec)) trieMapCard

/-- THE TIED CARD OF 'pharoslaw10.TrieOne'. -/
def trieOneCard : Claim7 := { stood := { row := trieOneRow, standIns := [], harness := (true, "03901dfeae9134969b74ec3fcdaff6efebc1ce1f3d098b423d0fe75cc4c740bf"), looks := false }, kinds := [], alts := [], laidByText := true, laidKinds := [.data], laidTests := true, laidLooks := .later }
def TrieOneCardSaid : Prop := Claim7.holds Tryd.pinned (.plain (OpenSpec.ofChange trieOneSpec)) trieOneCard

/-- THE TIED CARD OF 'pharoslaw10.TrieTurns'. -/
def trieTurnsCard : Claim7 := { stood := { row := trieTurnsRow, standIns := [], harness := (true, "03901dfeae9134969b74ec3fcdaff6efebc1ce1f3d098b423d0fe75cc4c740bf"), looks := false }, kinds := [], alts := [], laidByText := true, laidKinds := [.data], laidTests := true, laidLooks := .later }
def TrieTurnsCardSaid : Prop := Claim7.holds Tryd.pinned (.plain (OpenSpec.ofChange trieTurnsSpec)) trieTurnsCard

/-- THE TIED CARD OF 'pharoslaw10.TrieRange'. -/
def trieRangeCard : Claim7 := { stood := { row := trieRangeRow, standIns := [], harness := (true, "03901dfeae9134969b74ec3fcdaff6efebc1ce1f3d098b423d0fe75cc4c740bf"), looks := false }, kinds := [], alts := [], laidByText := true, laidKinds := [.data], laidTests := true, laidLooks := .later }
def TrieRangeCardSaid : Prop := Claim7.holds Tryd.pinned (.plain (OpenSpec.ofChange trieRangeSpec)) trieRangeCard

/-- THE TIED CARD OF 'pharoslaw17.ReceiptCodes'. -/
def receiptCodesCard : Claim7 := { stood := { row := receiptCodesRow, standIns := [], harness := (true, "03901dfeae9134969b74ec3fcdaff6efebc1ce1f3d098b423d0fe75cc4c740bf"), looks := false }, kinds := [], alts := [], laidByText := true, laidKinds := [.data], laidTests := true, laidLooks := .later }
def ReceiptCodesCardSaid : Prop := Claim7.holds Tryd.pinned (.plain (OpenSpec.ofChange receiptCodesSpec)) receiptCodesCard

/-- THE TIED CARD OF 'pharoslaw17.ReceiptBack'. -/
def receiptBackCard : Claim7 := { stood := { row := receiptBackRow, standIns := [], harness := (true, "03901dfeae9134969b74ec3fcdaff6efebc1ce1f3d098b423d0fe75cc4c740bf"), looks := false }, kinds := [], alts := [], laidByText := true, laidKinds := [.data], laidTests := true, laidLooks := .later }
def ReceiptBackCardSaid : Prop := Claim7.holds Tryd.pinned (.plain (OpenSpec.ofChange receiptBackSpec)) receiptBackCard

/-- THE TIED CARD OF 'pharoslaw10.TrieSaved'. -/
def trieSavedCard : Claim7 := { stood := { row := trieSavedRow, standIns := [], harness := (true, "03901dfeae9134969b74ec3fcdaff6efebc1ce1f3d098b423d0fe75cc4c740bf"), looks := false }, kinds := [], alts := [], laidByText := true, laidKinds := [.data], laidTests := true, laidLooks := .later }
def TrieSavedCardSaid : Prop := Claim7.holds Tryd.pinned (.plain (OpenSpec.ofChange trieSavedSpec)) trieSavedCard

/-- THE SECOND FORM's CARD OF 'pharoslaw10.TrieNodes'. -/
def trieNodesUptoCard : Claim7 := { stood := { row := trieNodesUptoRow, standIns := [], harness := (true, "03901dfeae9134969b74ec3fcdaff6efebc1ce1f3d098b423d0fe75cc4c740bf"), looks := false }, kinds := [], alts := [], laidByText := true, laidKinds := [.data], laidTests := true, laidLooks := .later }
def TrieNodesUptoCardSaid : Prop := Claim7.holds Tryd.pinned (.plain (OpenSpec.upto trieNodesSpec)) trieNodesUptoCard

/-- THE SECOND FORM's CARD OF 'pharoslaw10.TriePlays'. -/
def triePlaysUptoCard : Claim7 := { stood := { row := triePlaysUptoRow, standIns := [], harness := (true, "03901dfeae9134969b74ec3fcdaff6efebc1ce1f3d098b423d0fe75cc4c740bf"), looks := false }, kinds := [], alts := [], laidByText := true, laidKinds := [.data], laidTests := true, laidLooks := .later }
def TriePlaysUptoCardSaid : Prop := Claim7.holds Tryd.pinned (.plain (OpenSpec.upto triePlaysSpec)) triePlaysUptoCard

/-- THE SECOND FORM's CARD OF 'pharoslaw10.TrieMap'. -/
def trieMapUptoCard : Claim7 := { stood := { row := trieMapUptoRow, standIns := [], harness := (true, "03901dfeae9134969b74ec3fcdaff6efebc1ce1f3d098b423d0fe75cc4c740bf"), looks := false }, kinds := [], alts := [], laidByText := true, laidKinds := [.data], laidTests := true, laidLooks := .later }
def TrieMapUptoCardSaid : Prop := Claim7.holds Tryd.pinned (.plain (OpenSpec.upto trieMapSpec)) trieMapUptoCard

/-- THE SECOND FORM's CARD OF 'pharoslaw10.TrieOne'. -/
def trieOneUptoCard : Claim7 := { stood := { row := trieOneUptoRow, standIns := [], harness := (true, "03901dfeae9134969b74ec3fcdaff6efebc1ce1f3d098b423d0fe75cc4c740bf"), looks := false }, kinds := [], alts := [], laidByText := true, laidKinds := [.data], laidTests := true, laidLooks := .later }
def TrieOneUptoCardSaid : Prop := Claim7.holds Tryd.pinned (.plain (OpenSpec.upto trieOneSpec)) trieOneUptoCard

/-- THE SECOND FORM's CARD OF 'pharoslaw10.TrieTurns'. -/
def trieTurnsUptoCard : Claim7 := { stood := { row := trieTurnsUptoRow, standIns := [], harness := (true, "03901dfeae9134969b74ec3fcdaff6efebc1ce1f3d098b423d0fe75cc4c740bf"), looks := false }, kinds := [], alts := [], laidByText := true, laidKinds := [.data], laidTests := true, laidLooks := .later }
def TrieTurnsUptoCardSaid : Prop := Claim7.holds Tryd.pinned (.plain (OpenSpec.upto trieTurnsSpec)) trieTurnsUptoCard

/-- THE SECOND FORM's CARD OF 'pharoslaw10.TrieRange'. -/
def trieRangeUptoCard : Claim7 := { stood := { row := trieRangeUptoRow, standIns := [], harness := (true, "03901dfeae9134969b74ec3fcdaff6efebc1ce1f3d098b423d0fe75cc4c740bf"), looks := false }, kinds := [], alts := [], laidByText := true, laidKinds := [.data], laidTests := true, laidLooks := .later }
def TrieRangeUptoCardSaid : Prop := Claim7.holds Tryd.pinned (.plain (OpenSpec.upto trieRangeSpec)) trieRangeUptoCard

/-- THE SECOND FORM's CARD OF 'pharoslaw17.ReceiptCodes'. -/
def receiptCodesUptoCard : Claim7 := { stood := { row := receiptCodesUptoRow, standIns := [], harness := (true, "03901dfeae9134969b74ec3fcdaff6efebc1ce1f3d098b423d0fe75cc4c740bf"), looks := false }, kinds := [], alts := [], laidByText := true, laidKinds := [.data], laidTests := true, laidLooks := .later }
def ReceiptCodesUptoCardSaid : Prop := Claim7.holds Tryd.pinned (.plain (OpenSpec.upto receiptCodesSpec)) receiptCodesUptoCard

/-- THE SECOND FORM's CARD OF 'pharoslaw17.ReceiptBack'. -/
def receiptBackUptoCard : Claim7 := { stood := { row := receiptBackUptoRow, standIns := [], harness := (true, "03901dfeae9134969b74ec3fcdaff6efebc1ce1f3d098b423d0fe75cc4c740bf"), looks := false }, kinds := [], alts := [], laidByText := true, laidKinds := [.data], laidTests := true, laidLooks := .later }
def ReceiptBackUptoCardSaid : Prop := Claim7.holds Tryd.pinned (.plain (OpenSpec.upto receiptBackSpec)) receiptBackUptoCard

/-- THE SECOND FORM's CARD OF 'pharoslaw10.TrieSaved'. -/
def trieSavedUptoCard : Claim7 := { stood := { row := trieSavedUptoRow, standIns := [], harness := (true, "03901dfeae9134969b74ec3fcdaff6efebc1ce1f3d098b423d0fe75cc4c740bf"), looks := false }, kinds := [], alts := [], laidByText := true, laidKinds := [.data], laidTests := true, laidLooks := .later }
def TrieSavedUptoCardSaid : Prop := Claim7.holds Tryd.pinned (.plain (OpenSpec.upto trieSavedSpec)) trieSavedUptoCard
end Rows
end Go.Proofs.YtaplecncnkkigaaDoor
