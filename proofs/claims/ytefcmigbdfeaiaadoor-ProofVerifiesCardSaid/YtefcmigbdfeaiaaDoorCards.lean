/-
  DERIVED. GIVEN WITH THE SEED: THE CARDS: each row of YtefcmigbdfeaiaaDoorRows.lean that lists a variable, with what it lists TIED to the program's text (the seventh form; the later family's looks); each row that meets fmt, with fmt's text TOLD by the authors' own Lean function (tested against real Go, not proved from fmt's source: count such statements apart). THE CARD IS WHAT COUNTS. Prove the row's statement (the work); the ties are given (YtefcmigbdfeaiaaDoorTie.lean); close each card by the builder's one call (the guide's Derived/Test/ToyasCard.lean, 'card_holds'). Laid BY PROGRAM, IN A SANDBOX (cutbox-door.mjs). By AI agents, Wed Nov 11 2026. No macro, syntax, notation, axiom, sorry.
-/
import Derived.Test.YtefcmigbdfeaiaaDoorRows
import GoSem.ClaimSeven
namespace Go.Proofs.YtefcmigbdfeaiaaDoor
namespace Rows

/-- THE TIED CARD OF 'pharoslaw10.TrieNodes'. -/
def trieNodesCard : Claim7 := { stood := { row := trieNodesRow, standIns := [], harness := (true, "a3ce9cb8c4e2a629f259d13b57465ca405c5959094266fea7fc1b8aea7d1e02e"), looks := false }, kinds := [], alts := [], laidByText := true, laidKinds := [.data], laidTests := true, laidLooks := .later }
def TrieNodesCardSaid : Prop := Claim7.holds Tryd.pinned (.plain (OpenSpec.ofChange trieNodesSpec)) trieNodesCard

/-- THE TIED CARD OF 'pharoslaw10.TrieSaved'. -/
def trieSavedCard : Claim7 := { stood := { row := trieSavedRow, standIns := [], harness := (true, "a3ce9cb8c4e2a629f259d13b57465ca405c5959094266fea7fc1b8aea7d1e02e"), looks := false }, kinds := [], alts := [], laidByText := true, laidKinds := [.data], laidTests := true, laidLooks := .later }
def TrieSavedCardSaid : Prop := Claim7.holds Tryd.pinned (.plain (OpenSpec.ofChange trieSavedSpec)) trieSavedCard

/-- THE TIED CARD OF 'pharoslaw13.ProofProves'. -/
def proofProvesCard : Claim7 := { stood := { row := proofProvesRow, standIns := [], harness := (true, "a3ce9cb8c4e2a629f259d13b57465ca405c5959094266fea7fc1b8aea7d1e02e"), looks := false }, kinds := [], alts := [], laidByText := true, laidKinds := [.data], laidTests := true, laidLooks := .later }
def ProofProvesCardSaid : Prop := Claim7.holds Tryd.pinned (.plain (OpenSpec.ofChange proofProvesSpec)) proofProvesCard

/-- THE TIED CARD OF 'pharoslaw13.ProofVerifies'. -/
def proofVerifiesCard : Claim7 := { stood := { row := proofVerifiesRow, standIns := [], harness := (true, "a3ce9cb8c4e2a629f259d13b57465ca405c5959094266fea7fc1b8aea7d1e02e"), looks := false }, kinds := [], alts := [], laidByText := true, laidKinds := [.data], laidTests := true, laidLooks := .later }
def ProofVerifiesCardSaid : Prop := Claim7.holds Tryd.pinned (.plain (OpenSpec.ofChange proofVerifiesSpec)) proofVerifiesCard

/-- THE TIED CARD OF 'pharoslaw13.ProofTight'. -/
def proofTightCard : Claim7 := { stood := { row := proofTightRow, standIns := [], harness := (true, "a3ce9cb8c4e2a629f259d13b57465ca405c5959094266fea7fc1b8aea7d1e02e"), looks := false }, kinds := [], alts := [], laidByText := true, laidKinds := [.data], laidTests := true, laidLooks := .later }
def ProofTightCardSaid : Prop := Claim7.holds Tryd.pinned (.plain (OpenSpec.ofChange proofTightSpec)) proofTightCard

/-- THE TIED CARD OF 'pharoslaw13.ProofWhole'. -/
def proofWholeCard : Claim7 := { stood := { row := proofWholeRow, standIns := [], harness := (true, "a3ce9cb8c4e2a629f259d13b57465ca405c5959094266fea7fc1b8aea7d1e02e"), looks := false }, kinds := [], alts := [], laidByText := true, laidKinds := [.data], laidTests := true, laidLooks := .later }
def ProofWholeCardSaid : Prop := Claim7.holds Tryd.pinned (.plain (OpenSpec.ofChange proofWholeSpec)) proofWholeCard

/-- THE TIED CARD OF 'pharoslaw13.ProofSound'. -/
def proofSoundCard : Claim7 := { stood := { row := proofSoundRow, standIns := [], harness := (true, "a3ce9cb8c4e2a629f259d13b57465ca405c5959094266fea7fc1b8aea7d1e02e"), looks := false }, kinds := [], alts := [], laidByText := true, laidKinds := [.data], laidTests := true, laidLooks := .later }
def ProofSoundCardSaid : Prop := Claim7.holds Tryd.pinned (.plain (OpenSpec.ofChange proofSoundSpec)) proofSoundCard

/-- THE TIED CARD OF 'pharoslaw17.ReceiptShown'. -/
def receiptShownCard : Claim7 := { stood := { row := receiptShownRow, standIns := [], harness := (true, "a3ce9cb8c4e2a629f259d13b57465ca405c5959094266fea7fc1b8aea7d1e02e"), looks := false }, kinds := [], alts := [], laidByText := true, laidKinds := [.data], laidTests := true, laidLooks := .later }
def ReceiptShownCardSaid : Prop := Claim7.holds Tryd.pinned (.plain (OpenSpec.ofChange receiptShownSpec)) receiptShownCard

/-- THE TIED CARD OF 'pharoslaw17.ReceiptSound'. -/
def receiptSoundCard : Claim7 := { stood := { row := receiptSoundRow, standIns := [], harness := (true, "a3ce9cb8c4e2a629f259d13b57465ca405c5959094266fea7fc1b8aea7d1e02e"), looks := false }, kinds := [], alts := [], laidByText := true, laidKinds := [.data], laidTests := true, laidLooks := .later }
def ReceiptSoundCardSaid : Prop := Claim7.holds Tryd.pinned (.plain (OpenSpec.ofChange receiptSoundSpec)) receiptSoundCard

/-- THE SECOND FORM's CARD OF 'pharoslaw10.TrieNodes'. -/
def trieNodesUptoCard : Claim7 := { stood := { row := trieNodesUptoRow, standIns := [], harness := (true, "a3ce9cb8c4e2a629f259d13b57465ca405c5959094266fea7fc1b8aea7d1e02e"), looks := false }, kinds := [], alts := [], laidByText := true, laidKinds := [.data], laidTests := true, laidLooks := .later }
def TrieNodesUptoCardSaid : Prop := Claim7.holds Tryd.pinned (.plain (OpenSpec.upto trieNodesSpec)) trieNodesUptoCard

/-- THE SECOND FORM's CARD OF 'pharoslaw10.TrieSaved'. -/
def trieSavedUptoCard : Claim7 := { stood := { row := trieSavedUptoRow, standIns := [], harness := (true, "a3ce9cb8c4e2a629f259d13b57465ca405c5959094266fea7fc1b8aea7d1e02e"), looks := false }, kinds := [], alts := [], laidByText := true, laidKinds := [.data], laidTests := true, laidLooks := .later }
def TrieSavedUptoCardSaid : Prop := Claim7.holds Tryd.pinned (.plain (OpenSpec.upto trieSavedSpec)) trieSavedUptoCard

/-- THE SECOND FORM's CARD OF 'pharoslaw13.ProofProves'. -/
def proofProvesUptoCard : Claim7 := { stood := { row := proofProvesUptoRow, standIns := [], harness := (true, "a3ce9cb8c4e2a629f259d13b57465ca405c5959094266fea7fc1b8aea7d1e02e"), looks := false }, kinds := [], alts := [], laidByText := true, laidKinds := [.data], laidTests := true, laidLooks := .later }
def ProofProvesUptoCardSaid : Prop := Claim7.holds Tryd.pinned (.plain (OpenSpec.upto proofProvesSpec)) proofProvesUptoCard

/-- THE SECOND FORM's CARD OF 'pharoslaw13.ProofVerifies'. -/
def proofVerifiesUptoCard : Claim7 := { stood := { row := proofVerifiesUptoRow, standIns := [], harness := (true, "a3ce9cb8c4e2a629f259d13b57465ca405c5959094266fea7fc1b8aea7d1e02e"), looks := false }, kinds := [], alts := [], laidByText := true, laidKinds := [.data], laidTests := true, laidLooks := .later }
def ProofVerifiesUptoCardSaid : Prop := Claim7.holds Tryd.pinned (.plain (OpenSpec.upto proofVerifiesSpec)) proofVerifiesUptoCard

/-- THE SECOND FORM's CARD OF 'pharoslaw13.ProofTight'. -/
def proofTightUptoCard : Claim7 := { stood := { row := proofTightUptoRow, standIns := [], harness := (true, "a3ce9cb8c4e2a629f259d13b57465ca405c5959094266fea7fc1b8aea7d1e02e"), looks := false }, kinds := [], alts := [], laidByText := true, laidKinds := [.data], laidTests := true, laidLooks := .later }
def ProofTightUptoCardSaid : Prop := Claim7.holds Tryd.pinned (.plain (OpenSpec.upto proofTightSpec)) proofTightUptoCard

/-- THE SECOND FORM's CARD OF 'pharoslaw13.ProofWhole'. -/
def proofWholeUptoCard : Claim7 := { stood := { row := proofWholeUptoRow, standIns := [], harness := (true, "a3ce9cb8c4e2a629f259d13b57465ca405c5959094266fea7fc1b8aea7d1e02e"), looks := false }, kinds := [], alts := [], laidByText := true, laidKinds := [.data], laidTests := true, laidLooks := .later }
def ProofWholeUptoCardSaid : Prop := Claim7.holds Tryd.pinned (.plain (OpenSpec.upto proofWholeSpec)) proofWholeUptoCard

/-- THE SECOND FORM's CARD OF 'pharoslaw13.ProofSound'. -/
def proofSoundUptoCard : Claim7 := { stood := { row := proofSoundUptoRow, standIns := [], harness := (true, "a3ce9cb8c4e2a629f259d13b57465ca405c5959094266fea7fc1b8aea7d1e02e"), looks := false }, kinds := [], alts := [], laidByText := true, laidKinds := [.data], laidTests := true, laidLooks := .later }
def ProofSoundUptoCardSaid : Prop := Claim7.holds Tryd.pinned (.plain (OpenSpec.upto proofSoundSpec)) proofSoundUptoCard

/-- THE SECOND FORM's CARD OF 'pharoslaw17.ReceiptShown'. -/
def receiptShownUptoCard : Claim7 := { stood := { row := receiptShownUptoRow, standIns := [], harness := (true, "a3ce9cb8c4e2a629f259d13b57465ca405c5959094266fea7fc1b8aea7d1e02e"), looks := false }, kinds := [], alts := [], laidByText := true, laidKinds := [.data], laidTests := true, laidLooks := .later }
def ReceiptShownUptoCardSaid : Prop := Claim7.holds Tryd.pinned (.plain (OpenSpec.upto receiptShownSpec)) receiptShownUptoCard

/-- THE SECOND FORM's CARD OF 'pharoslaw17.ReceiptSound'. -/
def receiptSoundUptoCard : Claim7 := { stood := { row := receiptSoundUptoRow, standIns := [], harness := (true, "a3ce9cb8c4e2a629f259d13b57465ca405c5959094266fea7fc1b8aea7d1e02e"), looks := false }, kinds := [], alts := [], laidByText := true, laidKinds := [.data], laidTests := true, laidLooks := .later }
def ReceiptSoundUptoCardSaid : Prop := Claim7.holds Tryd.pinned (.plain (OpenSpec.upto receiptSoundSpec)) receiptSoundUptoCard
end Rows
end Go.Proofs.YtefcmigbdfeaiaaDoor
