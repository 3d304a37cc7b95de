/-
  DERIVED. GIVEN WITH THE SEED: THE CARDS: each row of YtcjafcbekegmlaaGreatDoorRows.lean that lists a variable, with what it lists TIED to the program's text (the seventh form; the later family's looks); each row that meets fmt, with fmt's text TOLD by the authors' own Lean function (tested against real Go, not proved from fmt's source: count such statements apart). THE CARD IS WHAT COUNTS. Prove the row's statement (the work); the ties are given (YtcjafcbekegmlaaGreatDoorTie.lean); close each card by the builder's one call (the guide's Derived/Test/ToyasCard.lean, 'card_holds'). Laid BY PROGRAM, IN A SANDBOX (cutbox-door.mjs). By AI agents, Wed Nov 11 2026. No macro, syntax, notation, axiom, sorry.
-/
import Derived.Test.YtcjafcbekegmlaaGreatDoorRows
import GoSem.ClaimSeven
namespace Go.Proofs.YtcjafcbekegmlaaGreatDoor
namespace Rows

/-- THE TIED CARD OF 'pharoslaw17.ReceiptProofs'. -/
def receiptProofsCard : Claim7 := { stood := { row := receiptProofsRow, standIns := [], harness := (true, "b792e0bfbdb1e4f28ea2dbd86fdb237093371215350483f7bccf1c72198ccc03"), looks := false }, kinds := [], alts := [], laidByText := true, laidKinds := [.data], laidTests := true, laidLooks := .later }
def ReceiptProofsCardSaid : Prop := Claim7.holds Tryz.pinned (.plain (OpenSpec.ofChange receiptProofsSpec)) receiptProofsCard

/-- THE TIED CARD OF 'pharoslaw14.SpanProves'. -/
def spanProvesCard : Claim7 := { stood := { row := spanProvesRow, standIns := [], harness := (true, "b792e0bfbdb1e4f28ea2dbd86fdb237093371215350483f7bccf1c72198ccc03"), looks := false }, kinds := [], alts := [], laidByText := true, laidKinds := [.data], laidTests := true, laidLooks := .later }
def SpanProvesCardSaid : Prop := Claim7.holds Tryz.pinned (.plain (OpenSpec.ofChange spanProvesSpec)) spanProvesCard

/-- THE TIED CARD OF 'pharoslaw14.SpanVerifies'. -/
def spanVerifiesCard : Claim7 := { stood := { row := spanVerifiesRow, standIns := [], harness := (true, "b792e0bfbdb1e4f28ea2dbd86fdb237093371215350483f7bccf1c72198ccc03"), looks := false }, kinds := [], alts := [], laidByText := true, laidKinds := [.data], laidTests := true, laidLooks := .later }
def SpanVerifiesCardSaid : Prop := Claim7.holds Tryz.pinned (.plain (OpenSpec.ofChange spanVerifiesSpec)) spanVerifiesCard

/-- THE SECOND FORM's CARD OF 'pharoslaw17.ReceiptProofs'. -/
def receiptProofsUptoCard : Claim7 := { stood := { row := receiptProofsUptoRow, standIns := [], harness := (true, "b792e0bfbdb1e4f28ea2dbd86fdb237093371215350483f7bccf1c72198ccc03"), looks := false }, kinds := [], alts := [], laidByText := true, laidKinds := [.data], laidTests := true, laidLooks := .later }
def ReceiptProofsUptoCardSaid : Prop := Claim7.holds Tryz.pinned (.plain (OpenSpec.upto receiptProofsSpec)) receiptProofsUptoCard

/-- THE SECOND FORM's CARD OF 'pharoslaw14.SpanProves'. -/
def spanProvesUptoCard : Claim7 := { stood := { row := spanProvesUptoRow, standIns := [], harness := (true, "b792e0bfbdb1e4f28ea2dbd86fdb237093371215350483f7bccf1c72198ccc03"), looks := false }, kinds := [], alts := [], laidByText := true, laidKinds := [.data], laidTests := true, laidLooks := .later }
def SpanProvesUptoCardSaid : Prop := Claim7.holds Tryz.pinned (.plain (OpenSpec.upto spanProvesSpec)) spanProvesUptoCard

/-- THE SECOND FORM's CARD OF 'pharoslaw14.SpanVerifies'. -/
def spanVerifiesUptoCard : Claim7 := { stood := { row := spanVerifiesUptoRow, standIns := [], harness := (true, "b792e0bfbdb1e4f28ea2dbd86fdb237093371215350483f7bccf1c72198ccc03"), looks := false }, kinds := [], alts := [], laidByText := true, laidKinds := [.data], laidTests := true, laidLooks := .later }
def SpanVerifiesUptoCardSaid : Prop := Claim7.holds Tryz.pinned (.plain (OpenSpec.upto spanVerifiesSpec)) spanVerifiesUptoCard
end Rows
end Go.Proofs.YtcjafcbekegmlaaGreatDoor
