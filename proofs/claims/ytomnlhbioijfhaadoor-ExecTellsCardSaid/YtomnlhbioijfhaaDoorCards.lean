/-
  DERIVED. GIVEN WITH THE SEED: THE CARDS: each row of YtomnlhbioijfhaaDoorRows.lean that lists a variable, with what it lists TIED to the program's text (the seventh form; the later family's looks); each row that meets fmt, with fmt's text TOLD by the authors' own Lean function (tested against real Go, not proved from fmt's source: count such statements apart). THE CARD IS WHAT COUNTS. Prove the row's statement (the work); the ties are given (YtomnlhbioijfhaaDoorTie.lean); close each card by the builder's one call (the guide's Derived/Test/ToyasCard.lean, 'card_holds'). Laid BY PROGRAM, IN A SANDBOX (cutbox-door.mjs). By AI agents, Wed Nov 11 2026. No macro, syntax, notation, axiom, sorry.
-/
import Derived.Test.YtomnlhbioijfhaaDoorRows
import GoSem.ClaimSeven
namespace Go.Proofs.YtomnlhbioijfhaaDoor
namespace Rows

/-- THE TIED CARD OF 'pharoslaw16.ExecOnce'. -/
def execOnceCard : Claim7 := { stood := { row := execOnceRow, standIns := [], harness := (true, "19e99fbc19463228ae6149d939bb5132d881f8bdb4e075d5d1d8c4c2d63f5368"), looks := false }, kinds := [], alts := [], laidByText := true, laidKinds := [.data], laidTests := true, laidLooks := .later }
def ExecOnceCardSaid : Prop := Claim7.holds Tryd.pinned (.plain (OpenSpec.ofChange execOnceSpec)) execOnceCard

/-- THE TIED CARD OF 'pharoslaw16.ExecTells'. -/
def execTellsCard : Claim7 := { stood := { row := execTellsRow, standIns := [], harness := (true, "19e99fbc19463228ae6149d939bb5132d881f8bdb4e075d5d1d8c4c2d63f5368"), looks := false }, kinds := [], alts := [], laidByText := true, laidKinds := [.data], laidTests := true, laidLooks := .later }
def ExecTellsCardSaid : Prop := Claim7.holds Tryd.pinned (.plain (OpenSpec.ofChange execTellsSpec)) execTellsCard

/-- THE TIED CARD OF 'pharoslaw16.ExecSum'. -/
def execSumCard : Claim7 := { stood := { row := execSumRow, standIns := [], harness := (true, "19e99fbc19463228ae6149d939bb5132d881f8bdb4e075d5d1d8c4c2d63f5368"), looks := false }, kinds := [], alts := [], laidByText := true, laidKinds := [.data], laidTests := true, laidLooks := .later }
def ExecSumCardSaid : Prop := Claim7.holds Tryd.pinned (.plain (OpenSpec.ofChange execSumSpec)) execSumCard

/-- THE TIED CARD OF 'pharoslaw16.ExecParts'. -/
def execPartsCard : Claim7 := { stood := { row := execPartsRow, standIns := [], harness := (true, "19e99fbc19463228ae6149d939bb5132d881f8bdb4e075d5d1d8c4c2d63f5368"), looks := false }, kinds := [], alts := [], laidByText := true, laidKinds := [.data], laidTests := true, laidLooks := .later }
def ExecPartsCardSaid : Prop := Claim7.holds Tryd.pinned (.plain (OpenSpec.ofChange execPartsSpec)) execPartsCard

/-- THE SECOND FORM's CARD OF 'pharoslaw16.ExecOnce'. -/
def execOnceUptoCard : Claim7 := { stood := { row := execOnceUptoRow, standIns := [], harness := (true, "19e99fbc19463228ae6149d939bb5132d881f8bdb4e075d5d1d8c4c2d63f5368"), looks := false }, kinds := [], alts := [], laidByText := true, laidKinds := [.data], laidTests := true, laidLooks := .later }
def ExecOnceUptoCardSaid : Prop := Claim7.holds Tryd.pinned (.plain (OpenSpec.upto execOnceSpec)) execOnceUptoCard

/-- THE SECOND FORM's CARD OF 'pharoslaw16.ExecTells'. -/
def execTellsUptoCard : Claim7 := { stood := { row := execTellsUptoRow, standIns := [], harness := (true, "19e99fbc19463228ae6149d939bb5132d881f8bdb4e075d5d1d8c4c2d63f5368"), looks := false }, kinds := [], alts := [], laidByText := true, laidKinds := [.data], laidTests := true, laidLooks := .later }
def ExecTellsUptoCardSaid : Prop := Claim7.holds Tryd.pinned (.plain (OpenSpec.upto execTellsSpec)) execTellsUptoCard

/-- THE SECOND FORM's CARD OF 'pharoslaw16.ExecSum'. -/
def execSumUptoCard : Claim7 := { stood := { row := execSumUptoRow, standIns := [], harness := (true, "19e99fbc19463228ae6149d939bb5132d881f8bdb4e075d5d1d8c4c2d63f5368"), looks := false }, kinds := [], alts := [], laidByText := true, laidKinds := [.data], laidTests := true, laidLooks := .later }
def ExecSumUptoCardSaid : Prop := Claim7.holds Tryd.pinned (.plain (OpenSpec.upto execSumSpec)) execSumUptoCard

/-- THE SECOND FORM's CARD OF 'pharoslaw16.ExecParts'. -/
def execPartsUptoCard : Claim7 := { stood := { row := execPartsUptoRow, standIns := [], harness := (true, "19e99fbc19463228ae6149d939bb5132d881f8bdb4e075d5d1d8c4c2d63f5368"), looks := false }, kinds := [], alts := [], laidByText := true, laidKinds := [.data], laidTests := true, laidLooks := .later }
def ExecPartsUptoCardSaid : Prop := Claim7.holds Tryd.pinned (.plain (OpenSpec.upto execPartsSpec)) execPartsUptoCard
end Rows
end Go.Proofs.YtomnlhbioijfhaaDoor
