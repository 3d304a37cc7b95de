/-
  DERIVED. GIVEN WITH THE SEED: THE CARDS: each row of YtomnlhbioijfhaaGreatDoorRows.lean that lists a variable, with what it lists TIED to the program's text (the seventh form; the later family's looks); each row that meets fmt, with fmt's text TOLD by the authors' own Lean function (tested against real Go, not proved from fmt's source: count such statements apart). THE CARD IS WHAT COUNTS. Prove the row's statement (the work); the ties are given (YtomnlhbioijfhaaGreatDoorTie.lean); close each card by the builder's one call (the guide's Derived/Test/ToyasCard.lean, 'card_holds'). Laid BY PROGRAM, IN A SANDBOX (cutbox-door.mjs). By AI agents, Wed Nov 11 2026. No macro, syntax, notation, axiom, sorry.
-/
import Derived.Test.YtomnlhbioijfhaaGreatDoorRows
import GoSem.ClaimSeven
namespace Go.Proofs.YtomnlhbioijfhaaGreatDoor
namespace Rows

/-- THE TIED CARD OF 'pharoslaw14.SpanVerifies'. -/
def spanVerifiesCard : Claim7 := { stood := { row := spanVerifiesRow, standIns := [], harness := (true, "33e6547acb3a591beaf6a7fc756accdc3f2359f84712032b210c10db64e28c2b"), looks := false }, kinds := [], alts := [], laidByText := true, laidKinds := [.data], laidTests := true, laidLooks := .later }
def SpanVerifiesCardSaid : Prop := Claim7.holds Tryz.pinned (.plain (OpenSpec.ofChange spanVerifiesSpec)) spanVerifiesCard

/-- THE TIED CARD OF 'pharoslaw16.ExecOne'. -/
def execOneCard : Claim7 := { stood := { row := execOneRow, standIns := [], harness := (true, "33e6547acb3a591beaf6a7fc756accdc3f2359f84712032b210c10db64e28c2b"), looks := false }, kinds := [], alts := [], laidByText := true, laidKinds := [.data], laidTests := true, laidLooks := .later }
def ExecOneCardSaid : Prop := Claim7.holds Tryz.pinned (.plain (OpenSpec.ofChange execOneSpec)) execOneCard

/-- THE TIED CARD OF 'pharoslaw16.ExecAll'. -/
def execAllCard : Claim7 := { stood := { row := execAllRow, standIns := [], harness := (true, "33e6547acb3a591beaf6a7fc756accdc3f2359f84712032b210c10db64e28c2b"), looks := false }, kinds := [], alts := [], laidByText := true, laidKinds := [.data], laidTests := true, laidLooks := .later }
def ExecAllCardSaid : Prop := Claim7.holds Tryz.pinned (.plain (OpenSpec.ofChange execAllSpec)) execAllCard

/-- THE SECOND FORM's CARD OF 'pharoslaw14.SpanVerifies'. -/
def spanVerifiesUptoCard : Claim7 := { stood := { row := spanVerifiesUptoRow, standIns := [], harness := (true, "33e6547acb3a591beaf6a7fc756accdc3f2359f84712032b210c10db64e28c2b"), looks := false }, kinds := [], alts := [], laidByText := true, laidKinds := [.data], laidTests := true, laidLooks := .later }
def SpanVerifiesUptoCardSaid : Prop := Claim7.holds Tryz.pinned (.plain (OpenSpec.upto spanVerifiesSpec)) spanVerifiesUptoCard

/-- THE SECOND FORM's CARD OF 'pharoslaw16.ExecOne'. -/
def execOneUptoCard : Claim7 := { stood := { row := execOneUptoRow, standIns := [], harness := (true, "33e6547acb3a591beaf6a7fc756accdc3f2359f84712032b210c10db64e28c2b"), looks := false }, kinds := [], alts := [], laidByText := true, laidKinds := [.data], laidTests := true, laidLooks := .later }
def ExecOneUptoCardSaid : Prop := Claim7.holds Tryz.pinned (.plain (OpenSpec.upto execOneSpec)) execOneUptoCard

/-- THE SECOND FORM's CARD OF 'pharoslaw16.ExecAll'. -/
def execAllUptoCard : Claim7 := { stood := { row := execAllUptoRow, standIns := [], harness := (true, "33e6547acb3a591beaf6a7fc756accdc3f2359f84712032b210c10db64e28c2b"), looks := false }, kinds := [], alts := [], laidByText := true, laidKinds := [.data], laidTests := true, laidLooks := .later }
def ExecAllUptoCardSaid : Prop := Claim7.holds Tryz.pinned (.plain (OpenSpec.upto execAllSpec)) execAllUptoCard
end Rows
end Go.Proofs.YtomnlhbioijfhaaGreatDoor
