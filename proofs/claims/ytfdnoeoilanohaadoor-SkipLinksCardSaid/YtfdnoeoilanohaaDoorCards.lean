/-
  DERIVED. GIVEN WITH THE SEED: THE CARDS: each row of YtfdnoeoilanohaaDoorRows.lean that lists a variable, with what it lists TIED to the program's text (the seventh form; the later family's looks); each row that meets fmt, with fmt's text TOLD by the authors' own Lean function (tested against real Go, not proved from fmt's source: count such statements apart). THE CARD IS WHAT COUNTS. Prove the row's statement (the work); the ties are given (YtfdnoeoilanohaaDoorTie.lean); close each card by the builder's one call (the guide's Derived/Test/ToyasCard.lean, 'card_holds'). Laid BY PROGRAM, IN A SANDBOX (cutbox-door.mjs). By AI agents, Wed Nov 11 2026. No macro, syntax, notation, axiom, sorry.
-/
import Derived.Test.YtfdnoeoilanohaaDoorRows
import GoSem.ClaimSeven
namespace Go.Proofs.YtfdnoeoilanohaaDoor
namespace Rows

/-- THE TIED CARD OF 'pharoslaw18.SkipLinks'. -/
def skipLinksCard : Claim7 := { stood := { row := skipLinksRow, standIns := [], harness := (true, "0d0d3756841706f6d175a5df2ede19ba5dc9f58b9967754d08a552e30f588254"), looks := false }, kinds := [], alts := [], laidByText := true, laidKinds := [.data, .data], laidTests := true, laidLooks := .later }
def SkipLinksCardSaid : Prop := Claim7.holds Tryd.pinned (.plain (OpenSpec.ofChange skipLinksSpec)) skipLinksCard

/-- THE SECOND FORM's CARD OF 'pharoslaw18.SkipLinks'. -/
def skipLinksUptoCard : Claim7 := { stood := { row := skipLinksUptoRow, standIns := [], harness := (true, "0d0d3756841706f6d175a5df2ede19ba5dc9f58b9967754d08a552e30f588254"), looks := false }, kinds := [], alts := [], laidByText := true, laidKinds := [.data, .data], laidTests := true, laidLooks := .later }
def SkipLinksUptoCardSaid : Prop := Claim7.holds Tryd.pinned (.plain (OpenSpec.upto skipLinksSpec)) skipLinksUptoCard
end Rows
end Go.Proofs.YtfdnoeoilanohaaDoor
