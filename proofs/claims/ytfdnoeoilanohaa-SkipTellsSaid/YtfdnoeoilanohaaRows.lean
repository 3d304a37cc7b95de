/-
  No cell of these rows narrows 'for every input' (looked for: loops, veiled, ifaces, maps, wideKeys, modest, calm, conditions, laid).
  DERIVED. THE GIVEN ROWS OF THIS SEAT. 5 by the template 'for every input the law returns true; each argument reads behind the call as it read before'; 0 by the template 'total and deterministic' (their statements: YtfdnoeoilanohaaTotals.lean).
  GIVEN WITH THE SEED: the statements are not yours to turn. If you find one false, say at which input.
  Laid BY PROGRAM, IN A SANDBOX (cutbox-rows.mjs): the forced cells as the released guide's own fill.sh prints them over the translation 3758a017b69cf486… (all of the seat's roots in one cut). By AI agents, Wed Nov 11 2026. No macro, syntax, notation, axiom, sorry.
-/
import Derived.Test.YtfdnoeoilanohaaChecked
import GoSem.Claim
import GoSem.ClaimJoined
import GoSem.ClaimMapViews
import Derived.JoinedTies
import Derived.KernelRfl
namespace Go.Proofs.Ytfdnoeoilanohaa
/- THE CELL 'sum', in the pinned program and in every row, IS THE sha256 OF THE DUMP (.gsa) THAT YtfdnoeoilanohaaProg.lean LOADS. Nothing in Lean hashes anything: it is a label: what it is worth is what the hold of that sum in a sandbox is worth. -/
noncomputable def Try.pinned : Pinned := { name := "ytfdnoeoilanohaa", sum := "3758a017b69cf486f868caafda3df26a20867e760c2be284857a6cc5d6ac3ec5", checked := Try.checked }
namespace Rows
def none {H : Type} : Left H := { results := [], args := [] }

/-- 'pharoslaw18.SkipRoute': WHATEVER THE INPUT: true; the input reads as it did. -/
def skipRouteSpec : ChangeSpec := { name := "skipRoute", fn := fun _ => fun
  | [d1, d2] => { results := [.lit (.bool true)], args := [d1, d2] }
  | _ => none }
def skipRouteRow : OpenClaim := { program := "ytfdnoeoilanohaa", sum := "3758a017b69cf486f868caafda3df26a20867e760c2be284857a6cc5d6ac3ec5", func := "pharos/pharoslaw18.SkipRoute", spec := "skipRoute", apart := false }
def SkipRouteSaid : Prop := skipRouteRow.holds Try.pinned (OpenSpec.ofChange skipRouteSpec)

/-- ITS FALSE NEIGHBOUR: 'it returns false'. Refute it at one input. -/
def skipRouteWrong : ChangeSpec := { name := "skipRoute", fn := fun _ => fun
  | [d1, d2] => { results := [.lit (.bool false)], args := [d1, d2] }
  | _ => none }
def SkipRouteWrongFalsely : Prop := skipRouteRow.holds Try.pinned (OpenSpec.ofChange skipRouteWrong)

/-- 'pharoslaw18.SkipTells': WHATEVER THE INPUT: true; the input reads as it did. -/
def skipTellsSpec : ChangeSpec := { name := "skipTells", fn := fun _ => fun
  | [d1, d2] => { results := [.lit (.bool true)], args := [d1, d2] }
  | _ => none }
def skipTellsRow : OpenClaim := { program := "ytfdnoeoilanohaa", sum := "3758a017b69cf486f868caafda3df26a20867e760c2be284857a6cc5d6ac3ec5", func := "pharos/pharoslaw18.SkipTells", spec := "skipTells", apart := false }
def SkipTellsSaid : Prop := skipTellsRow.holds Try.pinned (OpenSpec.ofChange skipTellsSpec)

/-- ITS FALSE NEIGHBOUR: 'it returns false'. Refute it at one input. -/
def skipTellsWrong : ChangeSpec := { name := "skipTells", fn := fun _ => fun
  | [d1, d2] => { results := [.lit (.bool false)], args := [d1, d2] }
  | _ => none }
def SkipTellsWrongFalsely : Prop := skipTellsRow.holds Try.pinned (OpenSpec.ofChange skipTellsWrong)

/-- 'pharoslaw01.NibbleOrder': WHATEVER THE INPUT: true; the input reads as it did. -/
def nibbleOrderSpec : ChangeSpec := { name := "nibbleOrder", fn := fun _ => fun
  | [d1, d2] => { results := [.lit (.bool true)], args := [d1, d2] }
  | _ => none }
def nibbleOrderRow : OpenClaim := { program := "ytfdnoeoilanohaa", sum := "3758a017b69cf486f868caafda3df26a20867e760c2be284857a6cc5d6ac3ec5", func := "pharos/pharoslaw01.NibbleOrder", spec := "nibbleOrder", apart := false }
def NibbleOrderSaid : Prop := nibbleOrderRow.holds Try.pinned (OpenSpec.ofChange nibbleOrderSpec)

/-- ITS FALSE NEIGHBOUR: 'it returns false'. Refute it at one input. -/
def nibbleOrderWrong : ChangeSpec := { name := "nibbleOrder", fn := fun _ => fun
  | [d1, d2] => { results := [.lit (.bool false)], args := [d1, d2] }
  | _ => none }
def NibbleOrderWrongFalsely : Prop := nibbleOrderRow.holds Try.pinned (OpenSpec.ofChange nibbleOrderWrong)

/-- 'pharoslaw01.NibbleSides': WHATEVER THE INPUT: true; the input reads as it did. -/
def nibbleSidesSpec : ChangeSpec := { name := "nibbleSides", fn := fun _ => fun
  | [d1, d2, d3] => { results := [.lit (.bool true)], args := [d1, d2, d3] }
  | _ => none }
def nibbleSidesRow : OpenClaim := { program := "ytfdnoeoilanohaa", sum := "3758a017b69cf486f868caafda3df26a20867e760c2be284857a6cc5d6ac3ec5", func := "pharos/pharoslaw01.NibbleSides", spec := "nibbleSides", apart := false }
def NibbleSidesSaid : Prop := nibbleSidesRow.holds Try.pinned (OpenSpec.ofChange nibbleSidesSpec)

/-- ITS FALSE NEIGHBOUR: 'it returns false'. Refute it at one input. -/
def nibbleSidesWrong : ChangeSpec := { name := "nibbleSides", fn := fun _ => fun
  | [d1, d2, d3] => { results := [.lit (.bool false)], args := [d1, d2, d3] }
  | _ => none }
def NibbleSidesWrongFalsely : Prop := nibbleSidesRow.holds Try.pinned (OpenSpec.ofChange nibbleSidesWrong)

/-- 'pharoslaw01.NibbleTells': WHATEVER THE INPUT: true; the input reads as it did. -/
def nibbleTellsSpec : ChangeSpec := { name := "nibbleTells", fn := fun _ => fun
  | [d1, d2, d3] => { results := [.lit (.bool true)], args := [d1, d2, d3] }
  | _ => none }
def nibbleTellsRow : OpenClaim := { program := "ytfdnoeoilanohaa", sum := "3758a017b69cf486f868caafda3df26a20867e760c2be284857a6cc5d6ac3ec5", func := "pharos/pharoslaw01.NibbleTells", spec := "nibbleTells", apart := false }
def NibbleTellsSaid : Prop := nibbleTellsRow.holds Try.pinned (OpenSpec.ofChange nibbleTellsSpec)

/-- ITS FALSE NEIGHBOUR: 'it returns false'. Refute it at one input. -/
def nibbleTellsWrong : ChangeSpec := { name := "nibbleTells", fn := fun _ => fun
  | [d1, d2, d3] => { results := [.lit (.bool false)], args := [d1, d2, d3] }
  | _ => none }
def NibbleTellsWrongFalsely : Prop := nibbleTellsRow.holds Try.pinned (OpenSpec.ofChange nibbleTellsWrong)

/- THE SECOND FORM. 'bulk': how many values and letters a reading holds, each counted each time it is reached (what is shared counts as often as it is met; a slice's spare places count too). A statement '..UptoSaid' is the law's where the arguments, and the package variables that the reading takes, are together of bulk at most 1048576: NARROWER than '..Said'. Prove '..Said' where nothing that the law and all that it calls make is longer than what came in: it says more and counts as full. Else prove '..UptoSaid'. A law counts once. -/
mutual
def uptoBulk {H : Type} : DataW H → Nat
  | .lit (.string bytes) => bytes.length + 1
  | .lit _ => 1
  | .nil => 1
  | .ptr d => uptoBulk d + 1
  | .slice elems spare => uptoBulkAll elems + uptoBulkAll spare + 1
  | .agg parts => uptoBulkAll parts + 1
  | .iface _ d => uptoBulk d + 1
  | .map entries => uptoBulkEntries entries + 1
  | .held _ => 1
def uptoBulkAll {H : Type} : List (DataW H) → Nat
  | [] => 0
  | d :: r => uptoBulk d + uptoBulkAll r
def uptoBulkEntries {H : Type} : List (Lit × DataW H) → Nat
  | [] => 0
  | x :: r => uptoBulkEntry x + uptoBulkEntries r
def uptoBulkEntry {H : Type} : Lit × DataW H → Nat
  | (.string bytes, d) => bytes.length + uptoBulk d + 1
  | (_, d) => uptoBulk d + 1
 end
def uptoSmall : (H : Type) → List (DataW H) → Bool := fun _ ds => decide (uptoBulkAll ds ≤ 1048576)
def OpenSpec.upto (s : _root_.Go.ChangeSpec) : _root_.Go.OpenSpec := { _root_.Go.OpenSpec.ofChange s with cond := some uptoSmall }

/-- 'pharoslaw18.SkipRoute', WHERE WHAT IT READS IS OF BULK AT MOST 1048576: true; the input reads as it did. -/
def skipRouteUptoRow : OpenClaim := { program := "ytfdnoeoilanohaa", sum := "3758a017b69cf486f868caafda3df26a20867e760c2be284857a6cc5d6ac3ec5", func := "pharos/pharoslaw18.SkipRoute", spec := "skipRoute", apart := false, narrowed := true }
def SkipRouteUptoSaid : Prop := skipRouteUptoRow.holds Try.pinned (OpenSpec.upto skipRouteSpec)

/-- 'pharoslaw18.SkipTells', WHERE WHAT IT READS IS OF BULK AT MOST 1048576: true; the input reads as it did. -/
def skipTellsUptoRow : OpenClaim := { program := "ytfdnoeoilanohaa", sum := "3758a017b69cf486f868caafda3df26a20867e760c2be284857a6cc5d6ac3ec5", func := "pharos/pharoslaw18.SkipTells", spec := "skipTells", apart := false, narrowed := true }
def SkipTellsUptoSaid : Prop := skipTellsUptoRow.holds Try.pinned (OpenSpec.upto skipTellsSpec)

/-- 'pharoslaw01.NibbleOrder', WHERE WHAT IT READS IS OF BULK AT MOST 1048576: true; the input reads as it did. -/
def nibbleOrderUptoRow : OpenClaim := { program := "ytfdnoeoilanohaa", sum := "3758a017b69cf486f868caafda3df26a20867e760c2be284857a6cc5d6ac3ec5", func := "pharos/pharoslaw01.NibbleOrder", spec := "nibbleOrder", apart := false, narrowed := true }
def NibbleOrderUptoSaid : Prop := nibbleOrderUptoRow.holds Try.pinned (OpenSpec.upto nibbleOrderSpec)

/-- 'pharoslaw01.NibbleSides', WHERE WHAT IT READS IS OF BULK AT MOST 1048576: true; the input reads as it did. -/
def nibbleSidesUptoRow : OpenClaim := { program := "ytfdnoeoilanohaa", sum := "3758a017b69cf486f868caafda3df26a20867e760c2be284857a6cc5d6ac3ec5", func := "pharos/pharoslaw01.NibbleSides", spec := "nibbleSides", apart := false, narrowed := true }
def NibbleSidesUptoSaid : Prop := nibbleSidesUptoRow.holds Try.pinned (OpenSpec.upto nibbleSidesSpec)

/-- 'pharoslaw01.NibbleTells', WHERE WHAT IT READS IS OF BULK AT MOST 1048576: true; the input reads as it did. -/
def nibbleTellsUptoRow : OpenClaim := { program := "ytfdnoeoilanohaa", sum := "3758a017b69cf486f868caafda3df26a20867e760c2be284857a6cc5d6ac3ec5", func := "pharos/pharoslaw01.NibbleTells", spec := "nibbleTells", apart := false, narrowed := true }
def NibbleTellsUptoSaid : Prop := nibbleTellsUptoRow.holds Try.pinned (OpenSpec.upto nibbleTellsSpec)

end Rows
end Go.Proofs.Ytfdnoeoilanohaa
