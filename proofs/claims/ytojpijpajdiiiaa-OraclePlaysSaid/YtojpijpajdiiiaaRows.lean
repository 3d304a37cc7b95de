/-
  No cell of these rows narrows 'for every input' (looked for: loops, veiled, ifaces, maps, wideKeys, modest, calm, conditions, laid).
  DERIVED. THE GIVEN ROWS OF THIS SEAT. 4 by the template 'for every input the law returns true; each argument reads behind the call as it read before'; 0 by the template 'total and deterministic' (their statements: YtojpijpajdiiiaaTotals.lean).
  GIVEN WITH THE SEED: the statements are not yours to turn. If you find one false, say at which input.
  Laid BY PROGRAM, IN A SANDBOX (cutbox-rows.mjs): the forced cells as the released guide's own fill.sh prints them over the translation 0555576a66d4c23e… (all of the seat's roots in one cut). By AI agents, Wed Nov 11 2026. No macro, syntax, notation, axiom, sorry.
-/
import Derived.Test.YtojpijpajdiiiaaChecked
import GoSem.Claim
import GoSem.ClaimJoined
import GoSem.ClaimMapViews
import Derived.JoinedTies
import Derived.KernelRfl
namespace Go.Proofs.Ytojpijpajdiiiaa
/- THE CELL 'sum', in the pinned program and in every row, IS THE sha256 OF THE DUMP (.gsa) THAT YtojpijpajdiiiaaProg.lean LOADS. Nothing in Lean hashes anything: it is a label: what it is worth is what the hold of that sum in a sandbox is worth. -/
noncomputable def Try.pinned : Pinned := { name := "ytojpijpajdiiiaa", sum := "0555576a66d4c23e565e84cd1e8290981e7c7adf94e4bee83a61edb3cb071648", checked := Try.checked }
namespace Rows
def none {H : Type} : Left H := { results := [], args := [] }

/-- 'pharoslaw06.OracleOnly': WHATEVER THE INPUT: true; the input reads as it did. -/
def oracleOnlySpec : ChangeSpec := { name := "oracleOnly", fn := fun _ => fun
  | [d1, d2, d3] => { results := [.lit (.bool true)], args := [d1, d2, d3] }
  | _ => none }
def oracleOnlyRow : OpenClaim := { program := "ytojpijpajdiiiaa", sum := "0555576a66d4c23e565e84cd1e8290981e7c7adf94e4bee83a61edb3cb071648", func := "pharos/pharoslaw06.OracleOnly", spec := "oracleOnly", unfollowed := true, recurses := true, plainKeys := false, apart := false }
def OracleOnlySaid : Prop := oracleOnlyRow.holds Try.pinned (OpenSpec.ofChange oracleOnlySpec)

/-- ITS FALSE NEIGHBOUR: 'it returns false'. Refute it at one input. -/
def oracleOnlyWrong : ChangeSpec := { name := "oracleOnly", fn := fun _ => fun
  | [d1, d2, d3] => { results := [.lit (.bool false)], args := [d1, d2, d3] }
  | _ => none }
def OracleOnlyWrongFalsely : Prop := oracleOnlyRow.holds Try.pinned (OpenSpec.ofChange oracleOnlyWrong)

/-- 'pharoslaw06.OracleOrder': WHATEVER THE INPUT: true; the input reads as it did. -/
def oracleOrderSpec : ChangeSpec := { name := "oracleOrder", fn := fun _ => fun
  | [d] => { results := [.lit (.bool true)], args := [d] }
  | _ => none }
def oracleOrderRow : OpenClaim := { program := "ytojpijpajdiiiaa", sum := "0555576a66d4c23e565e84cd1e8290981e7c7adf94e4bee83a61edb3cb071648", func := "pharos/pharoslaw06.OracleOrder", spec := "oracleOrder", unfollowed := true, recurses := true, plainKeys := false, apart := false }
def OracleOrderSaid : Prop := oracleOrderRow.holds Try.pinned (OpenSpec.ofChange oracleOrderSpec)

/-- ITS FALSE NEIGHBOUR: 'it returns false'. Refute it at one input. -/
def oracleOrderWrong : ChangeSpec := { name := "oracleOrder", fn := fun _ => fun
  | [d] => { results := [.lit (.bool false)], args := [d] }
  | _ => none }
def OracleOrderWrongFalsely : Prop := oracleOrderRow.holds Try.pinned (OpenSpec.ofChange oracleOrderWrong)

/-- 'pharoslaw06.OraclePlays': WHATEVER THE INPUT: true; the input reads as it did. -/
def oraclePlaysSpec : ChangeSpec := { name := "oraclePlays", fn := fun _ => fun
  | [d1, d2, d3] => { results := [.lit (.bool true)], args := [d1, d2, d3] }
  | _ => none }
def oraclePlaysRow : OpenClaim := { program := "ytojpijpajdiiiaa", sum := "0555576a66d4c23e565e84cd1e8290981e7c7adf94e4bee83a61edb3cb071648", func := "pharos/pharoslaw06.OraclePlays", spec := "oraclePlays", unfollowed := true, recurses := true, plainKeys := false, apart := false }
def OraclePlaysSaid : Prop := oraclePlaysRow.holds Try.pinned (OpenSpec.ofChange oraclePlaysSpec)

/-- ITS FALSE NEIGHBOUR: 'it returns false'. Refute it at one input. -/
def oraclePlaysWrong : ChangeSpec := { name := "oraclePlays", fn := fun _ => fun
  | [d1, d2, d3] => { results := [.lit (.bool false)], args := [d1, d2, d3] }
  | _ => none }
def OraclePlaysWrongFalsely : Prop := oraclePlaysRow.holds Try.pinned (OpenSpec.ofChange oraclePlaysWrong)

/-- 'pharoslaw06.OracleFork': WHATEVER THE INPUT: true; the input reads as it did. -/
def oracleForkSpec : ChangeSpec := { name := "oracleFork", fn := fun _ => fun
  | [d1, d2, d3] => { results := [.lit (.bool true)], args := [d1, d2, d3] }
  | _ => none }
def oracleForkRow : OpenClaim := { program := "ytojpijpajdiiiaa", sum := "0555576a66d4c23e565e84cd1e8290981e7c7adf94e4bee83a61edb3cb071648", func := "pharos/pharoslaw06.OracleFork", spec := "oracleFork", unfollowed := true, recurses := true, plainKeys := false, apart := false }
def OracleForkSaid : Prop := oracleForkRow.holds Try.pinned (OpenSpec.ofChange oracleForkSpec)

/-- ITS FALSE NEIGHBOUR: 'it returns false'. Refute it at one input. -/
def oracleForkWrong : ChangeSpec := { name := "oracleFork", fn := fun _ => fun
  | [d1, d2, d3] => { results := [.lit (.bool false)], args := [d1, d2, d3] }
  | _ => none }
def OracleForkWrongFalsely : Prop := oracleForkRow.holds Try.pinned (OpenSpec.ofChange oracleForkWrong)

/- THE SECOND FORM. 'bulk': how many values and letters a reading holds, each counted each time it is reached (what is shared counts as often as it is met; a slice's spare places count too). A statement '..UptoSaid' is the law's where the arguments, and the package variables that the reading takes, are together of bulk at most 1048576: NARROWER than '..Said'. Prove '..Said' where nothing that the law and all that it calls make is longer than what came in: it says more and counts as full. Else prove '..UptoSaid'. A law counts once. -/
mutual
def uptoBulk {H : Type} : DataW H → Nat
  | .lit (.string bytes) => bytes.length + 1
  | .lit _ => 1
  | .nil => 1
  | .ptr d => uptoBulk d + 1
  | .slice elems spare => uptoBulkAll elems + uptoBulkAll spare + 1
  | .agg parts => uptoBulkAll parts + 1
  | .iface _ d => uptoBulk d + 1
  | .map entries => uptoBulkEntries entries + 1
  | .held _ => 1
def uptoBulkAll {H : Type} : List (DataW H) → Nat
  | [] => 0
  | d :: r => uptoBulk d + uptoBulkAll r
def uptoBulkEntries {H : Type} : List (Lit × DataW H) → Nat
  | [] => 0
  | x :: r => uptoBulkEntry x + uptoBulkEntries r
def uptoBulkEntry {H : Type} : Lit × DataW H → Nat
  | (.string bytes, d) => bytes.length + uptoBulk d + 1
  | (_, d) => uptoBulk d + 1
 end
def uptoSmall : (H : Type) → List (DataW H) → Bool := fun _ ds => decide (uptoBulkAll ds ≤ 1048576)
def OpenSpec.upto (s : _root_.Go.ChangeSpec) : _root_.Go.OpenSpec := { _root_.Go.OpenSpec.ofChange s with cond := some uptoSmall }

/-- 'pharoslaw06.OracleOnly', WHERE WHAT IT READS IS OF BULK AT MOST 1048576: true; the input reads as it did. -/
def oracleOnlyUptoRow : OpenClaim := { program := "ytojpijpajdiiiaa", sum := "0555576a66d4c23e565e84cd1e8290981e7c7adf94e4bee83a61edb3cb071648", func := "pharos/pharoslaw06.OracleOnly", spec := "oracleOnly", unfollowed := true, recurses := true, plainKeys := false, apart := false, narrowed := true }
def OracleOnlyUptoSaid : Prop := oracleOnlyUptoRow.holds Try.pinned (OpenSpec.upto oracleOnlySpec)

/-- 'pharoslaw06.OracleOrder', WHERE WHAT IT READS IS OF BULK AT MOST 1048576: true; the input reads as it did. -/
def oracleOrderUptoRow : OpenClaim := { program := "ytojpijpajdiiiaa", sum := "0555576a66d4c23e565e84cd1e8290981e7c7adf94e4bee83a61edb3cb071648", func := "pharos/pharoslaw06.OracleOrder", spec := "oracleOrder", unfollowed := true, recurses := true, plainKeys := false, apart := false, narrowed := true }
def OracleOrderUptoSaid : Prop := oracleOrderUptoRow.holds Try.pinned (OpenSpec.upto oracleOrderSpec)

/-- 'pharoslaw06.OraclePlays', WHERE WHAT IT READS IS OF BULK AT MOST 1048576: true; the input reads as it did. -/
def oraclePlaysUptoRow : OpenClaim := { program := "ytojpijpajdiiiaa", sum := "0555576a66d4c23e565e84cd1e8290981e7c7adf94e4bee83a61edb3cb071648", func := "pharos/pharoslaw06.OraclePlays", spec := "oraclePlays", unfollowed := true, recurses := true, plainKeys := false, apart := false, narrowed := true }
def OraclePlaysUptoSaid : Prop := oraclePlaysUptoRow.holds Try.pinned (OpenSpec.upto oraclePlaysSpec)

/-- 'pharoslaw06.OracleFork', WHERE WHAT IT READS IS OF BULK AT MOST 1048576: true; the input reads as it did. -/
def oracleForkUptoRow : OpenClaim := { program := "ytojpijpajdiiiaa", sum := "0555576a66d4c23e565e84cd1e8290981e7c7adf94e4bee83a61edb3cb071648", func := "pharos/pharoslaw06.OracleFork", spec := "oracleFork", unfollowed := true, recurses := true, plainKeys := false, apart := false, narrowed := true }
def OracleForkUptoSaid : Prop := oracleForkUptoRow.holds Try.pinned (OpenSpec.upto oracleForkSpec)

end Rows
end Go.Proofs.Ytojpijpajdiiiaa
