/-
  NARROWER THAN 'FOR EVERY INPUT', by the rows' own cells (each row's printed sentence says how): TrieNodes: laid · TriePlays: laid · TrieMap: laid · TrieOne: laid · TrieTurns: laid · TrieRange: laid · ReceiptCodes: laid · ReceiptBack: laid · TrieSaved: laid.
  DERIVED. THE GIVEN ROWS OF THIS SEAT. 9 by the template 'for every input the law returns true; each argument reads behind the call as it read before'; 0 by the template 'total and deterministic' (their statements: YtaplecncnkkigaaDoorTotals.lean).
  GIVEN WITH THE SEED: the statements are not yours to turn. If you find one false, say at which input.
  Laid BY PROGRAM, IN A SANDBOX (cutbox-rows.mjs): the forced cells as the released guide's own fill.sh prints them over the translation a363084e9fe0fd10… (all of the seat's roots in one cut). By AI agents, Wed Nov 11 2026. No macro, syntax, notation, axiom, sorry.
-/
import Derived.Test.YtaplecncnkkigaaDoorChecked
import GoSem.Claim
import GoSem.ClaimJoined
import GoSem.ClaimMapViews
import Derived.JoinedTies
import Derived.KernelRfl
namespace Go.Proofs.YtaplecncnkkigaaDoor
/- THE CELL 'sum', in the pinned program and in every row, IS THE sha256 OF THE DUMP (.gsa) THAT YtaplecncnkkigaaDoorProg.lean LOADS. Nothing in Lean hashes anything: it is a label: what it is worth is what the hold of that sum in a sandbox is worth. -/
noncomputable def Tryd.pinned : Pinned := { name := "ytaplecncnkkigaadoor", sum := "a363084e9fe0fd107ddc31c4f2e54be6a74693a5353fa00d3a2551428c874ad2", checked := Tryd.checked }
namespace Rows
def none {H : Type} : Left H := { results := [], args := [] }

/- WHAT THE LISTED PACKAGE-LEVEL VARIABLES READ AS WHEN THE CALL BEGINS. Each datum BY PROGRAM (the guide's laid-datum.mjs) off the statement by which the dump's own 'gosem.cut.vars' lays the variable. In a bare row this is a premise. The card (YtaplecncnkkigaaDoorCards.lean) ties it to the program's text. -/
def laid_pharos_sha_k {H : Type} : DataW H := .agg [.lit (.int .u32 1116352408), .lit (.int .u32 1899447441), .lit (.int .u32 3049323471), .lit (.int .u32 3921009573), .lit (.int .u32 961987163), .lit (.int .u32 1508970993), .lit (.int .u32 2453635748), .lit (.int .u32 2870763221), .lit (.int .u32 3624381080), .lit (.int .u32 310598401), .lit (.int .u32 607225278), .lit (.int .u32 1426881987), .lit (.int .u32 1925078388), .lit (.int .u32 2162078206), .lit (.int .u32 2614888103), .lit (.int .u32 3248222580), .lit (.int .u32 3835390401), .lit (.int .u32 4022224774), .lit (.int .u32 264347078), .lit (.int .u32 604807628), .lit (.int .u32 770255983), .lit (.int .u32 1249150122), .lit (.int .u32 1555081692), .lit (.int .u32 1996064986), .lit (.int .u32 2554220882), .lit (.int .u32 2821834349), .lit (.int .u32 2952996808), .lit (.int .u32 3210313671), .lit (.int .u32 3336571891), .lit (.int .u32 3584528711), .lit (.int .u32 113926993), .lit (.int .u32 338241895), .lit (.int .u32 666307205), .lit (.int .u32 773529912), .lit (.int .u32 1294757372), .lit (.int .u32 1396182291), .lit (.int .u32 1695183700), .lit (.int .u32 1986661051), .lit (.int .u32 2177026350), .lit (.int .u32 2456956037), .lit (.int .u32 2730485921), .lit (.int .u32 2820302411), .lit (.int .u32 3259730800), .lit (.int .u32 3345764771), .lit (.int .u32 3516065817), .lit (.int .u32 3600352804), .lit (.int .u32 4094571909), .lit (.int .u32 275423344), .lit (.int .u32 430227734), .lit (.int .u32 506948616), .lit (.int .u32 659060556), .lit (.int .u32 883997877), .lit (.int .u32 958139571), .lit (.int .u32 1322822218), .lit (.int .u32 1537002063), .lit (.int .u32 1747873779), .lit (.int .u32 1955562222), .lit (.int .u32 2024104815), .lit (.int .u32 2227730452), .lit (.int .u32 2361852424), .lit (.int .u32 2428436474), .lit (.int .u32 2756734187), .lit (.int .u32 3204031479), .lit (.int .u32 3329325298)]

/-- 'pharoslaw10.TrieNodes': WHATEVER THE INPUT: true; the input reads as it did. -/
def trieNodesSpec : ChangeSpec := { name := "trieNodes", fn := fun _ => fun
  | [d1, d2, d3] => { results := [.lit (.bool true)], args := [d1, d2, d3] }
  | _ => none }
def trieNodesRow : OpenClaim := { program := "ytaplecncnkkigaadoor", sum := "a363084e9fe0fd107ddc31c4f2e54be6a74693a5353fa00d3a2551428c874ad2", func := "pharos/pharoslaw10.TrieNodes", spec := "trieNodes", unfollowed := true, recurses := true, named := ["pharos/sha.k"], apart := false, laid := [("pharos/sha.k", laid_pharos_sha_k)] }
def TrieNodesSaid : Prop := trieNodesRow.holds Tryd.pinned (OpenSpec.ofChange trieNodesSpec)

/-- ITS FALSE NEIGHBOUR: 'it returns false'. Refute it at one input. -/
def trieNodesWrong : ChangeSpec := { name := "trieNodes", fn := fun _ => fun
  | [d1, d2, d3] => { results := [.lit (.bool false)], args := [d1, d2, d3] }
  | _ => none }
def TrieNodesWrongFalsely : Prop := trieNodesRow.holds Tryd.pinned (OpenSpec.ofChange trieNodesWrong)

/-- 'pharoslaw10.TriePlays': WHATEVER THE INPUT: true; the input reads as it did. -/
def triePlaysSpec : ChangeSpec := { name := "triePlays", fn := fun _ => fun
  | [d1, d2] => { results := [.lit (.bool true)], args := [d1, d2] }
  | _ => none }
def triePlaysRow : OpenClaim := { program := "ytaplecncnkkigaadoor", sum := "a363084e9fe0fd107ddc31c4f2e54be6a74693a5353fa00d3a2551428c874ad2", func := "pharos/pharoslaw10.TriePlays", spec := "triePlays", unfollowed := true, recurses := true, named := ["pharos/sha.k"], apart := false, laid := [("pharos/sha.k", laid_pharos_sha_k)] }
def TriePlaysSaid : Prop := triePlaysRow.holds Tryd.pinned (OpenSpec.ofChange triePlaysSpec)

/-- ITS FALSE NEIGHBOUR: 'it returns false'. Refute it at one input. -/
def triePlaysWrong : ChangeSpec := { name := "triePlays", fn := fun _ => fun
  | [d1, d2] => { results := [.lit (.bool false)], args := [d1, d2] }
  | _ => none }
def TriePlaysWrongFalsely : Prop := triePlaysRow.holds Tryd.pinned (OpenSpec.ofChange triePlaysWrong)

/-- 'pharoslaw10.TrieMap': WHATEVER THE INPUT: true; the input reads as it did. -/
def trieMapSpec : ChangeSpec := { name := "trieMap", fn := fun _ => fun
  | [d] => { results := [.lit (.bool true)], args := [d] }
  | _ => none }
def trieMapRow : OpenClaim := { program := "ytaplecncnkkigaadoor", sum := "a363084e9fe0fd107ddc31c4f2e54be6a74693a5353fa00d3a2551428c874ad2", func := "pharos/pharoslaw10.TrieMap", spec := "trieMap", unfollowed := true, recurses := true, named := ["pharos/sha.k"], apart := false, laid := [("pharos/sha.k", laid_pharos_sha_k)] }
def TrieMapSaid : Prop := trieMapRow.holds Tryd.pinned (OpenSpec.ofChange trieMapSpec)

/-- ITS FALSE NEIGHBOUR: 'it returns false'. Refute it at one input. -/
def trieMapWrong : ChangeSpec := { name := "trieMap", fn := fun _ => fun
  | [d] => { results := [.lit (.bool false)], args := [d] }
  | _ => none }
def TrieMapWrongFalsely : Prop := trieMapRow.holds Tryd.pinned (OpenSpec.ofChange trieMapWrong)

/-- 'pharoslaw10.TrieOne': WHATEVER THE INPUT: true; the input reads as it did. -/
def trieOneSpec : ChangeSpec := { name := "trieOne", fn := fun _ => fun
  | [d1, d2] => { results := [.lit (.bool true)], args := [d1, d2] }
  | _ => none }
def trieOneRow : OpenClaim := { program := "ytaplecncnkkigaadoor", sum := "a363084e9fe0fd107ddc31c4f2e54be6a74693a5353fa00d3a2551428c874ad2", func := "pharos/pharoslaw10.TrieOne", spec := "trieOne", unfollowed := true, recurses := true, named := ["pharos/sha.k"], apart := false, laid := [("pharos/sha.k", laid_pharos_sha_k)] }
def TrieOneSaid : Prop := trieOneRow.holds Tryd.pinned (OpenSpec.ofChange trieOneSpec)

/-- ITS FALSE NEIGHBOUR: 'it returns false'. Refute it at one input. -/
def trieOneWrong : ChangeSpec := { name := "trieOne", fn := fun _ => fun
  | [d1, d2] => { results := [.lit (.bool false)], args := [d1, d2] }
  | _ => none }
def TrieOneWrongFalsely : Prop := trieOneRow.holds Tryd.pinned (OpenSpec.ofChange trieOneWrong)

/-- 'pharoslaw10.TrieTurns': WHATEVER THE INPUT: true; the input reads as it did. -/
def trieTurnsSpec : ChangeSpec := { name := "trieTurns", fn := fun _ => fun
  | [d1, d2, d3] => { results := [.lit (.bool true)], args := [d1, d2, d3] }
  | _ => none }
def trieTurnsRow : OpenClaim := { program := "ytaplecncnkkigaadoor", sum := "a363084e9fe0fd107ddc31c4f2e54be6a74693a5353fa00d3a2551428c874ad2", func := "pharos/pharoslaw10.TrieTurns", spec := "trieTurns", unfollowed := true, recurses := true, named := ["pharos/sha.k"], apart := false, laid := [("pharos/sha.k", laid_pharos_sha_k)] }
def TrieTurnsSaid : Prop := trieTurnsRow.holds Tryd.pinned (OpenSpec.ofChange trieTurnsSpec)

/-- ITS FALSE NEIGHBOUR: 'it returns false'. Refute it at one input. -/
def trieTurnsWrong : ChangeSpec := { name := "trieTurns", fn := fun _ => fun
  | [d1, d2, d3] => { results := [.lit (.bool false)], args := [d1, d2, d3] }
  | _ => none }
def TrieTurnsWrongFalsely : Prop := trieTurnsRow.holds Tryd.pinned (OpenSpec.ofChange trieTurnsWrong)

/-- 'pharoslaw10.TrieRange': WHATEVER THE INPUT: true; the input reads as it did. -/
def trieRangeSpec : ChangeSpec := { name := "trieRange", fn := fun _ => fun
  | [d1, d2, d3] => { results := [.lit (.bool true)], args := [d1, d2, d3] }
  | _ => none }
def trieRangeRow : OpenClaim := { program := "ytaplecncnkkigaadoor", sum := "a363084e9fe0fd107ddc31c4f2e54be6a74693a5353fa00d3a2551428c874ad2", func := "pharos/pharoslaw10.TrieRange", spec := "trieRange", unfollowed := true, recurses := true, named := ["pharos/sha.k"], apart := false, laid := [("pharos/sha.k", laid_pharos_sha_k)] }
def TrieRangeSaid : Prop := trieRangeRow.holds Tryd.pinned (OpenSpec.ofChange trieRangeSpec)

/-- ITS FALSE NEIGHBOUR: 'it returns false'. Refute it at one input. -/
def trieRangeWrong : ChangeSpec := { name := "trieRange", fn := fun _ => fun
  | [d1, d2, d3] => { results := [.lit (.bool false)], args := [d1, d2, d3] }
  | _ => none }
def TrieRangeWrongFalsely : Prop := trieRangeRow.holds Tryd.pinned (OpenSpec.ofChange trieRangeWrong)

/-- 'pharoslaw17.ReceiptCodes': WHATEVER THE INPUT: true; the input reads as it did. -/
def receiptCodesSpec : ChangeSpec := { name := "receiptCodes", fn := fun _ => fun
  | [d1, d2] => { results := [.lit (.bool true)], args := [d1, d2] }
  | _ => none }
def receiptCodesRow : OpenClaim := { program := "ytaplecncnkkigaadoor", sum := "a363084e9fe0fd107ddc31c4f2e54be6a74693a5353fa00d3a2551428c874ad2", func := "pharos/pharoslaw17.ReceiptCodes", spec := "receiptCodes", recurses := true, named := ["pharos/sha.k"], apart := false, laid := [("pharos/sha.k", laid_pharos_sha_k)] }
def ReceiptCodesSaid : Prop := receiptCodesRow.holds Tryd.pinned (OpenSpec.ofChange receiptCodesSpec)

/-- ITS FALSE NEIGHBOUR: 'it returns false'. Refute it at one input. -/
def receiptCodesWrong : ChangeSpec := { name := "receiptCodes", fn := fun _ => fun
  | [d1, d2] => { results := [.lit (.bool false)], args := [d1, d2] }
  | _ => none }
def ReceiptCodesWrongFalsely : Prop := receiptCodesRow.holds Tryd.pinned (OpenSpec.ofChange receiptCodesWrong)

/-- 'pharoslaw17.ReceiptBack': WHATEVER THE INPUT: true; the input reads as it did. -/
def receiptBackSpec : ChangeSpec := { name := "receiptBack", fn := fun _ => fun
  | [d1, d2] => { results := [.lit (.bool true)], args := [d1, d2] }
  | _ => none }
def receiptBackRow : OpenClaim := { program := "ytaplecncnkkigaadoor", sum := "a363084e9fe0fd107ddc31c4f2e54be6a74693a5353fa00d3a2551428c874ad2", func := "pharos/pharoslaw17.ReceiptBack", spec := "receiptBack", recurses := true, named := ["pharos/sha.k"], apart := false, laid := [("pharos/sha.k", laid_pharos_sha_k)] }
def ReceiptBackSaid : Prop := receiptBackRow.holds Tryd.pinned (OpenSpec.ofChange receiptBackSpec)

/-- ITS FALSE NEIGHBOUR: 'it returns false'. Refute it at one input. -/
def receiptBackWrong : ChangeSpec := { name := "receiptBack", fn := fun _ => fun
  | [d1, d2] => { results := [.lit (.bool false)], args := [d1, d2] }
  | _ => none }
def ReceiptBackWrongFalsely : Prop := receiptBackRow.holds Tryd.pinned (OpenSpec.ofChange receiptBackWrong)

/-- 'pharoslaw10.TrieSaved': WHATEVER THE INPUT: true; the input reads as it did. -/
def trieSavedSpec : ChangeSpec := { name := "trieSaved", fn := fun _ => fun
  | [d1, d2] => { results := [.lit (.bool true)], args := [d1, d2] }
  | _ => none }
def trieSavedRow : OpenClaim := { program := "ytaplecncnkkigaadoor", sum := "a363084e9fe0fd107ddc31c4f2e54be6a74693a5353fa00d3a2551428c874ad2", func := "pharos/pharoslaw10.TrieSaved", spec := "trieSaved", unfollowed := true, recurses := true, named := ["pharos/sha.k"], apart := false, laid := [("pharos/sha.k", laid_pharos_sha_k)] }
def TrieSavedSaid : Prop := trieSavedRow.holds Tryd.pinned (OpenSpec.ofChange trieSavedSpec)

/-- ITS FALSE NEIGHBOUR: 'it returns false'. Refute it at one input. -/
def trieSavedWrong : ChangeSpec := { name := "trieSaved", fn := fun _ => fun
  | [d1, d2] => { results := [.lit (.bool false)], args := [d1, d2] }
  | _ => none }
def TrieSavedWrongFalsely : Prop := trieSavedRow.holds Tryd.pinned (OpenSpec.ofChange trieSavedWrong)

/- THE SECOND FORM. 'bulk': how many values and letters a reading holds, each counted each time it is reached (what is shared counts as often as it is met; a slice's spare places count too). A statement '..UptoSaid' is the law's where the arguments, and the package variables that the reading takes, are together of bulk at most 1048576: NARROWER than '..Said'. Prove '..Said' where nothing that the law and all that it calls make is longer than what came in: it says more and counts as full. Else prove '..UptoSaid'. A law counts once. -/
mutual
def uptoBulk {H : Type} : DataW H → Nat
  | .lit (.string bytes) => bytes.length + 1
  | .lit _ => 1
  | .nil => 1
  | .ptr d => uptoBulk d + 1
  | .slice elems spare => uptoBulkAll elems + uptoBulkAll spare + 1
  | .agg parts => uptoBulkAll parts + 1
  | .iface _ d => uptoBulk d + 1
  | .map entries => uptoBulkEntries entries + 1
  | .held _ => 1
def uptoBulkAll {H : Type} : List (DataW H) → Nat
  | [] => 0
  | d :: r => uptoBulk d + uptoBulkAll r
def uptoBulkEntries {H : Type} : List (Lit × DataW H) → Nat
  | [] => 0
  | x :: r => uptoBulkEntry x + uptoBulkEntries r
def uptoBulkEntry {H : Type} : Lit × DataW H → Nat
  | (.string bytes, d) => bytes.length + uptoBulk d + 1
  | (_, d) => uptoBulk d + 1
 end
def uptoSmall : (H : Type) → List (DataW H) → Bool := fun _ ds => decide (uptoBulkAll ds ≤ 1048576)
def OpenSpec.upto (s : _root_.Go.ChangeSpec) : _root_.Go.OpenSpec := { _root_.Go.OpenSpec.ofChange s with cond := some uptoSmall }

/-- 'pharoslaw10.TrieNodes', WHERE WHAT IT READS IS OF BULK AT MOST 1048576: true; the input reads as it did. -/
def trieNodesUptoRow : OpenClaim := { program := "ytaplecncnkkigaadoor", sum := "a363084e9fe0fd107ddc31c4f2e54be6a74693a5353fa00d3a2551428c874ad2", func := "pharos/pharoslaw10.TrieNodes", spec := "trieNodes", unfollowed := true, recurses := true, named := ["pharos/sha.k"], apart := false, laid := [("pharos/sha.k", laid_pharos_sha_k)], narrowed := true }
def TrieNodesUptoSaid : Prop := trieNodesUptoRow.holds Tryd.pinned (OpenSpec.upto trieNodesSpec)

/-- 'pharoslaw10.TriePlays', WHERE WHAT IT READS IS OF BULK AT MOST 1048576: true; the input reads as it did. -/
def triePlaysUptoRow : OpenClaim := { program := "ytaplecncnkkigaadoor", sum := "a363084e9fe0fd107ddc31c4f2e54be6a74693a5353fa00d3a2551428c874ad2", func := "pharos/pharoslaw10.TriePlays", spec := "triePlays", unfollowed := true, recurses := true, named := ["pharos/sha.k"], apart := false, laid := [("pharos/sha.k", laid_pharos_sha_k)], narrowed := true }
def TriePlaysUptoSaid : Prop := triePlaysUptoRow.holds Tryd.pinned (OpenSpec.upto triePlaysSpec)

/-- 'pharoslaw10.TrieMap', WHERE WHAT IT READS IS OF BULK AT MOST 1048576: true; the input reads as it did. -/
def trieMapUptoRow : OpenClaim := { program := "ytaplecncnkkigaadoor", sum := "a363084e9fe0fd107ddc31c4f2e54be6a74693a5353fa00d3a2551428c874ad2", func := "pharos/pharoslaw10.TrieMap", spec := "trieMap", unfollowed := true, recurses := true, named := ["pharos/sha.k"], apart := false, laid := [("pharos/sha.k", laid_pharos_sha_k)], narrowed := true }
def TrieMapUptoSaid : Prop := trieMapUptoRow.holds Tryd.pinned (OpenSpec.upto trieMapSpec)

/-- 'pharoslaw10.TrieOne', WHERE WHAT IT READS IS OF BULK AT MOST 1048576: true; the input reads as it did. -/
def trieOneUptoRow : OpenClaim := { program := "ytaplecncnkkigaadoor", sum := "a363084e9fe0fd107ddc31c4f2e54be6a74693a5353fa00d3a2551428c874ad2", func := "pharos/pharoslaw10.TrieOne", spec := "trieOne", unfollowed := true, recurses := true, named := ["pharos/sha.k"], apart := false, laid := [("pharos/sha.k", laid_pharos_sha_k)], narrowed := true }
def TrieOneUptoSaid : Prop := trieOneUptoRow.holds Tryd.pinned (OpenSpec.upto trieOneSpec)

/-- 'pharoslaw10.TrieTurns', WHERE WHAT IT READS IS OF BULK AT MOST 1048576: true; the input reads as it did. -/
def trieTurnsUptoRow : OpenClaim := { program := "ytaplecncnkkigaadoor", sum := "a363084e9fe0fd107ddc31c4f2e54be6a74693a5353fa00d3a2551428c874ad2", func := "pharos/pharoslaw10.TrieTurns", spec := "trieTurns", unfollowed := true, recurses := true, named := ["pharos/sha.k"], apart := false, laid := [("pharos/sha.k", laid_pharos_sha_k)], narrowed := true }
def TrieTurnsUptoSaid : Prop := trieTurnsUptoRow.holds Tryd.pinned (OpenSpec.upto trieTurnsSpec)

/-- 'pharoslaw10.TrieRange', WHERE WHAT IT READS IS OF BULK AT MOST 1048576: true; the input reads as it did. -/
def trieRangeUptoRow : OpenClaim := { program := "ytaplecncnkkigaadoor", sum := "a363084e9fe0fd107ddc31c4f2e54be6a74693a5353fa00d3a2551428c874ad2", func := "pharos/pharoslaw10.TrieRange", spec := "trieRange", unfollowed := true, recurses := true, named := ["pharos/sha.k"], apart := false, laid := [("pharos/sha.k", laid_pharos_sha_k)], narrowed := true }
def TrieRangeUptoSaid : Prop := trieRangeUptoRow.holds Tryd.pinned (OpenSpec.upto trieRangeSpec)

/-- 'pharoslaw17.ReceiptCodes', WHERE WHAT IT READS IS OF BULK AT MOST 1048576: true; the input reads as it did. -/
def receiptCodesUptoRow : OpenClaim := { program := "ytaplecncnkkigaadoor", sum := "a363084e9fe0fd107ddc31c4f2e54be6a74693a5353fa00d3a2551428c874ad2", func := "pharos/pharoslaw17.ReceiptCodes", spec := "receiptCodes", recurses := true, named := ["pharos/sha.k"], apart := false, laid := [("pharos/sha.k", laid_pharos_sha_k)], narrowed := true }
def ReceiptCodesUptoSaid : Prop := receiptCodesUptoRow.holds Tryd.pinned (OpenSpec.upto receiptCodesSpec)

/-- 'pharoslaw17.ReceiptBack', WHERE WHAT IT READS IS OF BULK AT MOST 1048576: true; the input reads as it did. -/
def receiptBackUptoRow : OpenClaim := { program := "ytaplecncnkkigaadoor", sum := "a363084e9fe0fd107ddc31c4f2e54be6a74693a5353fa00d3a2551428c874ad2", func := "pharos/pharoslaw17.ReceiptBack", spec := "receiptBack", recurses := true, named := ["pharos/sha.k"], apart := false, laid := [("pharos/sha.k", laid_pharos_sha_k)], narrowed := true }
def ReceiptBackUptoSaid : Prop := receiptBackUptoRow.holds Tryd.pinned (OpenSpec.upto receiptBackSpec)

/-- 'pharoslaw10.TrieSaved', WHERE WHAT IT READS IS OF BULK AT MOST 1048576: true; the input reads as it did. -/
def trieSavedUptoRow : OpenClaim := { program := "ytaplecncnkkigaadoor", sum := "a363084e9fe0fd107ddc31c4f2e54be6a74693a5353fa00d3a2551428c874ad2", func := "pharos/pharoslaw10.TrieSaved", spec := "trieSaved", unfollowed := true, recurses := true, named := ["pharos/sha.k"], apart := false, laid := [("pharos/sha.k", laid_pharos_sha_k)], narrowed := true }
def TrieSavedUptoSaid : Prop := trieSavedUptoRow.holds Tryd.pinned (OpenSpec.upto trieSavedSpec)

end Rows
end Go.Proofs.YtaplecncnkkigaaDoor
