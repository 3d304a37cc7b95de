import Derived.Test.YtnelhjfjkkdoaaaGreatDoorJ41
set_option linter.unusedSimpArgs false
set_option linter.unusedVariables false
namespace Go.Proofs.YtnelhjfjkkdoaaaGreatDoor
open Go.RowKit Go.Instr
structure S20At (w : World) (A : Option Addr) (l : List Ex.Ac) (B : Option Addr) (set : List Pw.Mem) : Prop where
 a : Reads w w.heap.size 3 A l.length (acells l)
 s : Reads w w.heap.size 2 B set.length (mcells set)
 xs : ∀ x ∈ l,x.1.length ≤ 9223372036854775807
 ss : ∀ x ∈ set,x.1.length ≤ 9223372036854775807
 al : l.length ≤ 9223372036854775807
theorem mems_le {l : List Pw.Mem} (h : Pw.okM l = true) : ∀ m ∈ l,m.1.length ≤ 9223372036854775807:=fun m hm=>by have:=(Pw.okM_all h m hm).1; omega
theorem S20At.next {w w' : World} {A B : Option Addr} {l : List Ex.Ac} {set : List Pw.Mem} (h : S20At w A l B set) (hb : Below w.heap.size w w') : S20At w' A l B set :=
 ⟨(h.a.below hb).more hb.size,(h.s.below hb).more hb.size,h.xs,h.ss,h.al⟩
end Go.Proofs.YtnelhjfjkkdoaaaGreatDoor
