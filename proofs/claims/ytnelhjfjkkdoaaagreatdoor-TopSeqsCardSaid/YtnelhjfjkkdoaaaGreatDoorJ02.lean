import Derived.Test.YtnelhjfjkkdoaaaGreatDoorJ01
import Derived.StillTailTactics
import Derived.IntWalk
import Derived.Laws.Tables
import Derived.Laws.CopyOwn
set_option linter.unusedSimpArgs false
set_option linter.unusedVariables false
set_option maxHeartbeats 4000000
set_option maxRecDepth 100000
namespace Go.Proofs.YtnelhjfjkkdoaaaGreatDoor
section
open Go.RowKit
structure CC where
def ζ:CC:=⟨⟩
def ε:CC:=⟨⟩
def ν:CC:=⟨⟩
def ω:CC:=⟨⟩
def θ (_:List Value):CC:=⟨⟩
instance:CoeDep CC ζ Value:=⟨.int .i64 0⟩
instance:CoeDep CC ε Value:=⟨.string ⟨#[]⟩⟩
instance:CoeDep CC ν Value:=⟨.slice none 0 0⟩
instance:CoeDep CC ω Value:=⟨.int .u32 0⟩
instance:Coe (List UInt8) Value:=⟨fun x=> .string ⟨x.toArray⟩⟩
instance:Coe Int Value:=⟨fun x=> .int .i64 x⟩
instance:Coe Nat Value:=⟨fun x=> .int .i64 (x:Int)⟩
instance:Coe Bool Value:=⟨fun x=> .bool x⟩
instance (t:List Value):CoeDep CC (θ t) (List Value):=⟨ζ::ζ::ζ::false::ε::ε::ε::ε::ε::ε::t⟩
instance (t:List Value):CoeDep CC (θ t) (Array Value):=⟨List.toArray (ζ::ζ::ζ::false::ε::ε::ε::ε::ε::ε::t)⟩
theorem ι {P:Prop} (h:P):Hid P:=Lib.hid h
theorem Blk.c1 {w:World} {g t:Nat} {a0:Value} {r:List Value} (h:Blk w g t (List.toArray (a0::r))):w.cell? ⟨g,0,none⟩=some a0:=(h.cell 0).trans rfl
theorem Blk.c2 {w:World} {g t:Nat} {a0 a1:Value} {r:List Value} (h:Blk w g t (List.toArray (a0::a1::r))):w.cell? ⟨g,0,none⟩=some a0∧w.cell? ⟨g,1,none⟩=some a1:=⟨(h.cell 0).trans rfl,(h.cell 1).trans rfl⟩
theorem Blk.c3 {w:World} {g t:Nat} {a0 a1 a2:Value} {r:List Value} (h:Blk w g t (List.toArray (a0::a1::a2::r))):w.cell? ⟨g,0,none⟩=some a0∧w.cell? ⟨g,1,none⟩=some a1∧w.cell? ⟨g,2,none⟩=some a2:=⟨(h.cell 0).trans rfl,(h.cell 1).trans rfl,(h.cell 2).trans rfl⟩
theorem Blk.c4 {w:World} {g t:Nat} {a0 a1 a2 a3:Value} {r:List Value} (h:Blk w g t (List.toArray (a0::a1::a2::a3::r))):w.cell? ⟨g,0,none⟩=some a0∧w.cell? ⟨g,1,none⟩=some a1∧w.cell? ⟨g,2,none⟩=some a2∧w.cell? ⟨g,3,none⟩=some a3:=⟨(h.cell 0).trans rfl,(h.cell 1).trans rfl,(h.cell 2).trans rfl,(h.cell 3).trans rfl⟩
theorem Blk.c5 {w:World} {g t:Nat} {a0 a1 a2 a3 a4:Value} {r:List Value} (h:Blk w g t (List.toArray (a0::a1::a2::a3::a4::r))):w.cell? ⟨g,0,none⟩=some a0∧w.cell? ⟨g,1,none⟩=some a1∧w.cell? ⟨g,2,none⟩=some a2∧w.cell? ⟨g,3,none⟩=some a3∧w.cell? ⟨g,4,none⟩=some a4:=⟨(h.cell 0).trans rfl,(h.cell 1).trans rfl,(h.cell 2).trans rfl,(h.cell 3).trans rfl,(h.cell 4).trans rfl⟩
theorem Blk.c6 {w:World} {g t:Nat} {a0 a1 a2 a3 a4 a5:Value} {r:List Value} (h:Blk w g t (List.toArray (a0::a1::a2::a3::a4::a5::r))):w.cell? ⟨g,0,none⟩=some a0∧w.cell? ⟨g,1,none⟩=some a1∧w.cell? ⟨g,2,none⟩=some a2∧w.cell? ⟨g,3,none⟩=some a3∧w.cell? ⟨g,4,none⟩=some a4∧w.cell? ⟨g,5,none⟩=some a5:=⟨(h.cell 0).trans rfl,(h.cell 1).trans rfl,(h.cell 2).trans rfl,(h.cell 3).trans rfl,(h.cell 4).trans rfl,(h.cell 5).trans rfl⟩
theorem Blk.c7 {w:World} {g t:Nat} {a0 a1 a2 a3 a4 a5 a6:Value} {r:List Value} (h:Blk w g t (List.toArray (a0::a1::a2::a3::a4::a5::a6::r))):w.cell? ⟨g,0,none⟩=some a0∧w.cell? ⟨g,1,none⟩=some a1∧w.cell? ⟨g,2,none⟩=some a2∧w.cell? ⟨g,3,none⟩=some a3∧w.cell? ⟨g,4,none⟩=some a4∧w.cell? ⟨g,5,none⟩=some a5∧w.cell? ⟨g,6,none⟩=some a6:=⟨(h.cell 0).trans rfl,(h.cell 1).trans rfl,(h.cell 2).trans rfl,(h.cell 3).trans rfl,(h.cell 4).trans rfl,(h.cell 5).trans rfl,(h.cell 6).trans rfl⟩
theorem Blk.c8 {w:World} {g t:Nat} {a0 a1 a2 a3 a4 a5 a6 a7:Value} {r:List Value} (h:Blk w g t (List.toArray (a0::a1::a2::a3::a4::a5::a6::a7::r))):w.cell? ⟨g,0,none⟩=some a0∧w.cell? ⟨g,1,none⟩=some a1∧w.cell? ⟨g,2,none⟩=some a2∧w.cell? ⟨g,3,none⟩=some a3∧w.cell? ⟨g,4,none⟩=some a4∧w.cell? ⟨g,5,none⟩=some a5∧w.cell? ⟨g,6,none⟩=some a6∧w.cell? ⟨g,7,none⟩=some a7:=⟨(h.cell 0).trans rfl,(h.cell 1).trans rfl,(h.cell 2).trans rfl,(h.cell 3).trans rfl,(h.cell 4).trans rfl,(h.cell 5).trans rfl,(h.cell 6).trans rfl,(h.cell 7).trans rfl⟩
theorem Blk.c9 {w:World} {g t:Nat} {a0 a1 a2 a3 a4 a5 a6 a7 a8:Value} {r:List Value} (h:Blk w g t (List.toArray (a0::a1::a2::a3::a4::a5::a6::a7::a8::r))):w.cell? ⟨g,0,none⟩=some a0∧w.cell? ⟨g,1,none⟩=some a1∧w.cell? ⟨g,2,none⟩=some a2∧w.cell? ⟨g,3,none⟩=some a3∧w.cell? ⟨g,4,none⟩=some a4∧w.cell? ⟨g,5,none⟩=some a5∧w.cell? ⟨g,6,none⟩=some a6∧w.cell? ⟨g,7,none⟩=some a7∧w.cell? ⟨g,8,none⟩=some a8:=⟨(h.cell 0).trans rfl,(h.cell 1).trans rfl,(h.cell 2).trans rfl,(h.cell 3).trans rfl,(h.cell 4).trans rfl,(h.cell 5).trans rfl,(h.cell 6).trans rfl,(h.cell 7).trans rfl,(h.cell 8).trans rfl⟩
theorem Blk.c10 {w:World} {g t:Nat} {a0 a1 a2 a3 a4 a5 a6 a7 a8 a9:Value} {r:List Value} (h:Blk w g t (List.toArray (a0::a1::a2::a3::a4::a5::a6::a7::a8::a9::r))):w.cell? ⟨g,0,none⟩=some a0∧w.cell? ⟨g,1,none⟩=some a1∧w.cell? ⟨g,2,none⟩=some a2∧w.cell? ⟨g,3,none⟩=some a3∧w.cell? ⟨g,4,none⟩=some a4∧w.cell? ⟨g,5,none⟩=some a5∧w.cell? ⟨g,6,none⟩=some a6∧w.cell? ⟨g,7,none⟩=some a7∧w.cell? ⟨g,8,none⟩=some a8∧w.cell? ⟨g,9,none⟩=some a9:=⟨(h.cell 0).trans rfl,(h.cell 1).trans rfl,(h.cell 2).trans rfl,(h.cell 3).trans rfl,(h.cell 4).trans rfl,(h.cell 5).trans rfl,(h.cell 6).trans rfl,(h.cell 7).trans rfl,(h.cell 8).trans rfl,(h.cell 9).trans rfl⟩
theorem Blk.c11 {w:World} {g t:Nat} {a0 a1 a2 a3 a4 a5 a6 a7 a8 a9 a10:Value} {r:List Value} (h:Blk w g t (List.toArray (a0::a1::a2::a3::a4::a5::a6::a7::a8::a9::a10::r))):w.cell? ⟨g,0,none⟩=some a0∧w.cell? ⟨g,1,none⟩=some a1∧w.cell? ⟨g,2,none⟩=some a2∧w.cell? ⟨g,3,none⟩=some a3∧w.cell? ⟨g,4,none⟩=some a4∧w.cell? ⟨g,5,none⟩=some a5∧w.cell? ⟨g,6,none⟩=some a6∧w.cell? ⟨g,7,none⟩=some a7∧w.cell? ⟨g,8,none⟩=some a8∧w.cell? ⟨g,9,none⟩=some a9∧w.cell? ⟨g,10,none⟩=some a10:=⟨(h.cell 0).trans rfl,(h.cell 1).trans rfl,(h.cell 2).trans rfl,(h.cell 3).trans rfl,(h.cell 4).trans rfl,(h.cell 5).trans rfl,(h.cell 6).trans rfl,(h.cell 7).trans rfl,(h.cell 8).trans rfl,(h.cell 9).trans rfl,(h.cell 10).trans rfl⟩
theorem Blk.c12 {w:World} {g t:Nat} {a0 a1 a2 a3 a4 a5 a6 a7 a8 a9 a10 a11:Value} {r:List Value} (h:Blk w g t (List.toArray (a0::a1::a2::a3::a4::a5::a6::a7::a8::a9::a10::a11::r))):w.cell? ⟨g,0,none⟩=some a0∧w.cell? ⟨g,1,none⟩=some a1∧w.cell? ⟨g,2,none⟩=some a2∧w.cell? ⟨g,3,none⟩=some a3∧w.cell? ⟨g,4,none⟩=some a4∧w.cell? ⟨g,5,none⟩=some a5∧w.cell? ⟨g,6,none⟩=some a6∧w.cell? ⟨g,7,none⟩=some a7∧w.cell? ⟨g,8,none⟩=some a8∧w.cell? ⟨g,9,none⟩=some a9∧w.cell? ⟨g,10,none⟩=some a10∧w.cell? ⟨g,11,none⟩=some a11:=⟨(h.cell 0).trans rfl,(h.cell 1).trans rfl,(h.cell 2).trans rfl,(h.cell 3).trans rfl,(h.cell 4).trans rfl,(h.cell 5).trans rfl,(h.cell 6).trans rfl,(h.cell 7).trans rfl,(h.cell 8).trans rfl,(h.cell 9).trans rfl,(h.cell 10).trans rfl,(h.cell 11).trans rfl⟩
theorem Blk.c13 {w:World} {g t:Nat} {a0 a1 a2 a3 a4 a5 a6 a7 a8 a9 a10 a11 a12:Value} {r:List Value} (h:Blk w g t (List.toArray (a0::a1::a2::a3::a4::a5::a6::a7::a8::a9::a10::a11::a12::r))):w.cell? ⟨g,0,none⟩=some a0∧w.cell? ⟨g,1,none⟩=some a1∧w.cell? ⟨g,2,none⟩=some a2∧w.cell? ⟨g,3,none⟩=some a3∧w.cell? ⟨g,4,none⟩=some a4∧w.cell? ⟨g,5,none⟩=some a5∧w.cell? ⟨g,6,none⟩=some a6∧w.cell? ⟨g,7,none⟩=some a7∧w.cell? ⟨g,8,none⟩=some a8∧w.cell? ⟨g,9,none⟩=some a9∧w.cell? ⟨g,10,none⟩=some a10∧w.cell? ⟨g,11,none⟩=some a11∧w.cell? ⟨g,12,none⟩=some a12:=⟨(h.cell 0).trans rfl,(h.cell 1).trans rfl,(h.cell 2).trans rfl,(h.cell 3).trans rfl,(h.cell 4).trans rfl,(h.cell 5).trans rfl,(h.cell 6).trans rfl,(h.cell 7).trans rfl,(h.cell 8).trans rfl,(h.cell 9).trans rfl,(h.cell 10).trans rfl,(h.cell 11).trans rfl,(h.cell 12).trans rfl⟩
theorem Blk.c14 {w:World} {g t:Nat} {a0 a1 a2 a3 a4 a5 a6 a7 a8 a9 a10 a11 a12 a13:Value} {r:List Value} (h:Blk w g t (List.toArray (a0::a1::a2::a3::a4::a5::a6::a7::a8::a9::a10::a11::a12::a13::r))):w.cell? ⟨g,0,none⟩=some a0∧w.cell? ⟨g,1,none⟩=some a1∧w.cell? ⟨g,2,none⟩=some a2∧w.cell? ⟨g,3,none⟩=some a3∧w.cell? ⟨g,4,none⟩=some a4∧w.cell? ⟨g,5,none⟩=some a5∧w.cell? ⟨g,6,none⟩=some a6∧w.cell? ⟨g,7,none⟩=some a7∧w.cell? ⟨g,8,none⟩=some a8∧w.cell? ⟨g,9,none⟩=some a9∧w.cell? ⟨g,10,none⟩=some a10∧w.cell? ⟨g,11,none⟩=some a11∧w.cell? ⟨g,12,none⟩=some a12∧w.cell? ⟨g,13,none⟩=some a13:=⟨(h.cell 0).trans rfl,(h.cell 1).trans rfl,(h.cell 2).trans rfl,(h.cell 3).trans rfl,(h.cell 4).trans rfl,(h.cell 5).trans rfl,(h.cell 6).trans rfl,(h.cell 7).trans rfl,(h.cell 8).trans rfl,(h.cell 9).trans rfl,(h.cell 10).trans rfl,(h.cell 11).trans rfl,(h.cell 12).trans rfl,(h.cell 13).trans rfl⟩
theorem Blk.c15 {w:World} {g t:Nat} {a0 a1 a2 a3 a4 a5 a6 a7 a8 a9 a10 a11 a12 a13 a14:Value} {r:List Value} (h:Blk w g t (List.toArray (a0::a1::a2::a3::a4::a5::a6::a7::a8::a9::a10::a11::a12::a13::a14::r))):w.cell? ⟨g,0,none⟩=some a0∧w.cell? ⟨g,1,none⟩=some a1∧w.cell? ⟨g,2,none⟩=some a2∧w.cell? ⟨g,3,none⟩=some a3∧w.cell? ⟨g,4,none⟩=some a4∧w.cell? ⟨g,5,none⟩=some a5∧w.cell? ⟨g,6,none⟩=some a6∧w.cell? ⟨g,7,none⟩=some a7∧w.cell? ⟨g,8,none⟩=some a8∧w.cell? ⟨g,9,none⟩=some a9∧w.cell? ⟨g,10,none⟩=some a10∧w.cell? ⟨g,11,none⟩=some a11∧w.cell? ⟨g,12,none⟩=some a12∧w.cell? ⟨g,13,none⟩=some a13∧w.cell? ⟨g,14,none⟩=some a14:=⟨(h.cell 0).trans rfl,(h.cell 1).trans rfl,(h.cell 2).trans rfl,(h.cell 3).trans rfl,(h.cell 4).trans rfl,(h.cell 5).trans rfl,(h.cell 6).trans rfl,(h.cell 7).trans rfl,(h.cell 8).trans rfl,(h.cell 9).trans rfl,(h.cell 10).trans rfl,(h.cell 11).trans rfl,(h.cell 12).trans rfl,(h.cell 13).trans rfl,(h.cell 14).trans rfl⟩
theorem Blk.c16 {w:World} {g t:Nat} {a0 a1 a2 a3 a4 a5 a6 a7 a8 a9 a10 a11 a12 a13 a14 a15:Value} {r:List Value} (h:Blk w g t (List.toArray (a0::a1::a2::a3::a4::a5::a6::a7::a8::a9::a10::a11::a12::a13::a14::a15::r))):w.cell? ⟨g,0,none⟩=some a0∧w.cell? ⟨g,1,none⟩=some a1∧w.cell? ⟨g,2,none⟩=some a2∧w.cell? ⟨g,3,none⟩=some a3∧w.cell? ⟨g,4,none⟩=some a4∧w.cell? ⟨g,5,none⟩=some a5∧w.cell? ⟨g,6,none⟩=some a6∧w.cell? ⟨g,7,none⟩=some a7∧w.cell? ⟨g,8,none⟩=some a8∧w.cell? ⟨g,9,none⟩=some a9∧w.cell? ⟨g,10,none⟩=some a10∧w.cell? ⟨g,11,none⟩=some a11∧w.cell? ⟨g,12,none⟩=some a12∧w.cell? ⟨g,13,none⟩=some a13∧w.cell? ⟨g,14,none⟩=some a14∧w.cell? ⟨g,15,none⟩=some a15:=⟨(h.cell 0).trans rfl,(h.cell 1).trans rfl,(h.cell 2).trans rfl,(h.cell 3).trans rfl,(h.cell 4).trans rfl,(h.cell 5).trans rfl,(h.cell 6).trans rfl,(h.cell 7).trans rfl,(h.cell 8).trans rfl,(h.cell 9).trans rfl,(h.cell 10).trans rfl,(h.cell 11).trans rfl,(h.cell 12).trans rfl,(h.cell 13).trans rfl,(h.cell 14).trans rfl,(h.cell 15).trans rfl⟩
theorem Blk.c17 {w:World} {g t:Nat} {a0 a1 a2 a3 a4 a5 a6 a7 a8 a9 a10 a11 a12 a13 a14 a15 a16:Value} {r:List Value} (h:Blk w g t (List.toArray (a0::a1::a2::a3::a4::a5::a6::a7::a8::a9::a10::a11::a12::a13::a14::a15::a16::r))):w.cell? ⟨g,0,none⟩=some a0∧w.cell? ⟨g,1,none⟩=some a1∧w.cell? ⟨g,2,none⟩=some a2∧w.cell? ⟨g,3,none⟩=some a3∧w.cell? ⟨g,4,none⟩=some a4∧w.cell? ⟨g,5,none⟩=some a5∧w.cell? ⟨g,6,none⟩=some a6∧w.cell? ⟨g,7,none⟩=some a7∧w.cell? ⟨g,8,none⟩=some a8∧w.cell? ⟨g,9,none⟩=some a9∧w.cell? ⟨g,10,none⟩=some a10∧w.cell? ⟨g,11,none⟩=some a11∧w.cell? ⟨g,12,none⟩=some a12∧w.cell? ⟨g,13,none⟩=some a13∧w.cell? ⟨g,14,none⟩=some a14∧w.cell? ⟨g,15,none⟩=some a15∧w.cell? ⟨g,16,none⟩=some a16:=⟨(h.cell 0).trans rfl,(h.cell 1).trans rfl,(h.cell 2).trans rfl,(h.cell 3).trans rfl,(h.cell 4).trans rfl,(h.cell 5).trans rfl,(h.cell 6).trans rfl,(h.cell 7).trans rfl,(h.cell 8).trans rfl,(h.cell 9).trans rfl,(h.cell 10).trans rfl,(h.cell 11).trans rfl,(h.cell 12).trans rfl,(h.cell 13).trans rfl,(h.cell 14).trans rfl,(h.cell 15).trans rfl,(h.cell 16).trans rfl⟩
theorem Blk.c18 {w:World} {g t:Nat} {a0 a1 a2 a3 a4 a5 a6 a7 a8 a9 a10 a11 a12 a13 a14 a15 a16 a17:Value} {r:List Value} (h:Blk w g t (List.toArray (a0::a1::a2::a3::a4::a5::a6::a7::a8::a9::a10::a11::a12::a13::a14::a15::a16::a17::r))):w.cell? ⟨g,0,none⟩=some a0∧w.cell? ⟨g,1,none⟩=some a1∧w.cell? ⟨g,2,none⟩=some a2∧w.cell? ⟨g,3,none⟩=some a3∧w.cell? ⟨g,4,none⟩=some a4∧w.cell? ⟨g,5,none⟩=some a5∧w.cell? ⟨g,6,none⟩=some a6∧w.cell? ⟨g,7,none⟩=some a7∧w.cell? ⟨g,8,none⟩=some a8∧w.cell? ⟨g,9,none⟩=some a9∧w.cell? ⟨g,10,none⟩=some a10∧w.cell? ⟨g,11,none⟩=some a11∧w.cell? ⟨g,12,none⟩=some a12∧w.cell? ⟨g,13,none⟩=some a13∧w.cell? ⟨g,14,none⟩=some a14∧w.cell? ⟨g,15,none⟩=some a15∧w.cell? ⟨g,16,none⟩=some a16∧w.cell? ⟨g,17,none⟩=some a17:=⟨(h.cell 0).trans rfl,(h.cell 1).trans rfl,(h.cell 2).trans rfl,(h.cell 3).trans rfl,(h.cell 4).trans rfl,(h.cell 5).trans rfl,(h.cell 6).trans rfl,(h.cell 7).trans rfl,(h.cell 8).trans rfl,(h.cell 9).trans rfl,(h.cell 10).trans rfl,(h.cell 11).trans rfl,(h.cell 12).trans rfl,(h.cell 13).trans rfl,(h.cell 14).trans rfl,(h.cell 15).trans rfl,(h.cell 16).trans rfl,(h.cell 17).trans rfl⟩
theorem Blk.c19 {w:World} {g t:Nat} {a0 a1 a2 a3 a4 a5 a6 a7 a8 a9 a10 a11 a12 a13 a14 a15 a16 a17 a18:Value} {r:List Value} (h:Blk w g t (List.toArray (a0::a1::a2::a3::a4::a5::a6::a7::a8::a9::a10::a11::a12::a13::a14::a15::a16::a17::a18::r))):w.cell? ⟨g,0,none⟩=some a0∧w.cell? ⟨g,1,none⟩=some a1∧w.cell? ⟨g,2,none⟩=some a2∧w.cell? ⟨g,3,none⟩=some a3∧w.cell? ⟨g,4,none⟩=some a4∧w.cell? ⟨g,5,none⟩=some a5∧w.cell? ⟨g,6,none⟩=some a6∧w.cell? ⟨g,7,none⟩=some a7∧w.cell? ⟨g,8,none⟩=some a8∧w.cell? ⟨g,9,none⟩=some a9∧w.cell? ⟨g,10,none⟩=some a10∧w.cell? ⟨g,11,none⟩=some a11∧w.cell? ⟨g,12,none⟩=some a12∧w.cell? ⟨g,13,none⟩=some a13∧w.cell? ⟨g,14,none⟩=some a14∧w.cell? ⟨g,15,none⟩=some a15∧w.cell? ⟨g,16,none⟩=some a16∧w.cell? ⟨g,17,none⟩=some a17∧w.cell? ⟨g,18,none⟩=some a18:=⟨(h.cell 0).trans rfl,(h.cell 1).trans rfl,(h.cell 2).trans rfl,(h.cell 3).trans rfl,(h.cell 4).trans rfl,(h.cell 5).trans rfl,(h.cell 6).trans rfl,(h.cell 7).trans rfl,(h.cell 8).trans rfl,(h.cell 9).trans rfl,(h.cell 10).trans rfl,(h.cell 11).trans rfl,(h.cell 12).trans rfl,(h.cell 13).trans rfl,(h.cell 14).trans rfl,(h.cell 15).trans rfl,(h.cell 16).trans rfl,(h.cell 17).trans rfl,(h.cell 18).trans rfl⟩
theorem Blk.d0 {w:World} {g t:Nat} {a0:Value} {r:List Value} (h:Blk w g t (List.toArray (a0::r))):w.cell? ⟨g,0,none⟩=some a0:=(h.cell 0).trans rfl
theorem Blk.d1 {w:World} {g t:Nat} {a0 a1:Value} {r:List Value} (h:Blk w g t (List.toArray (a0::a1::r))):w.cell? ⟨g,1,none⟩=some a1:=(h.cell 1).trans rfl
theorem Blk.d2 {w:World} {g t:Nat} {a0 a1 a2:Value} {r:List Value} (h:Blk w g t (List.toArray (a0::a1::a2::r))):w.cell? ⟨g,2,none⟩=some a2:=(h.cell 2).trans rfl
theorem Blk.d3 {w:World} {g t:Nat} {a0 a1 a2 a3:Value} {r:List Value} (h:Blk w g t (List.toArray (a0::a1::a2::a3::r))):w.cell? ⟨g,3,none⟩=some a3:=(h.cell 3).trans rfl
theorem Blk.d4 {w:World} {g t:Nat} {a0 a1 a2 a3 a4:Value} {r:List Value} (h:Blk w g t (List.toArray (a0::a1::a2::a3::a4::r))):w.cell? ⟨g,4,none⟩=some a4:=(h.cell 4).trans rfl
theorem Blk.d5 {w:World} {g t:Nat} {a0 a1 a2 a3 a4 a5:Value} {r:List Value} (h:Blk w g t (List.toArray (a0::a1::a2::a3::a4::a5::r))):w.cell? ⟨g,5,none⟩=some a5:=(h.cell 5).trans rfl
theorem Blk.d6 {w:World} {g t:Nat} {a0 a1 a2 a3 a4 a5 a6:Value} {r:List Value} (h:Blk w g t (List.toArray (a0::a1::a2::a3::a4::a5::a6::r))):w.cell? ⟨g,6,none⟩=some a6:=(h.cell 6).trans rfl
theorem Blk.d7 {w:World} {g t:Nat} {a0 a1 a2 a3 a4 a5 a6 a7:Value} {r:List Value} (h:Blk w g t (List.toArray (a0::a1::a2::a3::a4::a5::a6::a7::r))):w.cell? ⟨g,7,none⟩=some a7:=(h.cell 7).trans rfl
theorem Blk.d8 {w:World} {g t:Nat} {a0 a1 a2 a3 a4 a5 a6 a7 a8:Value} {r:List Value} (h:Blk w g t (List.toArray (a0::a1::a2::a3::a4::a5::a6::a7::a8::r))):w.cell? ⟨g,8,none⟩=some a8:=(h.cell 8).trans rfl
theorem Blk.d9 {w:World} {g t:Nat} {a0 a1 a2 a3 a4 a5 a6 a7 a8 a9:Value} {r:List Value} (h:Blk w g t (List.toArray (a0::a1::a2::a3::a4::a5::a6::a7::a8::a9::r))):w.cell? ⟨g,9,none⟩=some a9:=(h.cell 9).trans rfl
theorem Blk.d10 {w:World} {g t:Nat} {a0 a1 a2 a3 a4 a5 a6 a7 a8 a9 a10:Value} {r:List Value} (h:Blk w g t (List.toArray (a0::a1::a2::a3::a4::a5::a6::a7::a8::a9::a10::r))):w.cell? ⟨g,10,none⟩=some a10:=(h.cell 10).trans rfl
theorem Blk.d11 {w:World} {g t:Nat} {a0 a1 a2 a3 a4 a5 a6 a7 a8 a9 a10 a11:Value} {r:List Value} (h:Blk w g t (List.toArray (a0::a1::a2::a3::a4::a5::a6::a7::a8::a9::a10::a11::r))):w.cell? ⟨g,11,none⟩=some a11:=(h.cell 11).trans rfl
theorem Blk.d12 {w:World} {g t:Nat} {a0 a1 a2 a3 a4 a5 a6 a7 a8 a9 a10 a11 a12:Value} {r:List Value} (h:Blk w g t (List.toArray (a0::a1::a2::a3::a4::a5::a6::a7::a8::a9::a10::a11::a12::r))):w.cell? ⟨g,12,none⟩=some a12:=(h.cell 12).trans rfl
theorem Blk.d13 {w:World} {g t:Nat} {a0 a1 a2 a3 a4 a5 a6 a7 a8 a9 a10 a11 a12 a13:Value} {r:List Value} (h:Blk w g t (List.toArray (a0::a1::a2::a3::a4::a5::a6::a7::a8::a9::a10::a11::a12::a13::r))):w.cell? ⟨g,13,none⟩=some a13:=(h.cell 13).trans rfl
theorem Blk.d14 {w:World} {g t:Nat} {a0 a1 a2 a3 a4 a5 a6 a7 a8 a9 a10 a11 a12 a13 a14:Value} {r:List Value} (h:Blk w g t (List.toArray (a0::a1::a2::a3::a4::a5::a6::a7::a8::a9::a10::a11::a12::a13::a14::r))):w.cell? ⟨g,14,none⟩=some a14:=(h.cell 14).trans rfl
theorem Blk.d15 {w:World} {g t:Nat} {a0 a1 a2 a3 a4 a5 a6 a7 a8 a9 a10 a11 a12 a13 a14 a15:Value} {r:List Value} (h:Blk w g t (List.toArray (a0::a1::a2::a3::a4::a5::a6::a7::a8::a9::a10::a11::a12::a13::a14::a15::r))):w.cell? ⟨g,15,none⟩=some a15:=(h.cell 15).trans rfl
theorem Blk.d16 {w:World} {g t:Nat} {a0 a1 a2 a3 a4 a5 a6 a7 a8 a9 a10 a11 a12 a13 a14 a15 a16:Value} {r:List Value} (h:Blk w g t (List.toArray (a0::a1::a2::a3::a4::a5::a6::a7::a8::a9::a10::a11::a12::a13::a14::a15::a16::r))):w.cell? ⟨g,16,none⟩=some a16:=(h.cell 16).trans rfl
theorem Blk.d17 {w:World} {g t:Nat} {a0 a1 a2 a3 a4 a5 a6 a7 a8 a9 a10 a11 a12 a13 a14 a15 a16 a17:Value} {r:List Value} (h:Blk w g t (List.toArray (a0::a1::a2::a3::a4::a5::a6::a7::a8::a9::a10::a11::a12::a13::a14::a15::a16::a17::r))):w.cell? ⟨g,17,none⟩=some a17:=(h.cell 17).trans rfl
theorem Blk.d18 {w:World} {g t:Nat} {a0 a1 a2 a3 a4 a5 a6 a7 a8 a9 a10 a11 a12 a13 a14 a15 a16 a17 a18:Value} {r:List Value} (h:Blk w g t (List.toArray (a0::a1::a2::a3::a4::a5::a6::a7::a8::a9::a10::a11::a12::a13::a14::a15::a16::a17::a18::r))):w.cell? ⟨g,18,none⟩=some a18:=(h.cell 18).trans rfl
theorem Blk.d19 {w:World} {g t:Nat} {a0 a1 a2 a3 a4 a5 a6 a7 a8 a9 a10 a11 a12 a13 a14 a15 a16 a17 a18 a19:Value} {r:List Value} (h:Blk w g t (List.toArray (a0::a1::a2::a3::a4::a5::a6::a7::a8::a9::a10::a11::a12::a13::a14::a15::a16::a17::a18::a19::r))):w.cell? ⟨g,19,none⟩=some a19:=(h.cell 19).trans rfl
def loopsOf:Code→List Code
 | .loop c=>c::loopsOf c
 | .seq a b=>loopsOf a++loopsOf b
 | .block _ c=>loopsOf c
 | .scope c=>loopsOf c
 | .cond _ a b=>loopsOf a++loopsOf b
 |_=> []
noncomputable def loopAt (f:Func) (n:Nat):Code:=(((f.body.map loopsOf).getD [])[n]?).getD .skip
end
section
open Go.RowKit Go.Instr
def wv (x:UInt32):Value:= .int .u32 (x.toNat:Int)
def wvs (l:List UInt32):List Value:=l.map wv
theorem wvs_length (l:List UInt32):(wvs l).length=l.length:=by simp [wvs]
theorem wvs_one (l:List UInt32):∀ u∈wvs l,u.oneCell'=true:=by
 intro u hu;simp [wvs] at hu
 obtain ⟨n,_,rfl⟩:=hu;rfl
theorem u32_lt (x:UInt32):x.toNat<4294967296:=x.toNat_lt
def orW (a b:UInt32):UInt32:=a|||b
def xorW (a b:UInt32):UInt32:=a ^^^ b
def andW (a b:UInt32):UInt32:=a &&& b
def addW (a b:UInt32):UInt32:=a+b
def notW (a:UInt32):UInt32:= ~~~ a
def shrW (a:UInt32) (n:Nat):UInt32:=a>>>n.toUInt32
def shlW (a:UInt32) (n:Nat):UInt32:=a<<<n.toUInt32
def ofB (b:UInt8):UInt32:=b.toUInt32
def toB (a:UInt32):UInt8:=a.toUInt8
def rotW (x:UInt32) (n:Nat):UInt32:=orW (shrW x n) (shlW x (32 - n))
theorem w_or (a b:UInt32):bits .or .u32 (a.toNat:Int) (b.toNat:Int)=((orW a b).toNat:Int):=by
 rw [u32_or_nat _ _ (u32_lt a) (u32_lt b),orW,UInt32.toNat_or]
theorem w_xor (a b:UInt32):bits .xor .u32 (a.toNat:Int) (b.toNat:Int)=((xorW a b).toNat:Int):=by
 rw [u32_xor_nat _ _ (u32_lt a) (u32_lt b),xorW,UInt32.toNat_xor]
theorem w_and (a b:UInt32):bits .and .u32 (a.toNat:Int) (b.toNat:Int)=((andW a b).toNat:Int):=by
 rw [u32_and_nat _ _ (u32_lt a) (u32_lt b),andW,UInt32.toNat_and]
theorem w_add (a b:UInt32):IntKind.u32.wrap ((a.toNat:Int)+(b.toNat:Int))=((addW a b).toNat:Int):=by
 rw [IntKind.wrap_u32',addW,UInt32.toNat_add];omega
theorem w_shr (x:UInt32) (n:Nat) (h:n<32):(x.toNat:Int) / 2 ^ n=((shrW x n).toNat:Int):=by
 rw [shrW,UInt32.toNat_shiftRight]
 have:n.toUInt32.toNat % 32=n:=by
  simp
  omega
 rw [this,Nat.shiftRight_eq_div_pow];simp
theorem w_shl (x:UInt32) (n:Nat) (h:n<32):((x.toNat:Int)*2 ^ n) % 4294967296=((shlW x n).toNat:Int):=by
 rw [shlW,UInt32.toNat_shiftLeft]
 have:n.toUInt32.toNat % 32=n:=by
  simp
  omega
 rw [this,Nat.shiftLeft_eq];simp
theorem w_rot (x:UInt32) (n:Nat) (h0:0<n) (h1:n<32):bits .or .u32 ((x.toNat:Int) / 2 ^ n) ((x.toNat:Int)*2 ^ (32 - n) % 4294967296)=((rotW x n).toNat:Int):=by
 rw [w_shr x n h1,w_shl x (32 - n) (by omega),w_or];rfl
theorem ofB_toNat (x:UInt8):(ofB x).toNat=x.toNat:=by simp [ofB]
theorem w_u8 (x:UInt8):IntKind.u32.wrap (x.toNat:Int)=((ofB x).toNat:Int):=by
 rw [IntKind.wrap_u32',ofB_toNat]
 have:=x.toNat_lt
 omega
theorem w_shl24 (x:UInt32):IntKind.u32.wrap ((x.toNat:Int)*16777216)=((shlW x 24).toNat:Int):=by
 rw [IntKind.wrap_u32']; exact w_shl x 24 (by omega)
theorem w_shl16 (x:UInt32):IntKind.u32.wrap ((x.toNat:Int)*65536)=((shlW x 16).toNat:Int):=by
 rw [IntKind.wrap_u32']; exact w_shl x 16 (by omega)
theorem w_shl8 (x:UInt32):IntKind.u32.wrap ((x.toNat:Int)*256)=((shlW x 8).toNat:Int):=by
 rw [IntKind.wrap_u32']; exact w_shl x 8 (by omega)
theorem w_shr3 (x:UInt32):(x.toNat:Int) / 8=((shrW x 3).toNat:Int):=w_shr x 3 (by omega)
theorem w_shr10 (x:UInt32):(x.toNat:Int) / 1024=((shrW x 10).toNat:Int):=w_shr x 10 (by omega)
theorem w_shr8 (x:UInt32):(x.toNat:Int) / 256=((shrW x 8).toNat:Int):=w_shr x 8 (by omega)
theorem w_shr16 (x:UInt32):(x.toNat:Int) / 65536=((shrW x 16).toNat:Int):=w_shr x 16 (by omega)
theorem w_shr24 (x:UInt32):(x.toNat:Int) / 16777216=((shrW x 24).toNat:Int):=w_shr x 24 (by omega)
theorem w_toB (x:UInt32):IntKind.u8.wrap (x.toNat:Int)=((toB x).toNat:Int):=by
 simp [IntKind.wrap,IntKind.bits,IntKind.signed,toB]
theorem sha_rot (x:UInt32) (n:Nat) (h0:0<n) (h1:n<32) (w:World):
  Calls Tryz.prog 218 #[.int .u32 (x.toNat:Int),.int .u64 (n:Int)] w fun e w'=>e= .returned (.int .u32 ((rotW x n).toNat:Int))∧w'=w:=by
 have h:=w_rot x n h0 h1;go_enter Tryz.func218,Tryz.ntmps218
 go_wp2
 go_ret
 exact ⟨rfl,rfl⟩
theorem sha_rot2 (x:UInt32) (w:World):Calls Tryz.prog 218 #[.int .u32 (x.toNat:Int),.int .u64 2] w fun e w'=>e= .returned (.int .u32 ((rotW x 2).toNat:Int))∧w'=w:=sha_rot x 2 (by omega) (by omega) w
theorem sha_rot6 (x:UInt32) (w:World):Calls Tryz.prog 218 #[.int .u32 (x.toNat:Int),.int .u64 6] w fun e w'=>e= .returned (.int .u32 ((rotW x 6).toNat:Int))∧w'=w:=sha_rot x 6 (by omega) (by omega) w
theorem sha_rot7 (x:UInt32) (w:World):Calls Tryz.prog 218 #[.int .u32 (x.toNat:Int),.int .u64 7] w fun e w'=>e= .returned (.int .u32 ((rotW x 7).toNat:Int))∧w'=w:=sha_rot x 7 (by omega) (by omega) w
theorem sha_rot11 (x:UInt32) (w:World):Calls Tryz.prog 218 #[.int .u32 (x.toNat:Int),.int .u64 11] w fun e w'=>e= .returned (.int .u32 ((rotW x 11).toNat:Int))∧w'=w:=sha_rot x 11 (by omega) (by omega) w
theorem sha_rot13 (x:UInt32) (w:World):Calls Tryz.prog 218 #[.int .u32 (x.toNat:Int),.int .u64 13] w fun e w'=>e= .returned (.int .u32 ((rotW x 13).toNat:Int))∧w'=w:=sha_rot x 13 (by omega) (by omega) w
theorem sha_rot17 (x:UInt32) (w:World):Calls Tryz.prog 218 #[.int .u32 (x.toNat:Int),.int .u64 17] w fun e w'=>e= .returned (.int .u32 ((rotW x 17).toNat:Int))∧w'=w:=sha_rot x 17 (by omega) (by omega) w
theorem sha_rot18 (x:UInt32) (w:World):Calls Tryz.prog 218 #[.int .u32 (x.toNat:Int),.int .u64 18] w fun e w'=>e= .returned (.int .u32 ((rotW x 18).toNat:Int))∧w'=w:=sha_rot x 18 (by omega) (by omega) w
theorem sha_rot19 (x:UInt32) (w:World):Calls Tryz.prog 218 #[.int .u32 (x.toNat:Int),.int .u64 19] w fun e w'=>e= .returned (.int .u32 ((rotW x 19).toNat:Int))∧w'=w:=sha_rot x 19 (by omega) (by omega) w
theorem sha_rot22 (x:UInt32) (w:World):Calls Tryz.prog 218 #[.int .u32 (x.toNat:Int),.int .u64 22] w fun e w'=>e= .returned (.int .u32 ((rotW x 22).toNat:Int))∧w'=w:=sha_rot x 22 (by omega) (by omega) w
theorem sha_rot25 (x:UInt32) (w:World):Calls Tryz.prog 218 #[.int .u32 (x.toNat:Int),.int .u64 25] w fun e w'=>e= .returned (.int .u32 ((rotW x 25).toNat:Int))∧w'=w:=sha_rot x 25 (by omega) (by omega) w
end
section
open Go.RowKit Go.Instr
attribute [local go_sem] w_or w_u8 w_shl24 w_shl16 w_shl8 w_xor w_add w_shr3 w_shr10
def wdAt (b:List UInt8) (i:Nat):UInt32:=orW (orW (orW (shlW (ofB (b.getD (4*i) 0)) 24) (shlW (ofB (b.getD (4*i+1) 0)) 16)) (shlW (ofB (b.getD (4*i+2) 0)) 8)) (ofB (b.getD (4*i+3) 0))
def ldW (b:List UInt8):Nat→List UInt32
 |0=>List.replicate 64 0
 |i+1=>(ldW b i).set i (wdAt b i)
def sgA (x:UInt32):UInt32:=xorW (xorW (rotW x 7) (rotW x 18)) (shrW x 3)
def sgB (y:UInt32):UInt32:=xorW (xorW (rotW y 17) (rotW y 19)) (shrW y 10)
def exW (l:List UInt32):Nat→List UInt32
 |0=>l
 |k+1=>let m:=exW l k; m.set (16+k) (addW (addW (addW (m.getD k 0) (sgA (m.getD (k+1) 0))) (m.getD (k+9) 0)) (sgB (m.getD (k+14) 0)))
def spreadW (b:List UInt8):List UInt32:=exW (ldW b 16) 48
theorem ldW_length (b:List UInt8):∀ i,(ldW b i).length=64
 |0=>rfl
 |i+1=>by rw [ldW,List.length_set,ldW_length b i]
theorem exW_length (l:List UInt32) (h:l.length=64):∀ k,(exW l k).length=64
 |0=>h
 |k+1=>by
  have:=exW_length l h k
  simp only [exW,List.length_set,this]
theorem wvs_set (l:List UInt32) (i:Nat) (x:UInt32):(wvs l).toArray.setIfInBounds i (.int .u32 (x.toNat:Int))=(wvs (l.set i x)).toArray:=by
 simp [wvs,wv,List.map_set]
theorem wvs_at {l:List UInt32} {i:Nat} (h:i<l.length):(wvs l).toArray[i]?=some (.int .u32 ((l.getD i 0).toNat:Int)):=by
 simp [wvs,wv,h]
theorem bvals_at {l:List UInt8} {i:Nat} (h:i<l.length):(bvals l).toArray[i]?=some (.int .u8 ((l.getD i 0).toNat:Int)):=by
 simp [bvals,h]
theorem grown_set {w w':World} {g:Nat} (h:w.grownBy w' (some g)) (i:Nat) (v:Value):w.grownBy (w'.setCell ⟨g,i,none⟩ v).drew (some g):=
 ⟨h.os,h.tape,h.output,by rw [World.size_drew,World.size_setCell]; exact h.size,fun k hk hne=>(Below.heap_setCell w' ⟨g,i,none⟩ v k (fun e=>hne (by rw [e]))).trans (h.block k hk hne)⟩
theorem spread_one (b:List UInt8) (hb:b.length=64) (w0:World) (gb gw:Nat) (hB:Blk w0 gb 226 (bvals b).toArray) (hW:Blk w0 gw 285 (wvs (ldW b 0)).toArray)
  (Q:Exit→Act→World→Prop)
  (p2:Value)
  (hQ:∀ ⦃s0 s4 s5 s6 s7 s8 s9 s1 s2 s3 a0 a2 a3 a4 a5 a6 a7 a8 a9 b0 b1 b2 b3 b4 b5 b6 b7 b8 b9 c1 c2 c3 c4 c5 c6 c7 c8 c9 d0 d1 d2 d3 d4 d5 d6 d7 d8 d9 e0 e1 e2 e3 e4 e5 e6 e7 e8 e9 f1 f2 f3 f4 f5 f6 f7 f8 f9 g0 g1 g2 g3 g4 g5 g6 g7 g8 g9 h0 h2 h3 h4 h5:Value⦄ (w2:World),Blk w2 gw 285 (wvs (ldW b 16)).toArray→w0.grownBy w2 (some gw)→w2.heap.size=w0.heap.size→Q (.exit 0) {tmps:=#[s0,.pointer (some ⟨gb,0,none⟩),p2,.pointer (some ⟨gw,0,none⟩),s4,s5,s6,s7,s8,s9,s1,s2,s3,a0,a2,a3,a4,a5,a6,a7,a8,a9,b0,b1,b2,b3,b4,b5,b6,b7,b8,b9,c1,c2,c3,c4,c5,c6,c7,c8,c9,d0,d1,d2,d3,d4,d5,d6,d7,d8,d9,e0,e1,e2,e3,e4,e5,e6,e7,e8,e9,f1,f2,f3,f4,f5,f6,f7,f8,f9,g0,g1,g2,g3,g4,g5,g6,g7,g8,g9,h0,h2,h3,h4,h5],defers:= []} w2)
  (s0 s4 s5 s6 s7 s9 s1 s2 s3 a0 a2 a3 a4 a5 a6 a7 a8 a9 b0 b1 b2 b3 b4 b5 b6 b7 b8 b9 c1 c2 c3 c4 c5 c6 c7 c8 c9 d0 d1 d2 d3 d4 d5 d6 d7 d8 d9 e0 e1 e2 e3 e4 e5 e6 e7 e8 e9 f1 f2 f3 f4 f5 f6 f7 f8 f9 g0 g1 g2 g3 g4 g5 g6 g7 g8 g9 h0 h2 h3 h4 h5:Value):
  Code.wp Tryz.prog (.loop (loopAt Tryz.f217 0)) Q {tmps:=#[s0,.pointer (some ⟨gb,0,none⟩),p2,.pointer (some ⟨gw,0,none⟩),s4,s5,s6,s7,.int .i64 0,s9,s1,s2,s3,a0,a2,a3,a4,a5,a6,a7,a8,a9,b0,b1,b2,b3,b4,b5,b6,b7,b8,b9,c1,c2,c3,c4,c5,c6,c7,c8,c9,d0,d1,d2,d3,d4,d5,d6,d7,d8,d9,e0,e1,e2,e3,e4,e5,e6,e7,e8,e9,f1,f2,f3,f4,f5,f6,f7,f8,f9,g0,g1,g2,g3,g4,g5,g6,g7,g8,g9,h0,h2,h3,h4,h5],defers:= []} w0:=by
 have HQ:=ι hQ;clear hQ;refine wp_loop_ghost_k (fun k a wr=>∀ Φ:Act→Prop,(∀ ⦃s0 s4 s5 s6 s7 s9 s1 s2 s3 a0 a2 a3 a4 a5 a6 a7 a8 a9 b0 b1 b2 b3 b4 b5 b6 b7 b8 b9 c1 c2 c3 c4 c5 c6 c7 c8 c9 d0 d1 d2 d3 d4 d5 d6 d7 d8 d9 e0 e1 e2 e3 e4 e5 e6 e7 e8 e9 f1 f2 f3 f4 f5 f6 f7 f8 f9 g0 g1 g2 g3 g4 g5 g6 g7 g8 g9 h0 h2 h3 h4 h5:Value⦄ (i:Nat),(i+k=16∧Blk wr gw 285 (wvs (ldW b i)).toArray∧w0.grownBy wr (some gw)∧wr.heap.size=w0.heap.size)→Φ {tmps:=#[s0,.pointer (some ⟨gb,0,none⟩),p2,.pointer (some ⟨gw,0,none⟩),s4,s5,s6,s7,.int .i64 i,s9,s1,s2,s3,a0,a2,a3,a4,a5,a6,a7,a8,a9,b0,b1,b2,b3,b4,b5,b6,b7,b8,b9,c1,c2,c3,c4,c5,c6,c7,c8,c9,d0,d1,d2,d3,d4,d5,d6,d7,d8,d9,e0,e1,e2,e3,e4,e5,e6,e7,e8,e9,f1,f2,f3,f4,f5,f6,f7,f8,f9,g0,g1,g2,g3,g4,g5,g6,g7,g8,g9,h0,h2,h3,h4,h5],defers:= []})→Φ a) (16) ?_ ?_
 ·refine fun Φ hΦ=>hΦ (0) ?_;exact ⟨by omega,hW,World.grownBy.refl _ _,rfl⟩
 ·intro k1 a1 wr1 hI1 J1 K1 hJ1 hK1;refine hI1 (fun a=>Code.wp _ _ _ a _) ?_;clear hI1 a1;iterate 81 (intro _)
  intro i hrel
  show Code.wp _ _ _ _ _
  conv=>arg 2; whnf
  obtain ⟨h1,hw,hg,hs⟩:=hrel;by_cases hi:i<16
  ·have hne:gb≠gw:=hB.ne_ hW (by decide);have hbb:=hB.grown hg (by intro e; injection e with e; exact hne e);have q0:wr1.cell? ⟨gb,4*i,none⟩=some (.int .u8 ((b.getD (4*i) 0).toNat:Int)):=(hbb.cell _).trans (bvals_at (by omega));have q1:wr1.cell? ⟨gb,4*i+1,none⟩=some (.int .u8 ((b.getD (4*i+1) 0).toNat:Int)):=(hbb.cell _).trans (bvals_at (by omega));have q2:wr1.cell? ⟨gb,4*i+2,none⟩=some (.int .u8 ((b.getD (4*i+2) 0).toNat:Int)):=(hbb.cell _).trans (bvals_at (by omega));have q3:wr1.cell? ⟨gb,4*i+3,none⟩=some (.int .u8 ((b.getD (4*i+3) 0).toNat:Int)):=(hbb.cell _).trans (bvals_at (by omega));have c0:wr1.cell? ⟨gw,i,none⟩=some (.int .u32 (((ldW b i).getD i 0).toNat:Int)):=(hw.cell _).trans (wvs_at (by rw [ldW_length]; omega));have f0:wr1.frozen? ⟨gw,i,none⟩=false:=hw.frozen _;have hi1:(i:Int)<16:=by omega
   have H:=ι (And.intro h1 (And.intro hw (And.intro hg hs)));have E:Hid (ldW b (i+1)=(ldW b i).set i (wdAt b i)):=ι rfl;unfold wdAt at E;generalize b.getD (4*i) 0=x0 at *;generalize b.getD (4*i+1) 0=x1 at *;generalize b.getD (4*i+2) 0=x2 at *;generalize b.getD (4*i+3) 0=x3 at *;generalize ((ldW b i).getD i 0)=x4 at *;clear h1 hw hg hs hbb;have v0:IntKind.i64.wrap (4*(i:Int))=4*(i:Int):=IntWalk.i64_in _ (by omega);have v1:IntKind.i64.wrap (4*(i:Int)+1)=4*(i:Int)+1:=IntWalk.i64_in _ (by omega);have v2:IntKind.i64.wrap (4*(i:Int)+2)=4*(i:Int)+2:=IntWalk.i64_in _ (by omega);have v3:IntKind.i64.wrap (4*(i:Int)+3)=4*(i:Int)+3:=IntWalk.i64_in _ (by omega);have z0:0≤4*(i:Int):=by omega
   have z1:0≤4*(i:Int)+1:=by omega
   have z2:0≤4*(i:Int)+2:=by omega
   have z3:0≤4*(i:Int)+3:=by omega
   have l0:4*(i:Int)<64:=by omega
   have l1:4*(i:Int)+1<64:=by omega
   have l2:4*(i:Int)+2<64:=by omega
   have l3:4*(i:Int)+3<64:=by omega
   have t0:(4*(i:Int)).toNat=4*i:=by omega
   have t1:(4*(i:Int)+1).toNat=4*i+1:=by omega
   have t2:(4*(i:Int)+2).toNat=4*i+2:=by omega
   have t3:(4*(i:Int)+3).toNat=4*i+3:=by omega
   have l4:(i:Int)<64:=by omega
   go_wp2
   go_still_tail 31,(by kernel_rfl)
   go_wp2
   refine Handed.intro (16 - (i+1)) ?_ (hJ1 _ _ _ (fun Φ hΦ=>hΦ (i+1) ?_))
   ·have:=H.out.1
    omega
   ·obtain ⟨h1,hw,hg,hs⟩:=H.out;have e:=E.out;have hw2:=hw.set_ i (.int .u32 ((orW (orW (orW (shlW (ofB x0) 24) (shlW (ofB x1) 16)) (shlW (ofB x2) 8)) (ofB x3)).toNat:Int));rw [wvs_set,←e] at hw2;refine ⟨by omega,hw2.drew,grown_set hg _ _,?_⟩;simp [hs]
  ·have e:i=16:=by omega
   subst e;have H:=ι (And.intro hw (And.intro hg hs));clear hw hg hs h1;go_wp2
   exact HQ.out _ H.out.1 H.out.2.1 H.out.2.2
theorem spread_two (l:List UInt32) (hl:l.length=64) (w0:World) (gw:Nat) (hW:Blk w0 gw 285 (wvs l).toArray)
  (Q:Exit→Act→World→Prop) (p1 p2:Value)
  (hQ:∀ ⦃s0 s4 s5 s6 s7 s8 s9 s1 s2 s3 a0 a6 a7 a8 a9 b0 b1 b2 b3 b4 b5 b6 b7 b8 b9 c1 c2 c3 c4 c5 c6 c7 c8 c9 d0 d1 d2 d3 d4 d5 d6 d7 d8 d9 e0 e1 e2 e3 e4 e5 e6 e7 e8 e9 f1 f2 f3 f4 f5 f6 f7 f8 f9 g0 g1 g2 g3 g4 g5 g6 g7 g8 g9 h0 h2 h3 h4 h5 h6 h7 h8 h9:Value⦄ (w2:World),Blk w2 gw 285 (wvs (exW l 48)).toArray→w0.grownBy w2 (some gw)→w2.heap.size=w0.heap.size→Q (.exit 2) {tmps:=#[s0,p1,p2,.pointer (some ⟨gw,0,none⟩),s4,s5,s6,s7,s8,s9,s1,s2,s3,a0,a6,a7,a8,a9,b0,b1,b2,b3,b4,b5,b6,b7,b8,b9,c1,c2,c3,c4,c5,c6,c7,c8,c9,d0,d1,d2,d3,d4,d5,d6,d7,d8,d9,e0,e1,e2,e3,e4,e5,e6,e7,e8,e9,f1,f2,f3,f4,f5,f6,f7,f8,f9,g0,g1,g2,g3,g4,g5,g6,g7,g8,g9,h0,h2,h3,h4,h5,h6,h7,h8,h9],defers:= []} w2)
  (s0 s4 s6 s7 s8 s9 s1 s2 s3 a0 a6 a7 a8 a9 b0 b1 b2 b3 b4 b5 b6 b7 b8 b9 c1 c2 c3 c4 c5 c6 c7 c8 c9 d0 d1 d2 d3 d4 d5 d6 d7 d8 d9 e0 e1 e2 e3 e4 e5 e6 e7 e8 e9 f1 f2 f3 f4 f5 f6 f7 f8 f9 g0 g1 g2 g3 g4 g5 g6 g7 g8 g9 h0 h2 h3 h4 h5 h6 h7 h8 h9:Value):
  Code.wp Tryz.prog (.loop (loopAt Tryz.f217 1)) Q {tmps:=#[s0,p1,p2,.pointer (some ⟨gw,0,none⟩),s4,.int .i64 16,s6,s7,s8,s9,s1,s2,s3,a0,a6,a7,a8,a9,b0,b1,b2,b3,b4,b5,b6,b7,b8,b9,c1,c2,c3,c4,c5,c6,c7,c8,c9,d0,d1,d2,d3,d4,d5,d6,d7,d8,d9,e0,e1,e2,e3,e4,e5,e6,e7,e8,e9,f1,f2,f3,f4,f5,f6,f7,f8,f9,g0,g1,g2,g3,g4,g5,g6,g7,g8,g9,h0,h2,h3,h4,h5,h6,h7,h8,h9],defers:= []} w0:=by
 have HQ:=ι hQ;clear hQ;refine wp_loop_ghost_k (fun k a wr=>∀ Φ:Act→Prop,(∀ ⦃s0 s4 s6 s7 s8 s9 s1 s2 s3 a0 a6 a7 a8 a9 b0 b1 b2 b3 b4 b5 b6 b7 b8 b9 c1 c2 c3 c4 c5 c6 c7 c8 c9 d0 d1 d2 d3 d4 d5 d6 d7 d8 d9 e0 e1 e2 e3 e4 e5 e6 e7 e8 e9 f1 f2 f3 f4 f5 f6 f7 f8 f9 g0 g1 g2 g3 g4 g5 g6 g7 g8 g9 h0 h2 h3 h4 h5 h6 h7 h8 h9:Value⦄ (i:Nat) (j:Nat),(i=16+j∧j+k=48∧Blk wr gw 285 (wvs (exW l j)).toArray∧w0.grownBy wr (some gw)∧wr.heap.size=w0.heap.size)→Φ {tmps:=#[s0,p1,p2,.pointer (some ⟨gw,0,none⟩),s4,.int .i64 i,s6,s7,s8,s9,s1,s2,s3,a0,a6,a7,a8,a9,b0,b1,b2,b3,b4,b5,b6,b7,b8,b9,c1,c2,c3,c4,c5,c6,c7,c8,c9,d0,d1,d2,d3,d4,d5,d6,d7,d8,d9,e0,e1,e2,e3,e4,e5,e6,e7,e8,e9,f1,f2,f3,f4,f5,f6,f7,f8,f9,g0,g1,g2,g3,g4,g5,g6,g7,g8,g9,h0,h2,h3,h4,h5,h6,h7,h8,h9],defers:= []})→Φ a) (48) ?_ ?_
 ·refine fun Φ hΦ=>hΦ (16) (0) ?_;exact ⟨by omega,by omega,hW,World.grownBy.refl _ _,rfl⟩
 ·intro k1 a1 wr1 hI1 J1 K1 hJ1 hK1;refine hI1 (fun a=>Code.wp _ _ _ a _) ?_;clear hI1 a1;iterate 81 (intro _)
  intro i j hrel
  show Code.wp _ _ _ _ _
  conv=>arg 2; whnf
  obtain ⟨hij,h1,hw,hg,hs⟩:=hrel;by_cases hi:i<64
  ·have hlen:=exW_length l hl j;have q1:wr1.cell? ⟨gw,i - 15,none⟩=some (.int .u32 (((exW l j).getD (j+1) 0).toNat:Int)):=(hw.cell _).trans (by rw [show i - 15=j+1 by omega]; exact wvs_at (by omega));have q2:wr1.cell? ⟨gw,i - 2,none⟩=some (.int .u32 (((exW l j).getD (j+14) 0).toNat:Int)):=(hw.cell _).trans (by rw [show i - 2=j+14 by omega]; exact wvs_at (by omega));have q3:wr1.cell? ⟨gw,i - 16,none⟩=some (.int .u32 (((exW l j).getD j 0).toNat:Int)):=(hw.cell _).trans (by rw [show i - 16=j by omega]; exact wvs_at (by omega));have q4:wr1.cell? ⟨gw,i - 7,none⟩=some (.int .u32 (((exW l j).getD (j+9) 0).toNat:Int)):=(hw.cell _).trans (by rw [show i - 7=j+9 by omega]; exact wvs_at (by omega));have c0:wr1.cell? ⟨gw,i,none⟩=some (.int .u32 (((exW l j).getD i 0).toNat:Int)):=(hw.cell _).trans (wvs_at (by omega));have f0:wr1.frozen? ⟨gw,i,none⟩=false:=hw.frozen _;have hi1:(i:Int)<64:=by omega
   have E:Hid (exW l (j+1)=(exW l j).set i (addW (addW (addW ((exW l j).getD j 0) (sgA ((exW l j).getD (j+1) 0))) ((exW l j).getD (j+9) 0)) (sgB ((exW l j).getD (j+14) 0)))):=ι (by rw [hij]; rfl);unfold sgA sgB at E;have v1:IntKind.i64.wrap ((i:Int) - 15)=(i:Int) - 15:=IntWalk.i64_in _ (by omega);have v2:IntKind.i64.wrap ((i:Int) - 2)=(i:Int) - 2:=IntWalk.i64_in _ (by omega);have v3:IntKind.i64.wrap ((i:Int) - 16)=(i:Int) - 16:=IntWalk.i64_in _ (by omega);have v4:IntKind.i64.wrap ((i:Int) - 7)=(i:Int) - 7:=IntWalk.i64_in _ (by omega);have z1:0≤(i:Int) - 15:=by omega
   have z2:0≤(i:Int) - 2:=by omega
   have z3:0≤(i:Int) - 16:=by omega
   have z4:0≤(i:Int) - 7:=by omega
   have y1:15≤(i:Int):=by omega
   have y2:2≤(i:Int):=by omega
   have y3:16≤(i:Int):=by omega
   have y4:7≤(i:Int):=by omega
   have x1:(i:Int) - 15<64:=by omega
   have x2:(i:Int) - 2<64:=by omega
   have x3:(i:Int) - 16<64:=by omega
   have x4:(i:Int) - 7<64:=by omega
   have t1:((i:Int) - 15).toNat=i - 15:=by omega
   have t2:((i:Int) - 2).toNat=i - 2:=by omega
   have t3:((i:Int) - 16).toNat=i - 16:=by omega
   have t4:((i:Int) - 7).toNat=i - 7:=by omega
   have H:=ι (And.intro hij (And.intro h1 (And.intro hw (And.intro hg hs))));generalize (exW l j).getD (j+1) 0=a1 at *;generalize (exW l j).getD (j+14) 0=a2 at *;generalize (exW l j).getD j 0=a3 at *;generalize (exW l j).getD (j+9) 0=a4 at *;generalize (exW l j).getD i 0=a5 at *;clear h1 hw hg hs hlen hij;go_wp2
   go_quiet (fail)
   have H':Hid (i=16+j∧j+k1=48∧Blk (wr1.drewN nq) gw 285 (wvs (exW l j)).toArray∧w0.grownBy (wr1.drewN nq) (some gw)∧(wr1.drewN nq).heap.size=w0.heap.size):=ι (by
    obtain ⟨hij,h1,hw,hg,hs⟩:=H.out;exact ⟨hij,h1,hw,⟨hg.os,hg.tape,hg.output,hg.size,hg.block⟩,hs⟩)
   have q3':(wr1.drewN nq).cell? ⟨gw,i - 16,none⟩=some (.int .u32 (a3.toNat:Int)):=q3;have q4':(wr1.drewN nq).cell? ⟨gw,i - 7,none⟩=some (.int .u32 (a4.toNat:Int)):=q4;have c0':(wr1.drewN nq).cell? ⟨gw,i,none⟩=some (.int .u32 (a5.toNat:Int)):=c0;have f0':(wr1.drewN nq).frozen? ⟨gw,i,none⟩=false:=f0;clear H q1 q2 q3 q4 c0 f0;generalize wr1.drewN nq=wx at *;go_wp2
   refine wp_region_still_tail 29 (by kernel_rfl) (by kernel_rfl) ?_;simp only [List.take_succ_cons,List.take_zero,List.drop_succ_cons,List.drop_zero]
   repeat still_step
   still_call (sha_rot7 _ _)
   repeat still_step
   still_call (sha_rot18 _ _)
   repeat still_step
   still_call (sha_rot17 _ _)
   repeat still_step
   still_call (sha_rot19 _ _)
   repeat still_step
   refine wpStill_nil ?_;clear v1 v2 v3 v4 t1 t2 t3 t4 z1 z2 z3 z4 x1 x2 x3 x4 y1 y2 y3 y4;go_wp2
   refine Handed.intro (48 - (j+1)) ?_ (hJ1 _ _ _ (fun Φ hΦ=>hΦ (i+1) (j+1) ?_))
   ·obtain ⟨_,h48,_⟩:=H'.out
    show 48 - (j+1)<k1;omega
   ·obtain ⟨hij,h1,hw,hg,hs⟩:=H'.out;have e:=E.out;have hw2:=hw.set_ i (.int .u32 ((addW (addW (addW a3 (xorW (xorW (rotW a1 7) (rotW a1 18)) (shrW a1 3))) a4) (xorW (xorW (rotW a2 17) (rotW a2 19)) (shrW a2 10))).toNat:Int));rw [wvs_set,←e] at hw2;refine ⟨by omega,by omega,hw2,?_,by simp [hs]⟩;exact grown_set hg _ _
  ·have e:j=48:=by omega
   subst e;have ei:i=64:=by omega
   subst ei;have H:=ι (And.intro hw (And.intro hg hs));clear hw hg hs h1 hij;go_wp2
   exact HQ.out _ H.out.1 H.out.2.1 H.out.2.2
end
section
open Go.RowKit Go.Instr
theorem info_w64:(Tryz.prog.info? 285).map (·.size)=some 64:=by kernel_rfl
theorem wvs_all (l:List UInt32):(wvs l).toArray.all (·.oneCell')=true:=by
 rw [Array.all_eq_true_iff_forall_mem];intro x hx;exact wvs_one l x (by simpa using hx)
theorem zeros64 (b:List UInt8):(wvs (ldW b 0)).toArray=#[.int .u32 0,.int .u32 0,.int .u32 0,.int .u32 0,.int .u32 0,.int .u32 0,.int .u32 0,.int .u32 0,.int .u32 0,.int .u32 0,.int .u32 0,.int .u32 0,.int .u32 0,.int .u32 0,.int .u32 0,.int .u32 0,.int .u32 0,.int .u32 0,.int .u32 0,.int .u32 0,.int .u32 0,.int .u32 0,.int .u32 0,.int .u32 0,.int .u32 0,.int .u32 0,.int .u32 0,.int .u32 0,.int .u32 0,.int .u32 0,.int .u32 0,.int .u32 0,.int .u32 0,.int .u32 0,.int .u32 0,.int .u32 0,.int .u32 0,.int .u32 0,.int .u32 0,.int .u32 0,.int .u32 0,.int .u32 0,.int .u32 0,.int .u32 0,.int .u32 0,.int .u32 0,.int .u32 0,.int .u32 0,.int .u32 0,.int .u32 0,.int .u32 0,.int .u32 0,.int .u32 0,.int .u32 0,.int .u32 0,.int .u32 0,.int .u32 0,.int .u32 0,.int .u32 0,.int .u32 0,.int .u32 0,.int .u32 0,.int .u32 0,.int .u32 0]:=rfl
theorem sha_spread (b:List UInt8) (hb:b.length=64) (w:World):
  Calls Tryz.prog 217 #[.agg (bvals b).toArray] w fun e w'=>e= .returned (.agg (wvs (spreadW b)).toArray)∧Below w.heap.size w w':=by
 have h64:=zeros64 b;have HS:Hid (spreadW b=exW (ldW b 16) 48):=ι rfl;generalize spreadW b=S at HS ⊢;generalize hz:wvs (ldW b 0)=z at h64;go_enter Tryz.func217,Tryz.ntmps217
 go_wp2
 rw [←h64,←hz];have F:Hid (Blk (((w.alloc (.cells (bvals b).toArray 226)).alloc (.cells (wvs (ldW b 0)).toArray 285)).alloc (.cells (wvs (ldW b 0)).toArray 285)) w.heap.size 226 (bvals b).toArray∧Blk (((w.alloc (.cells (bvals b).toArray 226)).alloc (.cells (wvs (ldW b 0)).toArray 285)).alloc (.cells (wvs (ldW b 0)).toArray 285)) (w.heap.size+1) 285 (wvs (ldW b 0)).toArray∧Blk (((w.alloc (.cells (bvals b).toArray 226)).alloc (.cells (wvs (ldW b 0)).toArray 285)).alloc (.cells (wvs (ldW b 0)).toArray 285)) (w.heap.size+2) 285 (wvs (ldW b 0)).toArray∧Below w.heap.size w (((w.alloc (.cells (bvals b).toArray 226)).alloc (.cells (wvs (ldW b 0)).toArray 285)).alloc (.cells (wvs (ldW b 0)).toArray 285))):=ι (by
  refine ⟨((Blk.new w _ _).alloc _).alloc _,(by have:=Blk.new (w.alloc (.cells (bvals b).toArray 226)) 285 (wvs (ldW b 0)).toArray; rw [World.size_alloc] at this; exact this.alloc _),(by have:=Blk.new ((w.alloc (.cells (bvals b).toArray 226)).alloc (.cells (wvs (ldW b 0)).toArray 285)) 285 (wvs (ldW b 0)).toArray; rw [World.size_alloc,World.size_alloc] at this; exact this),by go_grown⟩)
 generalize (((w.alloc (.cells (bvals b).toArray 226)).alloc (.cells (wvs (ldW b 0)).toArray 285)).alloc (.cells (wvs (ldW b 0)).toArray 285))=W1 at F ⊢;clear h64 hz;obtain ⟨f1,f2,f3,f4⟩:=F.out;refine spread_one b hb W1 w.heap.size (w.heap.size+2) f1 f3 _ _ ?_ _ _ _ _ _ _ _ _ _ _ _ _ _ _ _ _ _ _ _ _ _ _ _ _ _ _ _ _ _ _ _ _ _ _ _ _ _ _ _ _ _ _ _ _ _ _ _ _ _ _ _ _ _ _ _ _ _ _ _ _ _ _ _ _ _ _ _ _ _ _ _ _ _ _ _ _ _ _ _ _ _;intro s0 s4 s5 s6 s7 s8 s9 s10 s11 s12 s13 s14 s15 s16 s17 s18 s19 s20 s21 s22 s23 s24 s25 s26 s27 s28 s29 s30 s31 s32 s33 s34 s35 s36 s37 s38 s39 s40 s41 s42 s43 s44 s45 s46 s47 s48 s49 s50 s51 s52 s53 s54 s55 s56 s57 s58 s59 s60 s61 s62 s63 s64 s65 s66 s67 s68 s69 s70 s71 s72 s73 s74 s75 s76 s77 s78 s79 s80 s81 s82 s83 s84 w2 hw2 hg2 hs2;have G2:=ι (And.intro hw2 (And.intro hg2 hs2));clear hw2 hg2 hs2 f1 f2 f3 f4;go_wp2
 refine spread_two (ldW b 16) (ldW_length b 16) w2 (w.heap.size+2) G2.out.1 _ _ _ ?_ _ _ _ _ _ _ _ _ _ _ _ _ _ _ _ _ _ _ _ _ _ _ _ _ _ _ _ _ _ _ _ _ _ _ _ _ _ _ _ _ _ _ _ _ _ _ _ _ _ _ _ _ _ _ _ _ _ _ _ _ _ _ _ _ _ _ _ _ _ _ _ _ _ _ _ _ _ _ _ _ _;intro s0 s4 s5 s6 s7 s8 s9 s10 s11 s12 s13 s14 s15 s16 s17 s18 s19 s20 s21 s22 s23 s24 s25 s26 s27 s28 s29 s30 s31 s32 s33 s34 s35 s36 s37 s38 s39 s40 s41 s42 s43 s44 s45 s46 s47 s48 s49 s50 s51 s52 s53 s54 s55 s56 s57 s58 s59 s60 s61 s62 s63 s64 s65 s66 s67 s68 s69 s70 s71 s72 s73 s74 s75 s76 s77 s78 s79 s80 s81 s82 s83 s84 w3 hw3 hg3 hs3;have e64:(wvs (exW (ldW b 16) 48)).toArray.size=64:=by rw [List.size_toArray,wvs_length]; exact exW_length _ (ldW_length b 16) 48
 generalize exW (ldW b 16) 48=sp at hw3 e64 HS;have i64:(Tryz.prog.info? 285).map (·.size)=some (wvs sp).toArray.size:=by rw [e64]; exact info_w64
 have hr3:Blk w3 (w.heap.size+1) 285 (wvs (ldW b 0)).toArray:=(F.out.2.1.grown G2.out.2.1 (by intro e; injection e with e; omega)).grown hg3 (by intro e; injection e with e; omega);have r64:(wvs (ldW b 0)).toArray.size=(wvs sp).toArray.size:=by rw [e64]; simp [wvs_length,ldW_length]
 have G3:=ι (And.intro hw3 (And.intro hr3 (And.intro r64 i64)));have B3:Hid (Below w.heap.size w w3):=ι ((F.out.2.2.2.grown G2.out.2.1 F.out.2.2.2.size (by intro k e; injection e with e; omega)).grown hg3 (by have:=G2.out.2.1.size; have:=F.out.2.2.2.size; omega) (by intro k e; injection e with e; omega));clear hw3 hr3 hg3 hs3 e64 i64 r64;generalize (wvs (ldW b 0)).toArray=zs at *;have A1:=ι (wvs_all sp);have HE:Hid (Value.agg (wvs S).toArray= .agg (wvs sp).toArray):=ι (by rw [HS.out]);generalize (wvs sp).toArray=ws at *;go_wp2_with (first|refine wpList_load_row rfl 285 _ rfl (w.heap.size+2) rfl _ _ _ _ G3.out.1 Tryz.underlying285 rfl G3.out.2.2.2 ?_|refine wpList_store_row rfl 285 _ _ rfl (w.heap.size+1) _ rfl rfl _ _ G3.out.2.1 G3.out.2.2.2 G3.out.2.2.1 A1.out ?_)
 refine bodyPost_ret (v:= .agg ws) (results_cell_row (by rfl) _ _ (w.heap.size+1) 285 ws (0,0) _ rfl (setRow_heap w3 _ _ ws _ _ G3.out.2.1) Tryz.underlying285 rfl G3.out.2.2.2) rfl ⟨by rw [HE.out],?_⟩;exact below_setRow B3.out (by omega) _
end
end Go.Proofs.YtnelhjfjkkdoaaaGreatDoor