import Derived.Test.YtnelhjfjkkdoaaaGreatDoorK01
import Derived.Maps.OwnSet
import Derived.StillTailTactics
import Derived.IntWalk
set_option linter.unusedSimpArgs false
set_option linter.unusedVariables false
set_option maxHeartbeats 4000000
set_option maxRecDepth 100000
namespace Go.Proofs.YtnelhjfjkkdoaaaGreatDoor
section
open Go.RowKit
structure CC where
def ζ:CC:=⟨⟩
def ε:CC:=⟨⟩
def ν:CC:=⟨⟩
def ω:CC:=⟨⟩
def θ (_:List Value):CC:=⟨⟩
instance:CoeDep CC ζ Value:=⟨.int .i64 0⟩
instance:CoeDep CC ε Value:=⟨.string ⟨#[]⟩⟩
instance:CoeDep CC ν Value:=⟨.slice none 0 0⟩
instance:CoeDep CC ω Value:=⟨.int .u32 0⟩
instance:Coe (List UInt8) Value:=⟨fun x=> .string ⟨x.toArray⟩⟩
instance:Coe Int Value:=⟨fun x=> .int .i64 x⟩
instance:Coe Nat Value:=⟨fun x=> .int .i64 (x:Int)⟩
instance:Coe Bool Value:=⟨fun x=> .bool x⟩
instance (t:List Value):CoeDep CC (θ t) (List Value):=⟨ζ::ζ::ζ::false::ε::ε::ε::ε::ε::ε::t⟩
instance (t:List Value):CoeDep CC (θ t) (Array Value):=⟨List.toArray (ζ::ζ::ζ::false::ε::ε::ε::ε::ε::ε::t)⟩
theorem ι {P:Prop} (h:P):Hid P:=Lib.hid h
theorem Blk.c1 {w:World} {g t:Nat} {a0:Value} {r:List Value} (h:Blk w g t (List.toArray (a0::r))):w.cell? ⟨g,0,none⟩=some a0:=(h.cell 0).trans rfl
theorem Blk.c2 {w:World} {g t:Nat} {a0 a1:Value} {r:List Value} (h:Blk w g t (List.toArray (a0::a1::r))):w.cell? ⟨g,0,none⟩=some a0∧w.cell? ⟨g,1,none⟩=some a1:=⟨(h.cell 0).trans rfl,(h.cell 1).trans rfl⟩
theorem Blk.c3 {w:World} {g t:Nat} {a0 a1 a2:Value} {r:List Value} (h:Blk w g t (List.toArray (a0::a1::a2::r))):w.cell? ⟨g,0,none⟩=some a0∧w.cell? ⟨g,1,none⟩=some a1∧w.cell? ⟨g,2,none⟩=some a2:=⟨(h.cell 0).trans rfl,(h.cell 1).trans rfl,(h.cell 2).trans rfl⟩
theorem Blk.c4 {w:World} {g t:Nat} {a0 a1 a2 a3:Value} {r:List Value} (h:Blk w g t (List.toArray (a0::a1::a2::a3::r))):w.cell? ⟨g,0,none⟩=some a0∧w.cell? ⟨g,1,none⟩=some a1∧w.cell? ⟨g,2,none⟩=some a2∧w.cell? ⟨g,3,none⟩=some a3:=⟨(h.cell 0).trans rfl,(h.cell 1).trans rfl,(h.cell 2).trans rfl,(h.cell 3).trans rfl⟩
theorem Blk.c5 {w:World} {g t:Nat} {a0 a1 a2 a3 a4:Value} {r:List Value} (h:Blk w g t (List.toArray (a0::a1::a2::a3::a4::r))):w.cell? ⟨g,0,none⟩=some a0∧w.cell? ⟨g,1,none⟩=some a1∧w.cell? ⟨g,2,none⟩=some a2∧w.cell? ⟨g,3,none⟩=some a3∧w.cell? ⟨g,4,none⟩=some a4:=⟨(h.cell 0).trans rfl,(h.cell 1).trans rfl,(h.cell 2).trans rfl,(h.cell 3).trans rfl,(h.cell 4).trans rfl⟩
theorem Blk.c6 {w:World} {g t:Nat} {a0 a1 a2 a3 a4 a5:Value} {r:List Value} (h:Blk w g t (List.toArray (a0::a1::a2::a3::a4::a5::r))):w.cell? ⟨g,0,none⟩=some a0∧w.cell? ⟨g,1,none⟩=some a1∧w.cell? ⟨g,2,none⟩=some a2∧w.cell? ⟨g,3,none⟩=some a3∧w.cell? ⟨g,4,none⟩=some a4∧w.cell? ⟨g,5,none⟩=some a5:=⟨(h.cell 0).trans rfl,(h.cell 1).trans rfl,(h.cell 2).trans rfl,(h.cell 3).trans rfl,(h.cell 4).trans rfl,(h.cell 5).trans rfl⟩
theorem Blk.c7 {w:World} {g t:Nat} {a0 a1 a2 a3 a4 a5 a6:Value} {r:List Value} (h:Blk w g t (List.toArray (a0::a1::a2::a3::a4::a5::a6::r))):w.cell? ⟨g,0,none⟩=some a0∧w.cell? ⟨g,1,none⟩=some a1∧w.cell? ⟨g,2,none⟩=some a2∧w.cell? ⟨g,3,none⟩=some a3∧w.cell? ⟨g,4,none⟩=some a4∧w.cell? ⟨g,5,none⟩=some a5∧w.cell? ⟨g,6,none⟩=some a6:=⟨(h.cell 0).trans rfl,(h.cell 1).trans rfl,(h.cell 2).trans rfl,(h.cell 3).trans rfl,(h.cell 4).trans rfl,(h.cell 5).trans rfl,(h.cell 6).trans rfl⟩
theorem Blk.c8 {w:World} {g t:Nat} {a0 a1 a2 a3 a4 a5 a6 a7:Value} {r:List Value} (h:Blk w g t (List.toArray (a0::a1::a2::a3::a4::a5::a6::a7::r))):w.cell? ⟨g,0,none⟩=some a0∧w.cell? ⟨g,1,none⟩=some a1∧w.cell? ⟨g,2,none⟩=some a2∧w.cell? ⟨g,3,none⟩=some a3∧w.cell? ⟨g,4,none⟩=some a4∧w.cell? ⟨g,5,none⟩=some a5∧w.cell? ⟨g,6,none⟩=some a6∧w.cell? ⟨g,7,none⟩=some a7:=⟨(h.cell 0).trans rfl,(h.cell 1).trans rfl,(h.cell 2).trans rfl,(h.cell 3).trans rfl,(h.cell 4).trans rfl,(h.cell 5).trans rfl,(h.cell 6).trans rfl,(h.cell 7).trans rfl⟩
theorem Blk.c9 {w:World} {g t:Nat} {a0 a1 a2 a3 a4 a5 a6 a7 a8:Value} {r:List Value} (h:Blk w g t (List.toArray (a0::a1::a2::a3::a4::a5::a6::a7::a8::r))):w.cell? ⟨g,0,none⟩=some a0∧w.cell? ⟨g,1,none⟩=some a1∧w.cell? ⟨g,2,none⟩=some a2∧w.cell? ⟨g,3,none⟩=some a3∧w.cell? ⟨g,4,none⟩=some a4∧w.cell? ⟨g,5,none⟩=some a5∧w.cell? ⟨g,6,none⟩=some a6∧w.cell? ⟨g,7,none⟩=some a7∧w.cell? ⟨g,8,none⟩=some a8:=⟨(h.cell 0).trans rfl,(h.cell 1).trans rfl,(h.cell 2).trans rfl,(h.cell 3).trans rfl,(h.cell 4).trans rfl,(h.cell 5).trans rfl,(h.cell 6).trans rfl,(h.cell 7).trans rfl,(h.cell 8).trans rfl⟩
theorem Blk.c10 {w:World} {g t:Nat} {a0 a1 a2 a3 a4 a5 a6 a7 a8 a9:Value} {r:List Value} (h:Blk w g t (List.toArray (a0::a1::a2::a3::a4::a5::a6::a7::a8::a9::r))):w.cell? ⟨g,0,none⟩=some a0∧w.cell? ⟨g,1,none⟩=some a1∧w.cell? ⟨g,2,none⟩=some a2∧w.cell? ⟨g,3,none⟩=some a3∧w.cell? ⟨g,4,none⟩=some a4∧w.cell? ⟨g,5,none⟩=some a5∧w.cell? ⟨g,6,none⟩=some a6∧w.cell? ⟨g,7,none⟩=some a7∧w.cell? ⟨g,8,none⟩=some a8∧w.cell? ⟨g,9,none⟩=some a9:=⟨(h.cell 0).trans rfl,(h.cell 1).trans rfl,(h.cell 2).trans rfl,(h.cell 3).trans rfl,(h.cell 4).trans rfl,(h.cell 5).trans rfl,(h.cell 6).trans rfl,(h.cell 7).trans rfl,(h.cell 8).trans rfl,(h.cell 9).trans rfl⟩
theorem Blk.c11 {w:World} {g t:Nat} {a0 a1 a2 a3 a4 a5 a6 a7 a8 a9 a10:Value} {r:List Value} (h:Blk w g t (List.toArray (a0::a1::a2::a3::a4::a5::a6::a7::a8::a9::a10::r))):w.cell? ⟨g,0,none⟩=some a0∧w.cell? ⟨g,1,none⟩=some a1∧w.cell? ⟨g,2,none⟩=some a2∧w.cell? ⟨g,3,none⟩=some a3∧w.cell? ⟨g,4,none⟩=some a4∧w.cell? ⟨g,5,none⟩=some a5∧w.cell? ⟨g,6,none⟩=some a6∧w.cell? ⟨g,7,none⟩=some a7∧w.cell? ⟨g,8,none⟩=some a8∧w.cell? ⟨g,9,none⟩=some a9∧w.cell? ⟨g,10,none⟩=some a10:=⟨(h.cell 0).trans rfl,(h.cell 1).trans rfl,(h.cell 2).trans rfl,(h.cell 3).trans rfl,(h.cell 4).trans rfl,(h.cell 5).trans rfl,(h.cell 6).trans rfl,(h.cell 7).trans rfl,(h.cell 8).trans rfl,(h.cell 9).trans rfl,(h.cell 10).trans rfl⟩
theorem Blk.c12 {w:World} {g t:Nat} {a0 a1 a2 a3 a4 a5 a6 a7 a8 a9 a10 a11:Value} {r:List Value} (h:Blk w g t (List.toArray (a0::a1::a2::a3::a4::a5::a6::a7::a8::a9::a10::a11::r))):w.cell? ⟨g,0,none⟩=some a0∧w.cell? ⟨g,1,none⟩=some a1∧w.cell? ⟨g,2,none⟩=some a2∧w.cell? ⟨g,3,none⟩=some a3∧w.cell? ⟨g,4,none⟩=some a4∧w.cell? ⟨g,5,none⟩=some a5∧w.cell? ⟨g,6,none⟩=some a6∧w.cell? ⟨g,7,none⟩=some a7∧w.cell? ⟨g,8,none⟩=some a8∧w.cell? ⟨g,9,none⟩=some a9∧w.cell? ⟨g,10,none⟩=some a10∧w.cell? ⟨g,11,none⟩=some a11:=⟨(h.cell 0).trans rfl,(h.cell 1).trans rfl,(h.cell 2).trans rfl,(h.cell 3).trans rfl,(h.cell 4).trans rfl,(h.cell 5).trans rfl,(h.cell 6).trans rfl,(h.cell 7).trans rfl,(h.cell 8).trans rfl,(h.cell 9).trans rfl,(h.cell 10).trans rfl,(h.cell 11).trans rfl⟩
theorem Blk.c13 {w:World} {g t:Nat} {a0 a1 a2 a3 a4 a5 a6 a7 a8 a9 a10 a11 a12:Value} {r:List Value} (h:Blk w g t (List.toArray (a0::a1::a2::a3::a4::a5::a6::a7::a8::a9::a10::a11::a12::r))):w.cell? ⟨g,0,none⟩=some a0∧w.cell? ⟨g,1,none⟩=some a1∧w.cell? ⟨g,2,none⟩=some a2∧w.cell? ⟨g,3,none⟩=some a3∧w.cell? ⟨g,4,none⟩=some a4∧w.cell? ⟨g,5,none⟩=some a5∧w.cell? ⟨g,6,none⟩=some a6∧w.cell? ⟨g,7,none⟩=some a7∧w.cell? ⟨g,8,none⟩=some a8∧w.cell? ⟨g,9,none⟩=some a9∧w.cell? ⟨g,10,none⟩=some a10∧w.cell? ⟨g,11,none⟩=some a11∧w.cell? ⟨g,12,none⟩=some a12:=⟨(h.cell 0).trans rfl,(h.cell 1).trans rfl,(h.cell 2).trans rfl,(h.cell 3).trans rfl,(h.cell 4).trans rfl,(h.cell 5).trans rfl,(h.cell 6).trans rfl,(h.cell 7).trans rfl,(h.cell 8).trans rfl,(h.cell 9).trans rfl,(h.cell 10).trans rfl,(h.cell 11).trans rfl,(h.cell 12).trans rfl⟩
theorem Blk.c14 {w:World} {g t:Nat} {a0 a1 a2 a3 a4 a5 a6 a7 a8 a9 a10 a11 a12 a13:Value} {r:List Value} (h:Blk w g t (List.toArray (a0::a1::a2::a3::a4::a5::a6::a7::a8::a9::a10::a11::a12::a13::r))):w.cell? ⟨g,0,none⟩=some a0∧w.cell? ⟨g,1,none⟩=some a1∧w.cell? ⟨g,2,none⟩=some a2∧w.cell? ⟨g,3,none⟩=some a3∧w.cell? ⟨g,4,none⟩=some a4∧w.cell? ⟨g,5,none⟩=some a5∧w.cell? ⟨g,6,none⟩=some a6∧w.cell? ⟨g,7,none⟩=some a7∧w.cell? ⟨g,8,none⟩=some a8∧w.cell? ⟨g,9,none⟩=some a9∧w.cell? ⟨g,10,none⟩=some a10∧w.cell? ⟨g,11,none⟩=some a11∧w.cell? ⟨g,12,none⟩=some a12∧w.cell? ⟨g,13,none⟩=some a13:=⟨(h.cell 0).trans rfl,(h.cell 1).trans rfl,(h.cell 2).trans rfl,(h.cell 3).trans rfl,(h.cell 4).trans rfl,(h.cell 5).trans rfl,(h.cell 6).trans rfl,(h.cell 7).trans rfl,(h.cell 8).trans rfl,(h.cell 9).trans rfl,(h.cell 10).trans rfl,(h.cell 11).trans rfl,(h.cell 12).trans rfl,(h.cell 13).trans rfl⟩
theorem Blk.c15 {w:World} {g t:Nat} {a0 a1 a2 a3 a4 a5 a6 a7 a8 a9 a10 a11 a12 a13 a14:Value} {r:List Value} (h:Blk w g t (List.toArray (a0::a1::a2::a3::a4::a5::a6::a7::a8::a9::a10::a11::a12::a13::a14::r))):w.cell? ⟨g,0,none⟩=some a0∧w.cell? ⟨g,1,none⟩=some a1∧w.cell? ⟨g,2,none⟩=some a2∧w.cell? ⟨g,3,none⟩=some a3∧w.cell? ⟨g,4,none⟩=some a4∧w.cell? ⟨g,5,none⟩=some a5∧w.cell? ⟨g,6,none⟩=some a6∧w.cell? ⟨g,7,none⟩=some a7∧w.cell? ⟨g,8,none⟩=some a8∧w.cell? ⟨g,9,none⟩=some a9∧w.cell? ⟨g,10,none⟩=some a10∧w.cell? ⟨g,11,none⟩=some a11∧w.cell? ⟨g,12,none⟩=some a12∧w.cell? ⟨g,13,none⟩=some a13∧w.cell? ⟨g,14,none⟩=some a14:=⟨(h.cell 0).trans rfl,(h.cell 1).trans rfl,(h.cell 2).trans rfl,(h.cell 3).trans rfl,(h.cell 4).trans rfl,(h.cell 5).trans rfl,(h.cell 6).trans rfl,(h.cell 7).trans rfl,(h.cell 8).trans rfl,(h.cell 9).trans rfl,(h.cell 10).trans rfl,(h.cell 11).trans rfl,(h.cell 12).trans rfl,(h.cell 13).trans rfl,(h.cell 14).trans rfl⟩
theorem Blk.c16 {w:World} {g t:Nat} {a0 a1 a2 a3 a4 a5 a6 a7 a8 a9 a10 a11 a12 a13 a14 a15:Value} {r:List Value} (h:Blk w g t (List.toArray (a0::a1::a2::a3::a4::a5::a6::a7::a8::a9::a10::a11::a12::a13::a14::a15::r))):w.cell? ⟨g,0,none⟩=some a0∧w.cell? ⟨g,1,none⟩=some a1∧w.cell? ⟨g,2,none⟩=some a2∧w.cell? ⟨g,3,none⟩=some a3∧w.cell? ⟨g,4,none⟩=some a4∧w.cell? ⟨g,5,none⟩=some a5∧w.cell? ⟨g,6,none⟩=some a6∧w.cell? ⟨g,7,none⟩=some a7∧w.cell? ⟨g,8,none⟩=some a8∧w.cell? ⟨g,9,none⟩=some a9∧w.cell? ⟨g,10,none⟩=some a10∧w.cell? ⟨g,11,none⟩=some a11∧w.cell? ⟨g,12,none⟩=some a12∧w.cell? ⟨g,13,none⟩=some a13∧w.cell? ⟨g,14,none⟩=some a14∧w.cell? ⟨g,15,none⟩=some a15:=⟨(h.cell 0).trans rfl,(h.cell 1).trans rfl,(h.cell 2).trans rfl,(h.cell 3).trans rfl,(h.cell 4).trans rfl,(h.cell 5).trans rfl,(h.cell 6).trans rfl,(h.cell 7).trans rfl,(h.cell 8).trans rfl,(h.cell 9).trans rfl,(h.cell 10).trans rfl,(h.cell 11).trans rfl,(h.cell 12).trans rfl,(h.cell 13).trans rfl,(h.cell 14).trans rfl,(h.cell 15).trans rfl⟩
theorem Blk.c17 {w:World} {g t:Nat} {a0 a1 a2 a3 a4 a5 a6 a7 a8 a9 a10 a11 a12 a13 a14 a15 a16:Value} {r:List Value} (h:Blk w g t (List.toArray (a0::a1::a2::a3::a4::a5::a6::a7::a8::a9::a10::a11::a12::a13::a14::a15::a16::r))):w.cell? ⟨g,0,none⟩=some a0∧w.cell? ⟨g,1,none⟩=some a1∧w.cell? ⟨g,2,none⟩=some a2∧w.cell? ⟨g,3,none⟩=some a3∧w.cell? ⟨g,4,none⟩=some a4∧w.cell? ⟨g,5,none⟩=some a5∧w.cell? ⟨g,6,none⟩=some a6∧w.cell? ⟨g,7,none⟩=some a7∧w.cell? ⟨g,8,none⟩=some a8∧w.cell? ⟨g,9,none⟩=some a9∧w.cell? ⟨g,10,none⟩=some a10∧w.cell? ⟨g,11,none⟩=some a11∧w.cell? ⟨g,12,none⟩=some a12∧w.cell? ⟨g,13,none⟩=some a13∧w.cell? ⟨g,14,none⟩=some a14∧w.cell? ⟨g,15,none⟩=some a15∧w.cell? ⟨g,16,none⟩=some a16:=⟨(h.cell 0).trans rfl,(h.cell 1).trans rfl,(h.cell 2).trans rfl,(h.cell 3).trans rfl,(h.cell 4).trans rfl,(h.cell 5).trans rfl,(h.cell 6).trans rfl,(h.cell 7).trans rfl,(h.cell 8).trans rfl,(h.cell 9).trans rfl,(h.cell 10).trans rfl,(h.cell 11).trans rfl,(h.cell 12).trans rfl,(h.cell 13).trans rfl,(h.cell 14).trans rfl,(h.cell 15).trans rfl,(h.cell 16).trans rfl⟩
theorem Blk.c18 {w:World} {g t:Nat} {a0 a1 a2 a3 a4 a5 a6 a7 a8 a9 a10 a11 a12 a13 a14 a15 a16 a17:Value} {r:List Value} (h:Blk w g t (List.toArray (a0::a1::a2::a3::a4::a5::a6::a7::a8::a9::a10::a11::a12::a13::a14::a15::a16::a17::r))):w.cell? ⟨g,0,none⟩=some a0∧w.cell? ⟨g,1,none⟩=some a1∧w.cell? ⟨g,2,none⟩=some a2∧w.cell? ⟨g,3,none⟩=some a3∧w.cell? ⟨g,4,none⟩=some a4∧w.cell? ⟨g,5,none⟩=some a5∧w.cell? ⟨g,6,none⟩=some a6∧w.cell? ⟨g,7,none⟩=some a7∧w.cell? ⟨g,8,none⟩=some a8∧w.cell? ⟨g,9,none⟩=some a9∧w.cell? ⟨g,10,none⟩=some a10∧w.cell? ⟨g,11,none⟩=some a11∧w.cell? ⟨g,12,none⟩=some a12∧w.cell? ⟨g,13,none⟩=some a13∧w.cell? ⟨g,14,none⟩=some a14∧w.cell? ⟨g,15,none⟩=some a15∧w.cell? ⟨g,16,none⟩=some a16∧w.cell? ⟨g,17,none⟩=some a17:=⟨(h.cell 0).trans rfl,(h.cell 1).trans rfl,(h.cell 2).trans rfl,(h.cell 3).trans rfl,(h.cell 4).trans rfl,(h.cell 5).trans rfl,(h.cell 6).trans rfl,(h.cell 7).trans rfl,(h.cell 8).trans rfl,(h.cell 9).trans rfl,(h.cell 10).trans rfl,(h.cell 11).trans rfl,(h.cell 12).trans rfl,(h.cell 13).trans rfl,(h.cell 14).trans rfl,(h.cell 15).trans rfl,(h.cell 16).trans rfl,(h.cell 17).trans rfl⟩
theorem Blk.c19 {w:World} {g t:Nat} {a0 a1 a2 a3 a4 a5 a6 a7 a8 a9 a10 a11 a12 a13 a14 a15 a16 a17 a18:Value} {r:List Value} (h:Blk w g t (List.toArray (a0::a1::a2::a3::a4::a5::a6::a7::a8::a9::a10::a11::a12::a13::a14::a15::a16::a17::a18::r))):w.cell? ⟨g,0,none⟩=some a0∧w.cell? ⟨g,1,none⟩=some a1∧w.cell? ⟨g,2,none⟩=some a2∧w.cell? ⟨g,3,none⟩=some a3∧w.cell? ⟨g,4,none⟩=some a4∧w.cell? ⟨g,5,none⟩=some a5∧w.cell? ⟨g,6,none⟩=some a6∧w.cell? ⟨g,7,none⟩=some a7∧w.cell? ⟨g,8,none⟩=some a8∧w.cell? ⟨g,9,none⟩=some a9∧w.cell? ⟨g,10,none⟩=some a10∧w.cell? ⟨g,11,none⟩=some a11∧w.cell? ⟨g,12,none⟩=some a12∧w.cell? ⟨g,13,none⟩=some a13∧w.cell? ⟨g,14,none⟩=some a14∧w.cell? ⟨g,15,none⟩=some a15∧w.cell? ⟨g,16,none⟩=some a16∧w.cell? ⟨g,17,none⟩=some a17∧w.cell? ⟨g,18,none⟩=some a18:=⟨(h.cell 0).trans rfl,(h.cell 1).trans rfl,(h.cell 2).trans rfl,(h.cell 3).trans rfl,(h.cell 4).trans rfl,(h.cell 5).trans rfl,(h.cell 6).trans rfl,(h.cell 7).trans rfl,(h.cell 8).trans rfl,(h.cell 9).trans rfl,(h.cell 10).trans rfl,(h.cell 11).trans rfl,(h.cell 12).trans rfl,(h.cell 13).trans rfl,(h.cell 14).trans rfl,(h.cell 15).trans rfl,(h.cell 16).trans rfl,(h.cell 17).trans rfl,(h.cell 18).trans rfl⟩
theorem Blk.d0 {w:World} {g t:Nat} {a0:Value} {r:List Value} (h:Blk w g t (List.toArray (a0::r))):w.cell? ⟨g,0,none⟩=some a0:=(h.cell 0).trans rfl
theorem Blk.d1 {w:World} {g t:Nat} {a0 a1:Value} {r:List Value} (h:Blk w g t (List.toArray (a0::a1::r))):w.cell? ⟨g,1,none⟩=some a1:=(h.cell 1).trans rfl
theorem Blk.d2 {w:World} {g t:Nat} {a0 a1 a2:Value} {r:List Value} (h:Blk w g t (List.toArray (a0::a1::a2::r))):w.cell? ⟨g,2,none⟩=some a2:=(h.cell 2).trans rfl
theorem Blk.d3 {w:World} {g t:Nat} {a0 a1 a2 a3:Value} {r:List Value} (h:Blk w g t (List.toArray (a0::a1::a2::a3::r))):w.cell? ⟨g,3,none⟩=some a3:=(h.cell 3).trans rfl
theorem Blk.d4 {w:World} {g t:Nat} {a0 a1 a2 a3 a4:Value} {r:List Value} (h:Blk w g t (List.toArray (a0::a1::a2::a3::a4::r))):w.cell? ⟨g,4,none⟩=some a4:=(h.cell 4).trans rfl
theorem Blk.d5 {w:World} {g t:Nat} {a0 a1 a2 a3 a4 a5:Value} {r:List Value} (h:Blk w g t (List.toArray (a0::a1::a2::a3::a4::a5::r))):w.cell? ⟨g,5,none⟩=some a5:=(h.cell 5).trans rfl
theorem Blk.d6 {w:World} {g t:Nat} {a0 a1 a2 a3 a4 a5 a6:Value} {r:List Value} (h:Blk w g t (List.toArray (a0::a1::a2::a3::a4::a5::a6::r))):w.cell? ⟨g,6,none⟩=some a6:=(h.cell 6).trans rfl
theorem Blk.d7 {w:World} {g t:Nat} {a0 a1 a2 a3 a4 a5 a6 a7:Value} {r:List Value} (h:Blk w g t (List.toArray (a0::a1::a2::a3::a4::a5::a6::a7::r))):w.cell? ⟨g,7,none⟩=some a7:=(h.cell 7).trans rfl
theorem Blk.d8 {w:World} {g t:Nat} {a0 a1 a2 a3 a4 a5 a6 a7 a8:Value} {r:List Value} (h:Blk w g t (List.toArray (a0::a1::a2::a3::a4::a5::a6::a7::a8::r))):w.cell? ⟨g,8,none⟩=some a8:=(h.cell 8).trans rfl
theorem Blk.d9 {w:World} {g t:Nat} {a0 a1 a2 a3 a4 a5 a6 a7 a8 a9:Value} {r:List Value} (h:Blk w g t (List.toArray (a0::a1::a2::a3::a4::a5::a6::a7::a8::a9::r))):w.cell? ⟨g,9,none⟩=some a9:=(h.cell 9).trans rfl
theorem Blk.d10 {w:World} {g t:Nat} {a0 a1 a2 a3 a4 a5 a6 a7 a8 a9 a10:Value} {r:List Value} (h:Blk w g t (List.toArray (a0::a1::a2::a3::a4::a5::a6::a7::a8::a9::a10::r))):w.cell? ⟨g,10,none⟩=some a10:=(h.cell 10).trans rfl
theorem Blk.d11 {w:World} {g t:Nat} {a0 a1 a2 a3 a4 a5 a6 a7 a8 a9 a10 a11:Value} {r:List Value} (h:Blk w g t (List.toArray (a0::a1::a2::a3::a4::a5::a6::a7::a8::a9::a10::a11::r))):w.cell? ⟨g,11,none⟩=some a11:=(h.cell 11).trans rfl
theorem Blk.d12 {w:World} {g t:Nat} {a0 a1 a2 a3 a4 a5 a6 a7 a8 a9 a10 a11 a12:Value} {r:List Value} (h:Blk w g t (List.toArray (a0::a1::a2::a3::a4::a5::a6::a7::a8::a9::a10::a11::a12::r))):w.cell? ⟨g,12,none⟩=some a12:=(h.cell 12).trans rfl
theorem Blk.d13 {w:World} {g t:Nat} {a0 a1 a2 a3 a4 a5 a6 a7 a8 a9 a10 a11 a12 a13:Value} {r:List Value} (h:Blk w g t (List.toArray (a0::a1::a2::a3::a4::a5::a6::a7::a8::a9::a10::a11::a12::a13::r))):w.cell? ⟨g,13,none⟩=some a13:=(h.cell 13).trans rfl
theorem Blk.d14 {w:World} {g t:Nat} {a0 a1 a2 a3 a4 a5 a6 a7 a8 a9 a10 a11 a12 a13 a14:Value} {r:List Value} (h:Blk w g t (List.toArray (a0::a1::a2::a3::a4::a5::a6::a7::a8::a9::a10::a11::a12::a13::a14::r))):w.cell? ⟨g,14,none⟩=some a14:=(h.cell 14).trans rfl
theorem Blk.d15 {w:World} {g t:Nat} {a0 a1 a2 a3 a4 a5 a6 a7 a8 a9 a10 a11 a12 a13 a14 a15:Value} {r:List Value} (h:Blk w g t (List.toArray (a0::a1::a2::a3::a4::a5::a6::a7::a8::a9::a10::a11::a12::a13::a14::a15::r))):w.cell? ⟨g,15,none⟩=some a15:=(h.cell 15).trans rfl
theorem Blk.d16 {w:World} {g t:Nat} {a0 a1 a2 a3 a4 a5 a6 a7 a8 a9 a10 a11 a12 a13 a14 a15 a16:Value} {r:List Value} (h:Blk w g t (List.toArray (a0::a1::a2::a3::a4::a5::a6::a7::a8::a9::a10::a11::a12::a13::a14::a15::a16::r))):w.cell? ⟨g,16,none⟩=some a16:=(h.cell 16).trans rfl
theorem Blk.d17 {w:World} {g t:Nat} {a0 a1 a2 a3 a4 a5 a6 a7 a8 a9 a10 a11 a12 a13 a14 a15 a16 a17:Value} {r:List Value} (h:Blk w g t (List.toArray (a0::a1::a2::a3::a4::a5::a6::a7::a8::a9::a10::a11::a12::a13::a14::a15::a16::a17::r))):w.cell? ⟨g,17,none⟩=some a17:=(h.cell 17).trans rfl
theorem Blk.d18 {w:World} {g t:Nat} {a0 a1 a2 a3 a4 a5 a6 a7 a8 a9 a10 a11 a12 a13 a14 a15 a16 a17 a18:Value} {r:List Value} (h:Blk w g t (List.toArray (a0::a1::a2::a3::a4::a5::a6::a7::a8::a9::a10::a11::a12::a13::a14::a15::a16::a17::a18::r))):w.cell? ⟨g,18,none⟩=some a18:=(h.cell 18).trans rfl
theorem Blk.d19 {w:World} {g t:Nat} {a0 a1 a2 a3 a4 a5 a6 a7 a8 a9 a10 a11 a12 a13 a14 a15 a16 a17 a18 a19:Value} {r:List Value} (h:Blk w g t (List.toArray (a0::a1::a2::a3::a4::a5::a6::a7::a8::a9::a10::a11::a12::a13::a14::a15::a16::a17::a18::a19::r))):w.cell? ⟨g,19,none⟩=some a19:=(h.cell 19).trans rfl
end
section
open Go.RowKit Go.Instr
def ss (k:List UInt8):Value:= .string ⟨k.toArray⟩
theorem bytes_beq_refl (a:ByteArray):(a==a)=true:=by rw [beq_toListBytes]; simp
theorem ss_beq (a b:List UInt8):((⟨a.toArray⟩:ByteArray)==⟨b.toArray⟩)=decide (a=b):=by
 rw [beq_toListBytes,Bool.eq_iff_iff]; simp
theorem ss_run (w:World) (a b:List UInt8):(Op.equalIn 10000 9 (ss a) (ss b)).run Tryz.prog w= .ok (decide (a=b)) w:=by
 simp only [ss];rw [show (10000:Nat)=9999+1 from rfl,run_equalIn_string w 9999 9 _ _ Tryz.underlying9];simp only [ByteArray.toList_mk];rw [show (a==b)=decide (a=b) by rw [Bool.eq_iff_iff]; simp]
theorem ss_type:KeyType Tryz.prog 9 ss where
 check:=fun e w k=>by
  rw [show (10000:Nat)=9999+1 from rfl,checkKey];simp [run_underlying Tryz.underlying9,ss]
 equal:=fun w a b=>by
  exact ss_run w a b
 now:=⟨_,Tryz.underlying9,fun k E l i hE=> .inr (by
  induction E generalizing l i with
  |nil=>cases l with
   |nil=>rfl
   |cons x l=>simp at hE
  |cons e E ih=>cases l with
   |nil=>simp at hE
   |cons x l=>
    simp only [List.map_cons,List.cons.injEq,Prod.mk.injEq] at hE;obtain ⟨⟨h1,h2⟩,h3⟩:=hE;simp only [findNow,h1,ss,sameNow,ss_beq,assoc];by_cases hk:k=x.1
    ·simp [hk,h2]
    ·simp only [hk,decide_false];exact ih l (i+1) h3)⟩
 stays:=fun k=>by simp [ss,sameBits,bytes_beq_refl]
section
variable {P:Program} {kt:TypeId} {κ:Type} [DecidableEq κ] {kv:κ→Value}
def adel (k:κ):List (κ × Value)→List (κ × Value)
 | []=> []
 |x::l=>if k=x.1 then l else x::adel k l
theorem adel_some {k:κ}:∀ {l:List (κ × Value)} {i j:Nat} {v:Value},assoc k l i=some (j,v)→∃ n,j=i+n∧n<l.length∧adel k l=l.eraseIdx n
 | [],_,_,_,h=>by simp [assoc] at h
 |x::l,i,j,v,h=>by
  simp only [assoc] at h;by_cases hk:k=x.1
  ·rw [if_pos hk] at h;injection h with h
   injection h with h1 h2
   exact ⟨0,by omega,by simp,by simp [adel,hk]⟩
  ·rw [if_neg hk] at h;obtain ⟨n,h1,h2,h3⟩:=adel_some h;exact ⟨n+1,by omega,by simpa using h2,by simp [adel,hk,h3]⟩
theorem adel_none {k:κ}:∀ {l:List (κ × Value)} {i:Nat},assoc k l i=none→adel k l=l
 | [],_,_=>rfl
 |x::l,i,h=>by
  simp only [assoc] at h;by_cases hk:k=x.1
  ·rw [if_pos hk] at h; simp at h
  ·rw [if_neg hk] at h;simp [adel,hk,adel_none h]
theorem map_erase {α β:Type} (f:α→β):∀ (l:List α) (n:Nat),(l.eraseIdx n).map f=(l.map f).eraseIdx n
 | [],_=>by simp
 |x::l,0=>by simp
 |x::l,n+1=>by simp [map_erase f l n]
theorem MapIs.drop {w:World} {b:Nat} {l:List (κ × Value)} (hm:MapIs w kv b l) (h:KeyType P kt kv) (t el:TypeId) (ht:P.underlying t=some (.map kt el)) (k:κ) (k2 ty:TypeId):
  ∃ w',(Builtin.delete_ #[t,k2] ty #[.map (some b),kv k]).run P w= .ok (.tuple #[]) w'∧MapIs w' kv b (adel k l)∧w.grownBy w' (some b)∧w'.heap.size=w.heap.size:=by
 obtain ⟨E,clock,hb,hE,hS⟩:=hm;have hf:=run_findKey_is h w k E.toList l hE;have hg:(getObj b:Sem Obj).run P w= .ok (.map E clock) w:=by simp [getObj,Sem.run,hb]
 have hlt:b<w.heap.size:=by
  rcases Nat.lt_or_ge b w.heap.size with g|g
  ·exact g
  ·rw [Array.getElem?_eq_none g] at hb; cases hb
 have hset:∀ (E':Array MapEntry) (c':Nat),(setObj b (.map E' c'):Sem Unit).run P w= .ok () {w with heap:=w.heap.setIfInBounds b (.map E' c')}:=by
  intro E' c'; simp [setObj,Sem.run,hb]
 have fin:∀ (E':Array MapEntry) (c':Nat),E'.toList.map (fun e=>(e.key,e.val))=(adel k l).map (fun x=>(kv x.1,x.2))→Go.MapKept.Stamped E' c'→
   MapIs {w with heap:=w.heap.setIfInBounds b (.map E' c')} kv b (adel k l)∧w.grownBy {w with heap:=w.heap.setIfInBounds b (.map E' c')} (some b)∧({w with heap:=w.heap.setIfInBounds b (.map E' c')}:World).heap.size=w.heap.size:=by
  intro E' c' hE' hS';refine ⟨⟨E',c',by simp [hlt],hE',hS'⟩,⟨rfl,rfl,rfl,by simp,fun j hj hne=> ?_⟩,by simp⟩
  show (w.heap.setIfInBounds b _)[j]?=_;rw [Array.getElem?_setIfInBounds_ne (fun e=>hne (by rw [e]))]
 unfold Builtin.delete_;simp only [Sem.run_bind,run_underlying ht,Result.andThen_ok,hg,h.check,hf,List.getElem?_toArray,List.getElem?_cons_zero,List.getElem?_cons_succ];cases ha:assoc k l 0 with
 |none=>
  have:=fin E clock (by rw [adel_none ha]; exact hE) hS
  refine ⟨_,?_,this⟩;simp [hset]
 |some r=>
  obtain ⟨j,u⟩:=r;obtain ⟨n,hj,hn,hp⟩:=adel_some ha;have hjn:j=n:=by omega
  subst hjn;have hl:E.toList.length=l.length:=by have:=congrArg List.length hE; simpa using this
  have:=fin (E.eraseIdxIfInBounds j) clock (by
   rw [hp,Array.toList_eraseIdxIfInBounds,map_erase,hE,map_erase]) (Go.MapKept.stamped_erase hS j)
  refine ⟨_,?_,this⟩;simp [hset]
theorem wpList_delete_is {ops:Array Oper} {rest:List Oper} {o:Oper} {a:Act} {Q:Exit→Act→World→Prop} (w:World) (hg:o.guard=none) (m x:Operand) (t k2:TypeId) (hop:o.op=Op.call {callee:=Callee.builtin Builtin.delete,args:=#[m,x],argTypes:=#[t,k2]})
  (h:KeyType P kt kv) (el:TypeId) (ht:P.underlying t=some (.map kt el)) (b:Nat) (l:List (κ × Value)) (hmap:MapIs w kv b l) (k:κ)
  (hm:a.eval m= .map (some b)) (hx:a.eval x=kv k)
  (hK:∀ w',MapIs w' kv b (adel k l)→w.grownBy w' (some b)→w'.heap.size=w.heap.size→wpList P ops Q rest (a.put o.dst (.tuple #[])) w'):wpList P ops Q (o::rest) a w:=by
 refine wpList_plain hg fun K' hK'=> ?_;obtain ⟨w',hrun,r1,r2,r3⟩:=hmap.drop h t el ht k k2 o.type;unfold Oper.wp;simp [execOp,hop,resolve,invoke,builtin,hm,hx,hrun,Result.andThen]
 exact hK' _ _ (hK w' r1 r2 r3)
end
theorem MapIs.len_run {P:Program} {κ:Type} {kv:κ→Value} {w:World} {b:Nat} {l:List (κ × Value)} (hm:MapIs w kv b l) {t k el:TypeId} (ht:P.underlying t=some (.map k el)) (ty:TypeId):(Builtin.len_ #[t] ty #[.map (some b)]).run P w= .ok (.int .i64 (l.length:Int)) w:=by
 obtain ⟨E,clock,hb,hE,_⟩:=hm;have hg:(getObj b:Sem Obj).run P w= .ok (.map E clock) w:=by simp [getObj,Sem.run,hb]
 have hl:E.size=l.length:=by have:=congrArg List.length hE; simpa using this
 unfold Builtin.len_;simp [Sem.run_bind,run_underlying ht,hg,hl,goInt]
def lookB (D:List (List UInt8 × List UInt8)) (k:List UInt8):Option (List UInt8):=match D with
 | []=>none
 |x::l=>if k=x.1 then some x.2 else lookB l k
def putB (D:List (List UInt8 × List UInt8)) (k v:List UInt8):List (List UInt8 × List UInt8):=match D with
 | []=> [(k,v)]
 |x::l=>if k=x.1 then (k,v)::l else x::putB l k v
def delB (D:List (List UInt8 × List UInt8)) (k:List UInt8):List (List UInt8 × List UInt8):=match D with
 | []=> []
 |x::l=>if k=x.1 then l else x::delB l k
def U8 (w:World) (A:Option Addr):Prop:=∀ a,A=some a→∃ cs z,w.heap[a.block]?=some (.cells cs 5 z)
structure BR (w:World) (A:Option Addr) (n:Nat) (l:List UInt8):Prop where
 r:Reads w w.heap.size 1 A n (bvals l)
 u:U8 w A
theorem heap_lt {w:World} {k:Nat} {o:Obj} (h:w.heap[k]?=some o):k<w.heap.size:=by
 rcases Nat.lt_or_ge k w.heap.size with g|g
 ·exact g
 ·rw [Array.getElem?_eq_none g] at h; cases h
theorem BR.below {w w':World} {A:Option Addr} {n:Nat} {l:List UInt8} (h:BR w A n l) (hb:Below w.heap.size w w'):BR w' A n l:=
 ⟨(h.r.below hb).more hb.size,fun a ha=>by
  obtain ⟨cs,z,e⟩:=h.u a ha;exact ⟨cs,z,(hb.block _ (heap_lt e)).trans e⟩⟩
theorem BR.offT {w w':World} {A:Option Addr} {n k:Nat} {l:List UInt8} (h:BR w A n l) (hk:∀ cs z,w.heap[k]?≠some (.cells cs 5 z)) (hg:w.grownBy w' (some k)):BR w' A n l:=by
 have key:∀ a,A=some a→a.block≠k∧a.block<w.heap.size:=fun a ha=>by
  obtain ⟨cs,z,e⟩:=h.u a ha;exact ⟨fun e2=>hk cs z (by rw [←e2]; exact e),heap_lt e⟩
 have hbk:∀ a,A=some a→w'.heap[a.block]?=w.heap[a.block]?:=fun a ha=>hg.block _ (key a ha).2 (fun e=>(key a ha).1 (Option.some.inj e));refine ⟨⟨h.r.1,fun hn=> ?_⟩,fun a ha=> ?_⟩
 ·obtain ⟨ad,e,hbl,hc⟩:=h.r.2 hn;refine ⟨ad,e,Nat.lt_of_lt_of_le hbl hg.size,fun j u hu=> ?_⟩;rw [←hc j u hu];exact World.cell?_of_block (by rw [block_of_add]; exact hbk ad e)
 ·obtain ⟨cs,z,e⟩:=h.u a ha;exact ⟨cs,z,(hbk a ha).trans e⟩
theorem BR.off_map {w w':World} {κ:Type} {kv:κ→Value} {b:Nat} {l0:List (κ × Value)} (hm:MapIs w kv b l0) {A:Option Addr} {n:Nat} {l:List UInt8} (h:BR w A n l) (hg:w.grownBy w' (some b)):BR w' A n l:=
 h.offT (fun cs z e=>by obtain ⟨E,cl,h1,_⟩:=hm; rw [h1] at e; cases e) hg
def Ents (w:World):List (List UInt8 × List UInt8)→List (List UInt8 × Value)→Prop
 | [],[]=>True
 |x::D,y::vs=>y.1=x.1∧(∃ A c,y.2= .slice A x.2.length c∧BR w A x.2.length x.2)∧Ents w D vs
 |_,_=>False
theorem Ents.keep {w w':World}:∀ {D:List (List UInt8 × List UInt8)} {vs:List (List UInt8 × Value)},(∀ A n l,BR w A n l→BR w' A n l)→Ents w D vs→Ents w' D vs
 | [],[],_,_=>trivial
 | [],_::_,_,h=>h.elim
 |_::_,[],_,h=>h.elim
 |x::D,y::vs,hk,h=>by
  obtain ⟨h1,⟨A,c,h2,h3⟩,h4⟩:=h;exact ⟨h1,⟨A,c,h2,hk _ _ _ h3⟩,Ents.keep hk h4⟩
theorem Ents.look {w:World} (k:List UInt8):∀ {D:List (List UInt8 × List UInt8)} {vs:List (List UInt8 × Value)} (i:Nat),Ents w D vs→
  (lookB D k=none∧assoc k vs i=none)∨∃ v j A c,lookB D k=some v∧assoc k vs i=some (j,.slice A v.length c)∧BR w A v.length v
 | [],[],_,_=> .inl ⟨rfl,rfl⟩
 | [],_::_,_,h=>h.elim
 |_::_,[],_,h=>h.elim
 |x::D,y::vs,i,h=>by
  obtain ⟨h1,⟨A,c,h2,h3⟩,h4⟩:=h;simp only [lookB,assoc,h1];by_cases hk:k=x.1
  ·rw [if_pos hk,if_pos hk,h2];exact .inr ⟨x.2,i,A,c,rfl,rfl,h3⟩
  ·rw [if_neg hk,if_neg hk];exact Ents.look k (i+1) h4
theorem Ents.put {w:World} (k v:List UInt8) (A:Option Addr) (c:Nat) (hv:BR w A v.length v):∀ {D:List (List UInt8 × List UInt8)} {vs:List (List UInt8 × Value)},Ents w D vs→Ents w (putB D k v) (aput k (.slice A v.length c) vs)
 | [],[],_=>⟨rfl,⟨A,c,rfl,hv⟩,trivial⟩
 | [],_::_,h=>h.elim
 |_::_,[],h=>h.elim
 |x::D,y::vs,h=>by
  obtain ⟨h1,h2,h4⟩:=h;simp only [putB,aput,h1];by_cases hk:k=x.1
  ·rw [if_pos hk,if_pos hk];exact ⟨rfl,⟨A,c,rfl,hv⟩,h4⟩
  ·rw [if_neg hk,if_neg hk];exact ⟨h1,h2,Ents.put k v A c hv h4⟩
theorem Ents.del {w:World} (k:List UInt8):∀ {D:List (List UInt8 × List UInt8)} {vs:List (List UInt8 × Value)},Ents w D vs→Ents w (delB D k) (adel k vs)
 | [],[],_=>trivial
 | [],_::_,h=>h.elim
 |_::_,[],h=>h.elim
 |x::D,y::vs,h=>by
  obtain ⟨h1,h2,h4⟩:=h;simp only [delB,adel,h1];by_cases hk:k=x.1
  ·rw [if_pos hk,if_pos hk];exact h4
  ·rw [if_neg hk,if_neg hk];exact ⟨h1,h2,Ents.del k h4⟩
theorem Ents.length {w:World}:∀ {D:List (List UInt8 × List UInt8)} {vs:List (List UInt8 × Value)},Ents w D vs→vs.length=D.length
 | [],[],_=>rfl
 | [],_::_,h=>h.elim
 |_::_,[],h=>h.elim
 |x::D,y::vs,h=>by simp [Ents.length h.2.2]
structure BMap (w:World) (b:Nat) (D:List (List UInt8 × List UInt8)):Prop where
 ex:∃ vs,MapIs w ss b vs∧Ents w D vs
section
variable {w w':World} {b:Nat} {D:List (List UInt8 × List UInt8)}
theorem MapIs.no_cell {κ:Type} {kv:κ→Value} {l:List (κ × Value)} (hm:MapIs w kv b l) (p:Addr) (hp:p.block=b):w.cell? p=none:=by
 obtain ⟨E,clock,hb,_⟩:=hm;subst hp;unfold World.cell?;simp [hb]
theorem Reads.off_map {κ:Type} {kv:κ→Value} {l:List (κ × Value)} (hm:MapIs w kv b l) {B size n:Nat} {A:Option Addr} {xs:List Value} (hr:Reads w B size A n xs) (hB:B≤w.heap.size) (hg:w.grownBy w' (some b)):Reads w' B size A n xs:=
 ⟨hr.1,fun hn=>by
  obtain ⟨ad,e,hbl,hc⟩:=hr.2 hn;refine ⟨ad,e,hbl,fun j u hu=> ?_⟩;have h1:=hc j u hu;have hne:(ad.add j).block≠b:=fun e2=>by rw [hm.no_cell _ e2] at h1; cases h1
  rw [World.cell?_of_block (hg.block (ad.add j).block (by rw [block_of_add]; omega) (by intro e; injection e with e; exact hne e))];exact h1⟩
theorem Ents.off_map {vs0:List (List UInt8 × Value)} (hm:MapIs w ss b vs0) {D':List (List UInt8 × List UInt8)} {vs:List (List UInt8 × Value)} (h:Ents w D' vs) (hg:w.grownBy w' (some b)) (hs:w'.heap.size=w.heap.size):Ents w' D' vs:=
 h.keep fun A n l hr=>hr.off_map hm hg
theorem BMap.delete (h:BMap w b D) (k:List UInt8):∃ vs,MapIs w ss b vs∧∀ w',MapIs w' ss b (adel k vs)→w.grownBy w' (some b)→w'.heap.size=w.heap.size→BMap w' b (delB D k):=by
 obtain ⟨vs,h1,h2⟩:=h.ex;exact ⟨vs,h1,fun w' a1 a2 a3=>⟨_,a1,(h2.del k).off_map h1 a2 a3⟩⟩
theorem BMap.store (h:BMap w b D) (k v:List UInt8) (A:Option Addr) (c:Nat) (hv:BR w A v.length v):∃ vs,MapIs w ss b vs∧∀ w',MapIs w' ss b (aput k (.slice A v.length c) vs)→w.grownBy w' (some b)→w'.heap.size=w.heap.size→BMap w' b (putB D k v):=by
 obtain ⟨vs,h1,h2⟩:=h.ex;exact ⟨vs,h1,fun w' a1 a2 a3=>⟨_,a1,(h2.put k v A c hv).off_map h1 a2 a3⟩⟩
theorem BMap.made (w:World) (c:Nat):BMap (w.alloc (.map #[] c)) w.heap.size []:=⟨[],MapIs.made w c,trivial⟩
theorem BMap.lt (h:BMap w b D):b<w.heap.size:=by obtain ⟨vs,h1,_⟩:=h.ex; exact h1.lt
theorem BMap.next (h:BMap w b D) (hb:Below w.heap.size w w'):BMap w' b D:=by
 obtain ⟨vs,h1,h2⟩:=h.ex;exact ⟨vs,h1.kept (hb.block b h1.lt),h2.keep fun A n l hr=>hr.below hb⟩
theorem BMap.get (h:BMap w b D) {t:TypeId} (ht:Tryz.prog.underlying t=some (.map 9 118)) (k:List UInt8):
  ∃ A n c,(∀ W,Below w.heap.size w W→(lookup t (.map (some b)) (ss k) false).run Tryz.prog W= .ok (.slice A n c) W)∧
   (∀ W,Below w.heap.size w W→(convert 118 9 (.slice A n c)).run Tryz.prog W= .ok (.string ⟨((lookB D k).getD []).toArray⟩) W)∧
   (∀ W,Below w.heap.size w W→(lookup t (.map (some b)) (ss k) true).run Tryz.prog W= .ok (.tuple #[.slice A n c,.bool (lookB D k).isSome]) W):=by
 have hz:∀ W,(zeroValue 118).run Tryz.prog W= .ok (.slice none 0 0) W:=fun W=>by kernel_rfl
 obtain ⟨vs,h1,h2⟩:=h.ex;rcases h2.look k 0 with ⟨e1,e2⟩|⟨v,j,A,c,e1,e2,e3⟩
 ·refine ⟨none,0,0,fun W hW=> ?_,fun W hW=> ?_,fun W hW=> ?_⟩
  ·rw [(h1.kept (hW.block b h1.lt)).look ss_type t _ ht _ (hz W) k false,e2]; rfl
  ·rw [e1];exact conv_reads W W.heap.size none 0 0 [] Reads.none_
  ·rw [(h1.kept (hW.block b h1.lt)).look ss_type t _ ht _ (hz W) k true,e2,e1]; rfl
 ·refine ⟨A,v.length,c,fun W hW=> ?_,fun W hW=> ?_,fun W hW=> ?_⟩
  ·rw [(h1.kept (hW.block b h1.lt)).look ss_type t _ ht _ (hz W) k false,e2]; rfl
  ·rw [e1];exact conv_reads W W.heap.size A _ c v ((e3.below hW).r)
  ·rw [(h1.kept (hW.block b h1.lt)).look ss_type t _ ht _ (hz W) k true,e2,e1]; rfl
theorem BMap.len (h:BMap w b D) {t k el:TypeId} (ht:Tryz.prog.underlying t=some (.map k el)) (ty:TypeId):(Builtin.len_ #[t] ty #[.map (some b)]).run Tryz.prog w= .ok (.int .i64 (D.length:Int)) w:=by
 obtain ⟨vs,h1,h2⟩:=h.ex;rw [h1.len_run ht,h2.length]
end
end
section
open Go.RowKit
def loopsOf:Code→List Code
 | .loop c=>c::loopsOf c
 | .seq a b=>loopsOf a++loopsOf b
 | .block _ c=>loopsOf c
 | .scope c=>loopsOf c
 | .cond _ a b=>loopsOf a++loopsOf b
 |_=> []
noncomputable def loopAt (f:Func) (n:Nat):Code:=(((f.body.map loopsOf).getD [])[n]?).getD .skip
end
section
open Go.RowKit Go.Instr
def wv (x:UInt32):Value:= .int .u32 (x.toNat:Int)
def wvs (l:List UInt32):List Value:=l.map wv
theorem wvs_length (l:List UInt32):(wvs l).length=l.length:=by simp [wvs]
theorem wvs_one (l:List UInt32):∀ u∈wvs l,u.oneCell'=true:=by
 intro u hu;simp [wvs] at hu
 obtain ⟨n,_,rfl⟩:=hu;rfl
theorem u32_lt (x:UInt32):x.toNat<4294967296:=x.toNat_lt
def orW (a b:UInt32):UInt32:=a|||b
def xorW (a b:UInt32):UInt32:=a ^^^ b
def andW (a b:UInt32):UInt32:=a &&& b
def addW (a b:UInt32):UInt32:=a+b
def notW (a:UInt32):UInt32:= ~~~ a
def shrW (a:UInt32) (n:Nat):UInt32:=a>>>n.toUInt32
def shlW (a:UInt32) (n:Nat):UInt32:=a<<<n.toUInt32
def ofB (b:UInt8):UInt32:=b.toUInt32
def toB (a:UInt32):UInt8:=a.toUInt8
def rotW (x:UInt32) (n:Nat):UInt32:=orW (shrW x n) (shlW x (32 - n))
theorem w_or (a b:UInt32):bits .or .u32 (a.toNat:Int) (b.toNat:Int)=((orW a b).toNat:Int):=by
 rw [u32_or_nat _ _ (u32_lt a) (u32_lt b),orW,UInt32.toNat_or]
theorem w_xor (a b:UInt32):bits .xor .u32 (a.toNat:Int) (b.toNat:Int)=((xorW a b).toNat:Int):=by
 rw [u32_xor_nat _ _ (u32_lt a) (u32_lt b),xorW,UInt32.toNat_xor]
theorem w_and (a b:UInt32):bits .and .u32 (a.toNat:Int) (b.toNat:Int)=((andW a b).toNat:Int):=by
 rw [u32_and_nat _ _ (u32_lt a) (u32_lt b),andW,UInt32.toNat_and]
theorem w_add (a b:UInt32):IntKind.u32.wrap ((a.toNat:Int)+(b.toNat:Int))=((addW a b).toNat:Int):=by
 rw [IntKind.wrap_u32',addW,UInt32.toNat_add];omega
theorem w_shr (x:UInt32) (n:Nat) (h:n<32):(x.toNat:Int) / 2 ^ n=((shrW x n).toNat:Int):=by
 rw [shrW,UInt32.toNat_shiftRight]
 have:n.toUInt32.toNat % 32=n:=by
  simp
  omega
 rw [this,Nat.shiftRight_eq_div_pow];simp
theorem w_shl (x:UInt32) (n:Nat) (h:n<32):((x.toNat:Int)*2 ^ n) % 4294967296=((shlW x n).toNat:Int):=by
 rw [shlW,UInt32.toNat_shiftLeft]
 have:n.toUInt32.toNat % 32=n:=by
  simp
  omega
 rw [this,Nat.shiftLeft_eq];simp
theorem w_rot (x:UInt32) (n:Nat) (h0:0<n) (h1:n<32):bits .or .u32 ((x.toNat:Int) / 2 ^ n) ((x.toNat:Int)*2 ^ (32 - n) % 4294967296)=((rotW x n).toNat:Int):=by
 rw [w_shr x n h1,w_shl x (32 - n) (by omega),w_or];rfl
theorem ofB_toNat (x:UInt8):(ofB x).toNat=x.toNat:=by simp [ofB]
theorem w_u8 (x:UInt8):IntKind.u32.wrap (x.toNat:Int)=((ofB x).toNat:Int):=by
 rw [IntKind.wrap_u32',ofB_toNat]
 have:=x.toNat_lt
 omega
theorem w_shl24 (x:UInt32):IntKind.u32.wrap ((x.toNat:Int)*16777216)=((shlW x 24).toNat:Int):=by
 rw [IntKind.wrap_u32']; exact w_shl x 24 (by omega)
theorem w_shl16 (x:UInt32):IntKind.u32.wrap ((x.toNat:Int)*65536)=((shlW x 16).toNat:Int):=by
 rw [IntKind.wrap_u32']; exact w_shl x 16 (by omega)
theorem w_shl8 (x:UInt32):IntKind.u32.wrap ((x.toNat:Int)*256)=((shlW x 8).toNat:Int):=by
 rw [IntKind.wrap_u32']; exact w_shl x 8 (by omega)
theorem w_shr3 (x:UInt32):(x.toNat:Int) / 8=((shrW x 3).toNat:Int):=w_shr x 3 (by omega)
theorem w_shr10 (x:UInt32):(x.toNat:Int) / 1024=((shrW x 10).toNat:Int):=w_shr x 10 (by omega)
theorem w_shr8 (x:UInt32):(x.toNat:Int) / 256=((shrW x 8).toNat:Int):=w_shr x 8 (by omega)
theorem w_shr16 (x:UInt32):(x.toNat:Int) / 65536=((shrW x 16).toNat:Int):=w_shr x 16 (by omega)
theorem w_shr24 (x:UInt32):(x.toNat:Int) / 16777216=((shrW x 24).toNat:Int):=w_shr x 24 (by omega)
theorem w_toB (x:UInt32):IntKind.u8.wrap (x.toNat:Int)=((toB x).toNat:Int):=by
 simp [IntKind.wrap,IntKind.bits,IntKind.signed,toB]
theorem sha_rot (x:UInt32) (n:Nat) (h0:0<n) (h1:n<32) (w:World):
  Calls Tryz.prog 218 #[.int .u32 (x.toNat:Int),.int .u64 (n:Int)] w fun e w'=>e= .returned (.int .u32 ((rotW x n).toNat:Int))∧w'=w:=by
 have h:=w_rot x n h0 h1;go_enter Tryz.func218,Tryz.ntmps218
 go_wp2
 go_ret
 exact ⟨rfl,rfl⟩
theorem sha_rot2 (x:UInt32) (w:World):Calls Tryz.prog 218 #[.int .u32 (x.toNat:Int),.int .u64 2] w fun e w'=>e= .returned (.int .u32 ((rotW x 2).toNat:Int))∧w'=w:=sha_rot x 2 (by omega) (by omega) w
theorem sha_rot6 (x:UInt32) (w:World):Calls Tryz.prog 218 #[.int .u32 (x.toNat:Int),.int .u64 6] w fun e w'=>e= .returned (.int .u32 ((rotW x 6).toNat:Int))∧w'=w:=sha_rot x 6 (by omega) (by omega) w
theorem sha_rot7 (x:UInt32) (w:World):Calls Tryz.prog 218 #[.int .u32 (x.toNat:Int),.int .u64 7] w fun e w'=>e= .returned (.int .u32 ((rotW x 7).toNat:Int))∧w'=w:=sha_rot x 7 (by omega) (by omega) w
theorem sha_rot11 (x:UInt32) (w:World):Calls Tryz.prog 218 #[.int .u32 (x.toNat:Int),.int .u64 11] w fun e w'=>e= .returned (.int .u32 ((rotW x 11).toNat:Int))∧w'=w:=sha_rot x 11 (by omega) (by omega) w
theorem sha_rot13 (x:UInt32) (w:World):Calls Tryz.prog 218 #[.int .u32 (x.toNat:Int),.int .u64 13] w fun e w'=>e= .returned (.int .u32 ((rotW x 13).toNat:Int))∧w'=w:=sha_rot x 13 (by omega) (by omega) w
theorem sha_rot17 (x:UInt32) (w:World):Calls Tryz.prog 218 #[.int .u32 (x.toNat:Int),.int .u64 17] w fun e w'=>e= .returned (.int .u32 ((rotW x 17).toNat:Int))∧w'=w:=sha_rot x 17 (by omega) (by omega) w
theorem sha_rot18 (x:UInt32) (w:World):Calls Tryz.prog 218 #[.int .u32 (x.toNat:Int),.int .u64 18] w fun e w'=>e= .returned (.int .u32 ((rotW x 18).toNat:Int))∧w'=w:=sha_rot x 18 (by omega) (by omega) w
theorem sha_rot19 (x:UInt32) (w:World):Calls Tryz.prog 218 #[.int .u32 (x.toNat:Int),.int .u64 19] w fun e w'=>e= .returned (.int .u32 ((rotW x 19).toNat:Int))∧w'=w:=sha_rot x 19 (by omega) (by omega) w
theorem sha_rot22 (x:UInt32) (w:World):Calls Tryz.prog 218 #[.int .u32 (x.toNat:Int),.int .u64 22] w fun e w'=>e= .returned (.int .u32 ((rotW x 22).toNat:Int))∧w'=w:=sha_rot x 22 (by omega) (by omega) w
theorem sha_rot25 (x:UInt32) (w:World):Calls Tryz.prog 218 #[.int .u32 (x.toNat:Int),.int .u64 25] w fun e w'=>e= .returned (.int .u32 ((rotW x 25).toNat:Int))∧w'=w:=sha_rot x 25 (by omega) (by omega) w
end
section
open Go.RowKit Go.Instr
attribute [local go_sem] w_or w_u8 w_shl24 w_shl16 w_shl8 w_xor w_add w_shr3 w_shr10
def wdAt (b:List UInt8) (i:Nat):UInt32:=orW (orW (orW (shlW (ofB (b.getD (4*i) 0)) 24) (shlW (ofB (b.getD (4*i+1) 0)) 16)) (shlW (ofB (b.getD (4*i+2) 0)) 8)) (ofB (b.getD (4*i+3) 0))
def ldW (b:List UInt8):Nat→List UInt32
 |0=>List.replicate 64 0
 |i+1=>(ldW b i).set i (wdAt b i)
def sgA (x:UInt32):UInt32:=xorW (xorW (rotW x 7) (rotW x 18)) (shrW x 3)
def sgB (y:UInt32):UInt32:=xorW (xorW (rotW y 17) (rotW y 19)) (shrW y 10)
def exW (l:List UInt32):Nat→List UInt32
 |0=>l
 |k+1=>let m:=exW l k; m.set (16+k) (addW (addW (addW (m.getD k 0) (sgA (m.getD (k+1) 0))) (m.getD (k+9) 0)) (sgB (m.getD (k+14) 0)))
def spreadW (b:List UInt8):List UInt32:=exW (ldW b 16) 48
theorem ldW_length (b:List UInt8):∀ i,(ldW b i).length=64
 |0=>rfl
 |i+1=>by rw [ldW,List.length_set,ldW_length b i]
theorem exW_length (l:List UInt32) (h:l.length=64):∀ k,(exW l k).length=64
 |0=>h
 |k+1=>by
  have:=exW_length l h k
  simp only [exW,List.length_set,this]
theorem wvs_set (l:List UInt32) (i:Nat) (x:UInt32):(wvs l).toArray.setIfInBounds i (.int .u32 (x.toNat:Int))=(wvs (l.set i x)).toArray:=by
 simp [wvs,wv,List.map_set]
theorem wvs_at {l:List UInt32} {i:Nat} (h:i<l.length):(wvs l).toArray[i]?=some (.int .u32 ((l.getD i 0).toNat:Int)):=by
 simp [wvs,wv,h]
theorem bvals_at {l:List UInt8} {i:Nat} (h:i<l.length):(bvals l).toArray[i]?=some (.int .u8 ((l.getD i 0).toNat:Int)):=by
 simp [bvals,h]
theorem grown_set {w w':World} {g:Nat} (h:w.grownBy w' (some g)) (i:Nat) (v:Value):w.grownBy (w'.setCell ⟨g,i,none⟩ v).drew (some g):=
 ⟨h.os,h.tape,h.output,by rw [World.size_drew,World.size_setCell]; exact h.size,fun k hk hne=>(Below.heap_setCell w' ⟨g,i,none⟩ v k (fun e=>hne (by rw [e]))).trans (h.block k hk hne)⟩
theorem spread_one (b:List UInt8) (hb:b.length=64) (w0:World) (gb gw:Nat) (hB:Blk w0 gb 226 (bvals b).toArray) (hW:Blk w0 gw 285 (wvs (ldW b 0)).toArray)
  (Q:Exit→Act→World→Prop)
  (p2:Value)
  (hQ:∀ ⦃s0 s4 s5 s6 s7 s8 s9 s1 s2 s3 a0 a2 a3 a4 a5 a6 a7 a8 a9 b0 b1 b2 b3 b4 b5 b6 b7 b8 b9 c1 c2 c3 c4 c5 c6 c7 c8 c9 d0 d1 d2 d3 d4 d5 d6 d7 d8 d9 e0 e1 e2 e3 e4 e5 e6 e7 e8 e9 f1 f2 f3 f4 f5 f6 f7 f8 f9 g0 g1 g2 g3 g4 g5 g6 g7 g8 g9 h0 h2 h3 h4 h5:Value⦄ (w2:World),Blk w2 gw 285 (wvs (ldW b 16)).toArray→w0.grownBy w2 (some gw)→w2.heap.size=w0.heap.size→Q (.exit 0) {tmps:=#[s0,.pointer (some ⟨gb,0,none⟩),p2,.pointer (some ⟨gw,0,none⟩),s4,s5,s6,s7,s8,s9,s1,s2,s3,a0,a2,a3,a4,a5,a6,a7,a8,a9,b0,b1,b2,b3,b4,b5,b6,b7,b8,b9,c1,c2,c3,c4,c5,c6,c7,c8,c9,d0,d1,d2,d3,d4,d5,d6,d7,d8,d9,e0,e1,e2,e3,e4,e5,e6,e7,e8,e9,f1,f2,f3,f4,f5,f6,f7,f8,f9,g0,g1,g2,g3,g4,g5,g6,g7,g8,g9,h0,h2,h3,h4,h5],defers:= []} w2)
  (s0 s4 s5 s6 s7 s9 s1 s2 s3 a0 a2 a3 a4 a5 a6 a7 a8 a9 b0 b1 b2 b3 b4 b5 b6 b7 b8 b9 c1 c2 c3 c4 c5 c6 c7 c8 c9 d0 d1 d2 d3 d4 d5 d6 d7 d8 d9 e0 e1 e2 e3 e4 e5 e6 e7 e8 e9 f1 f2 f3 f4 f5 f6 f7 f8 f9 g0 g1 g2 g3 g4 g5 g6 g7 g8 g9 h0 h2 h3 h4 h5:Value):
  Code.wp Tryz.prog (.loop (loopAt Tryz.f217 0)) Q {tmps:=#[s0,.pointer (some ⟨gb,0,none⟩),p2,.pointer (some ⟨gw,0,none⟩),s4,s5,s6,s7,.int .i64 0,s9,s1,s2,s3,a0,a2,a3,a4,a5,a6,a7,a8,a9,b0,b1,b2,b3,b4,b5,b6,b7,b8,b9,c1,c2,c3,c4,c5,c6,c7,c8,c9,d0,d1,d2,d3,d4,d5,d6,d7,d8,d9,e0,e1,e2,e3,e4,e5,e6,e7,e8,e9,f1,f2,f3,f4,f5,f6,f7,f8,f9,g0,g1,g2,g3,g4,g5,g6,g7,g8,g9,h0,h2,h3,h4,h5],defers:= []} w0:=by
 have HQ:=ι hQ;clear hQ;refine wp_loop_ghost_k (fun k a wr=>∀ Φ:Act→Prop,(∀ ⦃s0 s4 s5 s6 s7 s9 s1 s2 s3 a0 a2 a3 a4 a5 a6 a7 a8 a9 b0 b1 b2 b3 b4 b5 b6 b7 b8 b9 c1 c2 c3 c4 c5 c6 c7 c8 c9 d0 d1 d2 d3 d4 d5 d6 d7 d8 d9 e0 e1 e2 e3 e4 e5 e6 e7 e8 e9 f1 f2 f3 f4 f5 f6 f7 f8 f9 g0 g1 g2 g3 g4 g5 g6 g7 g8 g9 h0 h2 h3 h4 h5:Value⦄ (i:Nat),(i+k=16∧Blk wr gw 285 (wvs (ldW b i)).toArray∧w0.grownBy wr (some gw)∧wr.heap.size=w0.heap.size)→Φ {tmps:=#[s0,.pointer (some ⟨gb,0,none⟩),p2,.pointer (some ⟨gw,0,none⟩),s4,s5,s6,s7,.int .i64 i,s9,s1,s2,s3,a0,a2,a3,a4,a5,a6,a7,a8,a9,b0,b1,b2,b3,b4,b5,b6,b7,b8,b9,c1,c2,c3,c4,c5,c6,c7,c8,c9,d0,d1,d2,d3,d4,d5,d6,d7,d8,d9,e0,e1,e2,e3,e4,e5,e6,e7,e8,e9,f1,f2,f3,f4,f5,f6,f7,f8,f9,g0,g1,g2,g3,g4,g5,g6,g7,g8,g9,h0,h2,h3,h4,h5],defers:= []})→Φ a) (16) ?_ ?_
 ·refine fun Φ hΦ=>hΦ (0) ?_;exact ⟨by omega,hW,World.grownBy.refl _ _,rfl⟩
 ·intro k1 a1 wr1 hI1 J1 K1 hJ1 hK1;refine hI1 (fun a=>Code.wp _ _ _ a _) ?_;clear hI1 a1;iterate 81 (intro _)
  intro i hrel
  show Code.wp _ _ _ _ _
  conv=>arg 2; whnf
  obtain ⟨h1,hw,hg,hs⟩:=hrel;by_cases hi:i<16
  ·have hne:gb≠gw:=hB.ne_ hW (by decide);have hbb:=hB.grown hg (by intro e; injection e with e; exact hne e);have q0:wr1.cell? ⟨gb,4*i,none⟩=some (.int .u8 ((b.getD (4*i) 0).toNat:Int)):=(hbb.cell _).trans (bvals_at (by omega));have q1:wr1.cell? ⟨gb,4*i+1,none⟩=some (.int .u8 ((b.getD (4*i+1) 0).toNat:Int)):=(hbb.cell _).trans (bvals_at (by omega));have q2:wr1.cell? ⟨gb,4*i+2,none⟩=some (.int .u8 ((b.getD (4*i+2) 0).toNat:Int)):=(hbb.cell _).trans (bvals_at (by omega));have q3:wr1.cell? ⟨gb,4*i+3,none⟩=some (.int .u8 ((b.getD (4*i+3) 0).toNat:Int)):=(hbb.cell _).trans (bvals_at (by omega));have c0:wr1.cell? ⟨gw,i,none⟩=some (.int .u32 (((ldW b i).getD i 0).toNat:Int)):=(hw.cell _).trans (wvs_at (by rw [ldW_length]; omega));have f0:wr1.frozen? ⟨gw,i,none⟩=false:=hw.frozen _;have hi1:(i:Int)<16:=by omega
   have H:=ι (And.intro h1 (And.intro hw (And.intro hg hs)));have E:Hid (ldW b (i+1)=(ldW b i).set i (wdAt b i)):=ι rfl;unfold wdAt at E;generalize b.getD (4*i) 0=x0 at *;generalize b.getD (4*i+1) 0=x1 at *;generalize b.getD (4*i+2) 0=x2 at *;generalize b.getD (4*i+3) 0=x3 at *;generalize ((ldW b i).getD i 0)=x4 at *;clear h1 hw hg hs hbb;have v0:IntKind.i64.wrap (4*(i:Int))=4*(i:Int):=IntWalk.i64_in _ (by omega);have v1:IntKind.i64.wrap (4*(i:Int)+1)=4*(i:Int)+1:=IntWalk.i64_in _ (by omega);have v2:IntKind.i64.wrap (4*(i:Int)+2)=4*(i:Int)+2:=IntWalk.i64_in _ (by omega);have v3:IntKind.i64.wrap (4*(i:Int)+3)=4*(i:Int)+3:=IntWalk.i64_in _ (by omega);have z0:0≤4*(i:Int):=by omega
   have z1:0≤4*(i:Int)+1:=by omega
   have z2:0≤4*(i:Int)+2:=by omega
   have z3:0≤4*(i:Int)+3:=by omega
   have l0:4*(i:Int)<64:=by omega
   have l1:4*(i:Int)+1<64:=by omega
   have l2:4*(i:Int)+2<64:=by omega
   have l3:4*(i:Int)+3<64:=by omega
   have t0:(4*(i:Int)).toNat=4*i:=by omega
   have t1:(4*(i:Int)+1).toNat=4*i+1:=by omega
   have t2:(4*(i:Int)+2).toNat=4*i+2:=by omega
   have t3:(4*(i:Int)+3).toNat=4*i+3:=by omega
   have l4:(i:Int)<64:=by omega
   go_wp2
   go_still_tail 31,(by kernel_rfl)
   go_wp2
   refine Handed.intro (16 - (i+1)) ?_ (hJ1 _ _ _ (fun Φ hΦ=>hΦ (i+1) ?_))
   ·have:=H.out.1
    omega
   ·obtain ⟨h1,hw,hg,hs⟩:=H.out;have e:=E.out;have hw2:=hw.set_ i (.int .u32 ((orW (orW (orW (shlW (ofB x0) 24) (shlW (ofB x1) 16)) (shlW (ofB x2) 8)) (ofB x3)).toNat:Int));rw [wvs_set,←e] at hw2;refine ⟨by omega,hw2.drew,grown_set hg _ _,?_⟩;simp [hs]
  ·have e:i=16:=by omega
   subst e;have H:=ι (And.intro hw (And.intro hg hs));clear hw hg hs h1;go_wp2
   exact HQ.out _ H.out.1 H.out.2.1 H.out.2.2
theorem spread_two (l:List UInt32) (hl:l.length=64) (w0:World) (gw:Nat) (hW:Blk w0 gw 285 (wvs l).toArray)
  (Q:Exit→Act→World→Prop) (p1 p2:Value)
  (hQ:∀ ⦃s0 s4 s5 s6 s7 s8 s9 s1 s2 s3 a0 a6 a7 a8 a9 b0 b1 b2 b3 b4 b5 b6 b7 b8 b9 c1 c2 c3 c4 c5 c6 c7 c8 c9 d0 d1 d2 d3 d4 d5 d6 d7 d8 d9 e0 e1 e2 e3 e4 e5 e6 e7 e8 e9 f1 f2 f3 f4 f5 f6 f7 f8 f9 g0 g1 g2 g3 g4 g5 g6 g7 g8 g9 h0 h2 h3 h4 h5 h6 h7 h8 h9:Value⦄ (w2:World),Blk w2 gw 285 (wvs (exW l 48)).toArray→w0.grownBy w2 (some gw)→w2.heap.size=w0.heap.size→Q (.exit 2) {tmps:=#[s0,p1,p2,.pointer (some ⟨gw,0,none⟩),s4,s5,s6,s7,s8,s9,s1,s2,s3,a0,a6,a7,a8,a9,b0,b1,b2,b3,b4,b5,b6,b7,b8,b9,c1,c2,c3,c4,c5,c6,c7,c8,c9,d0,d1,d2,d3,d4,d5,d6,d7,d8,d9,e0,e1,e2,e3,e4,e5,e6,e7,e8,e9,f1,f2,f3,f4,f5,f6,f7,f8,f9,g0,g1,g2,g3,g4,g5,g6,g7,g8,g9,h0,h2,h3,h4,h5,h6,h7,h8,h9],defers:= []} w2)
  (s0 s4 s6 s7 s8 s9 s1 s2 s3 a0 a6 a7 a8 a9 b0 b1 b2 b3 b4 b5 b6 b7 b8 b9 c1 c2 c3 c4 c5 c6 c7 c8 c9 d0 d1 d2 d3 d4 d5 d6 d7 d8 d9 e0 e1 e2 e3 e4 e5 e6 e7 e8 e9 f1 f2 f3 f4 f5 f6 f7 f8 f9 g0 g1 g2 g3 g4 g5 g6 g7 g8 g9 h0 h2 h3 h4 h5 h6 h7 h8 h9:Value):
  Code.wp Tryz.prog (.loop (loopAt Tryz.f217 1)) Q {tmps:=#[s0,p1,p2,.pointer (some ⟨gw,0,none⟩),s4,.int .i64 16,s6,s7,s8,s9,s1,s2,s3,a0,a6,a7,a8,a9,b0,b1,b2,b3,b4,b5,b6,b7,b8,b9,c1,c2,c3,c4,c5,c6,c7,c8,c9,d0,d1,d2,d3,d4,d5,d6,d7,d8,d9,e0,e1,e2,e3,e4,e5,e6,e7,e8,e9,f1,f2,f3,f4,f5,f6,f7,f8,f9,g0,g1,g2,g3,g4,g5,g6,g7,g8,g9,h0,h2,h3,h4,h5,h6,h7,h8,h9],defers:= []} w0:=by
 have HQ:=ι hQ;clear hQ;refine wp_loop_ghost_k (fun k a wr=>∀ Φ:Act→Prop,(∀ ⦃s0 s4 s6 s7 s8 s9 s1 s2 s3 a0 a6 a7 a8 a9 b0 b1 b2 b3 b4 b5 b6 b7 b8 b9 c1 c2 c3 c4 c5 c6 c7 c8 c9 d0 d1 d2 d3 d4 d5 d6 d7 d8 d9 e0 e1 e2 e3 e4 e5 e6 e7 e8 e9 f1 f2 f3 f4 f5 f6 f7 f8 f9 g0 g1 g2 g3 g4 g5 g6 g7 g8 g9 h0 h2 h3 h4 h5 h6 h7 h8 h9:Value⦄ (i:Nat) (j:Nat),(i=16+j∧j+k=48∧Blk wr gw 285 (wvs (exW l j)).toArray∧w0.grownBy wr (some gw)∧wr.heap.size=w0.heap.size)→Φ {tmps:=#[s0,p1,p2,.pointer (some ⟨gw,0,none⟩),s4,.int .i64 i,s6,s7,s8,s9,s1,s2,s3,a0,a6,a7,a8,a9,b0,b1,b2,b3,b4,b5,b6,b7,b8,b9,c1,c2,c3,c4,c5,c6,c7,c8,c9,d0,d1,d2,d3,d4,d5,d6,d7,d8,d9,e0,e1,e2,e3,e4,e5,e6,e7,e8,e9,f1,f2,f3,f4,f5,f6,f7,f8,f9,g0,g1,g2,g3,g4,g5,g6,g7,g8,g9,h0,h2,h3,h4,h5,h6,h7,h8,h9],defers:= []})→Φ a) (48) ?_ ?_
 ·refine fun Φ hΦ=>hΦ (16) (0) ?_;exact ⟨by omega,by omega,hW,World.grownBy.refl _ _,rfl⟩
 ·intro k1 a1 wr1 hI1 J1 K1 hJ1 hK1;refine hI1 (fun a=>Code.wp _ _ _ a _) ?_;clear hI1 a1;iterate 81 (intro _)
  intro i j hrel
  show Code.wp _ _ _ _ _
  conv=>arg 2; whnf
  obtain ⟨hij,h1,hw,hg,hs⟩:=hrel;by_cases hi:i<64
  ·have hlen:=exW_length l hl j;have q1:wr1.cell? ⟨gw,i - 15,none⟩=some (.int .u32 (((exW l j).getD (j+1) 0).toNat:Int)):=(hw.cell _).trans (by rw [show i - 15=j+1 by omega]; exact wvs_at (by omega));have q2:wr1.cell? ⟨gw,i - 2,none⟩=some (.int .u32 (((exW l j).getD (j+14) 0).toNat:Int)):=(hw.cell _).trans (by rw [show i - 2=j+14 by omega]; exact wvs_at (by omega));have q3:wr1.cell? ⟨gw,i - 16,none⟩=some (.int .u32 (((exW l j).getD j 0).toNat:Int)):=(hw.cell _).trans (by rw [show i - 16=j by omega]; exact wvs_at (by omega));have q4:wr1.cell? ⟨gw,i - 7,none⟩=some (.int .u32 (((exW l j).getD (j+9) 0).toNat:Int)):=(hw.cell _).trans (by rw [show i - 7=j+9 by omega]; exact wvs_at (by omega));have c0:wr1.cell? ⟨gw,i,none⟩=some (.int .u32 (((exW l j).getD i 0).toNat:Int)):=(hw.cell _).trans (wvs_at (by omega));have f0:wr1.frozen? ⟨gw,i,none⟩=false:=hw.frozen _;have hi1:(i:Int)<64:=by omega
   have E:Hid (exW l (j+1)=(exW l j).set i (addW (addW (addW ((exW l j).getD j 0) (sgA ((exW l j).getD (j+1) 0))) ((exW l j).getD (j+9) 0)) (sgB ((exW l j).getD (j+14) 0)))):=ι (by rw [hij]; rfl);unfold sgA sgB at E;have v1:IntKind.i64.wrap ((i:Int) - 15)=(i:Int) - 15:=IntWalk.i64_in _ (by omega);have v2:IntKind.i64.wrap ((i:Int) - 2)=(i:Int) - 2:=IntWalk.i64_in _ (by omega);have v3:IntKind.i64.wrap ((i:Int) - 16)=(i:Int) - 16:=IntWalk.i64_in _ (by omega);have v4:IntKind.i64.wrap ((i:Int) - 7)=(i:Int) - 7:=IntWalk.i64_in _ (by omega);have z1:0≤(i:Int) - 15:=by omega
   have z2:0≤(i:Int) - 2:=by omega
   have z3:0≤(i:Int) - 16:=by omega
   have z4:0≤(i:Int) - 7:=by omega
   have y1:15≤(i:Int):=by omega
   have y2:2≤(i:Int):=by omega
   have y3:16≤(i:Int):=by omega
   have y4:7≤(i:Int):=by omega
   have x1:(i:Int) - 15<64:=by omega
   have x2:(i:Int) - 2<64:=by omega
   have x3:(i:Int) - 16<64:=by omega
   have x4:(i:Int) - 7<64:=by omega
   have t1:((i:Int) - 15).toNat=i - 15:=by omega
   have t2:((i:Int) - 2).toNat=i - 2:=by omega
   have t3:((i:Int) - 16).toNat=i - 16:=by omega
   have t4:((i:Int) - 7).toNat=i - 7:=by omega
   have H:=ι (And.intro hij (And.intro h1 (And.intro hw (And.intro hg hs))));generalize (exW l j).getD (j+1) 0=a1 at *;generalize (exW l j).getD (j+14) 0=a2 at *;generalize (exW l j).getD j 0=a3 at *;generalize (exW l j).getD (j+9) 0=a4 at *;generalize (exW l j).getD i 0=a5 at *;clear h1 hw hg hs hlen hij;go_wp2
   go_quiet (fail)
   have H':Hid (i=16+j∧j+k1=48∧Blk (wr1.drewN nq) gw 285 (wvs (exW l j)).toArray∧w0.grownBy (wr1.drewN nq) (some gw)∧(wr1.drewN nq).heap.size=w0.heap.size):=ι (by
    obtain ⟨hij,h1,hw,hg,hs⟩:=H.out;exact ⟨hij,h1,hw,⟨hg.os,hg.tape,hg.output,hg.size,hg.block⟩,hs⟩)
   have q3':(wr1.drewN nq).cell? ⟨gw,i - 16,none⟩=some (.int .u32 (a3.toNat:Int)):=q3;have q4':(wr1.drewN nq).cell? ⟨gw,i - 7,none⟩=some (.int .u32 (a4.toNat:Int)):=q4;have c0':(wr1.drewN nq).cell? ⟨gw,i,none⟩=some (.int .u32 (a5.toNat:Int)):=c0;have f0':(wr1.drewN nq).frozen? ⟨gw,i,none⟩=false:=f0;clear H q1 q2 q3 q4 c0 f0;generalize wr1.drewN nq=wx at *;go_wp2
   refine wp_region_still_tail 29 (by kernel_rfl) (by kernel_rfl) ?_;simp only [List.take_succ_cons,List.take_zero,List.drop_succ_cons,List.drop_zero]
   repeat still_step
   still_call (sha_rot7 _ _)
   repeat still_step
   still_call (sha_rot18 _ _)
   repeat still_step
   still_call (sha_rot17 _ _)
   repeat still_step
   still_call (sha_rot19 _ _)
   repeat still_step
   refine wpStill_nil ?_;clear v1 v2 v3 v4 t1 t2 t3 t4 z1 z2 z3 z4 x1 x2 x3 x4 y1 y2 y3 y4;go_wp2
   refine Handed.intro (48 - (j+1)) ?_ (hJ1 _ _ _ (fun Φ hΦ=>hΦ (i+1) (j+1) ?_))
   ·obtain ⟨_,h48,_⟩:=H'.out
    show 48 - (j+1)<k1;omega
   ·obtain ⟨hij,h1,hw,hg,hs⟩:=H'.out;have e:=E.out;have hw2:=hw.set_ i (.int .u32 ((addW (addW (addW a3 (xorW (xorW (rotW a1 7) (rotW a1 18)) (shrW a1 3))) a4) (xorW (xorW (rotW a2 17) (rotW a2 19)) (shrW a2 10))).toNat:Int));rw [wvs_set,←e] at hw2;refine ⟨by omega,by omega,hw2,?_,by simp [hs]⟩;exact grown_set hg _ _
  ·have e:j=48:=by omega
   subst e;have ei:i=64:=by omega
   subst ei;have H:=ι (And.intro hw (And.intro hg hs));clear hw hg hs h1 hij;go_wp2
   exact HQ.out _ H.out.1 H.out.2.1 H.out.2.2
end
end Go.Proofs.YtnelhjfjkkdoaaaGreatDoor