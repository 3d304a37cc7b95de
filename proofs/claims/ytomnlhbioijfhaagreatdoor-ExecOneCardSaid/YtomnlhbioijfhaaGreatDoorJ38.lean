import Derived.Test.YtomnlhbioijfhaaGreatDoorRows
import Derived.Test.YtomnlhbioijfhaaGreatDoorJ02
import Derived.WideKeyArgs
import Derived.ProofKit
import Derived.OpenShut
import Derived.Deep.DeepHandedRow
import Derived.Lib.LaidTab
import Derived.LaidSub
import Derived.Lib.SmallJoins
set_option linter.unusedSimpArgs false
set_option linter.unusedVariables false
namespace Go.Proofs.YtomnlhbioijfhaaGreatDoor.rowHead
open Go.ChangeShapes Go.WideShapes Go.ChangeAt Go.RowKit Go.ChangeMaps
theorem own : ownKnob Tryz.prog.godebug = none:=by kernel_rfl
theorem gTab : Tryz.prog.globalNamed "pharos/sha.k" = some 0 := by kernel_rfl
theorem gTabType : (Tryz.prog.globals[0]?).map (·.type) = some 207:=by kernel_rfl
theorem cellsTab : Tryz.prog.cellsOf 207 = 64:=by kernel_rfl
theorem cellsOne : Tryz.prog.cellsOf 186 = 1:=by kernel_rfl
def kTab : List Int:=kW.map fun x=>(x.toNat : Int)
theorem kTab_len : kTab.length = 64:=by decide +kernel
theorem kW_len : kW.length = 64:=by decide +kernel
theorem kTab_at (i : Nat) (hi : i < 64) : kTab.getD i 0 = ((kW.getD i 0).toNat : Int):=by
 unfold kTab
 have hk : i < kW.length:=by rw [kW_len]; exact hi
 generalize kW = l at *
 rw [List.getD_eq_getElem?_getD,List.getD_eq_getElem?_getD,List.getElem?_map,List.getElem?_eq_getElem hk]
 rfl
theorem tbl_of {W : World} (h : laidMetH Tryz.prog [("pharos/sha.k", Lib.tabData .u32 kTab)] W) : Tbl W := fun i hi => by
 have h1 := (Lib.tabIs_of_head (rest := []) gTab gTabType Tryz.underlying207 Tryz.underlying186 cellsOne cellsTab h).cell gTab i (by rw [kTab_len]; exact hi)
 rw [h1, kTab_at i hi]
def putK : Obj → Obj
 | .cells _ t frozen=>.cells (kTab.map (fun n=>Value.int .u32 n)).toArray t frozen
 | o=>o
noncomputable def laidWorld (os : Os) : World :=
 { World.holding Tryz.prog os ⟨#[],#[], []⟩ with heap:=(World.holding Tryz.prog os ⟨#[],#[], []⟩).heap.modify 0 putK }
end Go.Proofs.YtomnlhbioijfhaaGreatDoor.rowHead
namespace Go.Proofs.YtomnlhbioijfhaaGreatDoor
open Go.ChangeShapes Go.WideShapes Go.ChangeAt Go.RowKit Go.ChangeMaps Go.Joins
set_option maxRecDepth 100000 in
theorem open_e2 {H : Type} {enc : TypeId × Value → H} {W : World} {r : Reach} {base b0 : Nat} {spare : Nat → Bool} {held : Bool} {v : Value} {d : DataW H} {p : List MemPlace} (hv : Value.okWide Tryz.prog W r b0 44 v) (h : DataW.Trod enc Tryz.prog W base spare held 44 v d p) :
  ∃ y z : List UInt8,v = .agg #[.string ⟨y.toArray⟩,.string ⟨z.toArray⟩] ∧ y.length ≤ 9223372036854775807 ∧ z.length ≤ 9223372036854775807:=by
 have hform : ∃ cs,v = .agg cs ∧ cs.size = Tryz.prog.cellsOf 44:=by
  have h:=hv
  simp only [Value.okWide,Tryz.underlying44] at h
  obtain ⟨cs,h1,h2,_⟩:=h
  exact ⟨cs,h1,h2⟩
 obtain ⟨cs,rfl,hsz⟩:=hform
 rw [show Tryz.prog.cellsOf 44 = 2 from by kernel_rfl] at hsz
 obtain ⟨c0,c1,rfl⟩:=array2 hsz
 obtain ⟨fuel,hf⟩:=h
 obtain ⟨xs,m,_,_,_,hl,hx⟩:=DataW.trod_array Tryz.underlying44 hf
 have k1 : Tryz.prog.cellsOf 9 = 1:=by kernel_rfl
 have h0:=hx 0 (by omega)
 have h1:=hx 1 (by omega)
 rw [k1] at h0 h1
 have g0 : DataW.trod enc Tryz.prog W base spare held m 9 [c0] = some (xs[0]'(by omega)):=by
  rw [← List.getElem?_eq_getElem (by omega),← h0]; rfl
 have g1 : DataW.trod enc Tryz.prog W base spare held m 9 [c1] = some (xs[1]'(by omega)):=by
  rw [← List.getElem?_eq_getElem (by omega),← h1]; rfl
 obtain ⟨s0,e0,_,z0⟩:=DataW.trod_string Tryz.underlying9 g0
 obtain ⟨s1,e1,_,z1⟩:=DataW.trod_string Tryz.underlying9 g1
 injection e0 with e0
 injection e1 with e1
 subst e0 e1
 simp only [maxLen] at z0 z1
 refine ⟨s0.data.toList,s1.data.toList,rfl, ?_, ?_⟩
 ·have e : s0.data.toList.length = s0.size:=Array.length_toList
  omega
 ·have e : s1.data.toList.length = s1.size:=Array.length_toList
  omega
end Go.Proofs.YtomnlhbioijfhaaGreatDoor
