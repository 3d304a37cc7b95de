import Derived.Test.YtomnlhbioijfhaaGreatDoorRows
import Derived.Test.YtomnlhbioijfhaaGreatDoorJ03
import Derived.WideKeyArgs
import Derived.ProofKit
import Derived.OpenShut
import Derived.Deep.DeepHandedRow
import Derived.Lib.LaidTab
import Derived.LaidSub
import Derived.Lib.SmallJoins
set_option linter.unusedSimpArgs false
set_option linter.unusedVariables false
namespace Go.Proofs.YtomnlhbioijfhaaGreatDoor.rowHead
open Go.ChangeShapes Go.WideShapes Go.ChangeAt Go.RowKit Go.ChangeMaps
theorem own : ownKnob Tryz.prog.godebug = none:=by kernel_rfl
theorem gTab : Tryz.prog.globalNamed "pharos/sha.k" = some 0 := by kernel_rfl
theorem gTabType : (Tryz.prog.globals[0]?).map (·.type) = some 207:=by kernel_rfl
theorem cellsTab : Tryz.prog.cellsOf 207 = 64:=by kernel_rfl
theorem cellsOne : Tryz.prog.cellsOf 186 = 1:=by kernel_rfl
def kTab : List Int:=kW.map fun x=>(x.toNat : Int)
theorem kTab_len : kTab.length = 64:=by decide +kernel
theorem kW_len : kW.length = 64:=by decide +kernel
theorem kTab_at (i : Nat) (hi : i < 64) : kTab.getD i 0 = ((kW.getD i 0).toNat : Int):=by
 unfold kTab
 have hk : i < kW.length:=by rw [kW_len]; exact hi
 generalize kW = l at *
 rw [List.getD_eq_getElem?_getD,List.getD_eq_getElem?_getD,List.getElem?_map,List.getElem?_eq_getElem hk]
 rfl
theorem tbl_of {W : World} (h : laidMetH Tryz.prog [("pharos/sha.k", Lib.tabData .u32 kTab)] W) : Tbl W := fun i hi => by
 have h1 := (Lib.tabIs_of_head (rest := []) gTab gTabType Tryz.underlying207 Tryz.underlying186 cellsOne cellsTab h).cell gTab i (by rw [kTab_len]; exact hi)
 rw [h1, kTab_at i hi]
def putK : Obj → Obj
 | .cells _ t frozen=>.cells (kTab.map (fun n=>Value.int .u32 n)).toArray t frozen
 | o=>o
noncomputable def laidWorld (os : Os) : World :=
 { World.holding Tryz.prog os ⟨#[],#[], []⟩ with heap:=(World.holding Tryz.prog os ⟨#[],#[], []⟩).heap.modify 0 putK }
end Go.Proofs.YtomnlhbioijfhaaGreatDoor.rowHead
namespace Go.Proofs.YtomnlhbioijfhaaGreatDoor
open Go.ChangeShapes Go.WideShapes Go.ChangeAt Go.RowKit Go.ChangeMaps Go.Joins
set_option maxRecDepth 100000 in
theorem open_endsL {H : Type} {enc : TypeId × Value → H} {W : World} {r : Reach} {base b0 : Nat} {spare : Nat → Bool} {held : Bool} {v : Value} {d : DataW H} {p : List MemPlace} (hv : Value.okWide Tryz.prog W r b0 23 v) (h : DataW.Trod enc Tryz.prog W base spare held 23 v d p) :
  ∃ (f e : List UInt8) (most : Int),v = .agg #[.string ⟨f.toArray⟩,.string ⟨e.toArray⟩,.int .i64 most] ∧ f.length ≤ 9223372036854775807 ∧ e.length ≤ 9223372036854775807:=by
 obtain ⟨k0,k1,k2,y0,y1,y2,n,rfl,_,_,t0,t1,t2⟩:=open_agg3 Tryz.underlying23 (by kernel_rfl) (by kernel_rfl) hv h
 obtain ⟨s0,e0,_,z0⟩:=DataW.trod_string Tryz.underlying9 t0
 obtain ⟨s1,e1,_,z1⟩:=DataW.trod_string Tryz.underlying9 t1
 obtain ⟨s2,e2,_⟩:=DataW.trod_int Tryz.underlying3 t2
 injection e0 with e0; injection e1 with e1; injection e2 with e2
 subst e0; subst e1; subst e2
 have g : ∀ s : ByteArray,s.size ≤ maxLen → s.data.toList.length ≤ 9223372036854775807:=fun s z=>by simp only [maxLen] at z; have e : s.data.toList.length = s.size:=Array.length_toList; omega
 exact ⟨s0.data.toList,s1.data.toList,s2,rfl,g _ z0,g _ z1⟩
end Go.Proofs.YtomnlhbioijfhaaGreatDoor
