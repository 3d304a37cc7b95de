import Derived.Test.YtnelhjfjkkdoaaaGreatDoorK03
import Derived.WideKeyArgs
import Derived.ProofKit
import Derived.OpenShut
import Derived.Deep.DeepHandedRow
import Derived.Lib.LaidTab
import Derived.LaidSub
import Derived.Lib.SmallJoins
set_option linter.unusedSimpArgs false
set_option linter.unusedVariables false
namespace Go.Proofs.YtnelhjfjkkdoaaaGreatDoor
namespace rowHead
open Go.ChangeShapes Go.WideShapes Go.ChangeAt Go.RowKit Go.ChangeMaps
theorem own:ownKnob Tryz.prog.godebug=none:=by kernel_rfl
theorem gTab : Tryz.prog.globalNamed "pharos/sha.k" = some 0 := by kernel_rfl
theorem gTabType:(Tryz.prog.globals[0]?).map (·.type)=some 285:=by kernel_rfl
theorem cellsTab:Tryz.prog.cellsOf 285=64:=by kernel_rfl
theorem cellsOne:Tryz.prog.cellsOf 223=1:=by kernel_rfl
def kTab:List Int:=kW.map fun x=>(x.toNat:Int)
theorem kTab_len:kTab.length=64:=by decide+kernel
theorem kW_len:kW.length=64:=by decide+kernel
theorem kTab_at (i:Nat) (hi:i<64):kTab.getD i 0=((kW.getD i 0).toNat:Int):=by
 unfold kTab;have hk:i<kW.length:=by rw [kW_len]; exact hi
 generalize kW=l at *;rw [List.getD_eq_getElem?_getD,List.getD_eq_getElem?_getD,List.getElem?_map,List.getElem?_eq_getElem hk];rfl
theorem tbl_of {W : World} (h : laidMetH Tryz.prog [("pharos/sha.k", Lib.tabData .u32 kTab)] W) : Tbl W := fun i hi => by
 have h1:=(Lib.tabIs_of_head (rest:= []) gTab gTabType Tryz.underlying285 Tryz.underlying223 cellsOne cellsTab h).cell gTab i (by rw [kTab_len]; exact hi);rw [h1,kTab_at i hi]
def putK:Obj→Obj
 | .cells _ t frozen=> .cells (kTab.map (fun n=>Value.int .u32 n)).toArray t frozen
 |o=>o
noncomputable def laidWorld (os:Os):World:=
 {World.holding Tryz.prog os ⟨#[],#[],[]⟩ with heap:=(World.holding Tryz.prog os ⟨#[],#[],[]⟩).heap.modify 0 putK}
end rowHead
end Go.Proofs.YtnelhjfjkkdoaaaGreatDoor