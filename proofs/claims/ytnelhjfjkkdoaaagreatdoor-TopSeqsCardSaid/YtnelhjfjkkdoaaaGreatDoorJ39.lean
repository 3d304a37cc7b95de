import Derived.Test.YtnelhjfjkkdoaaaGreatDoorJ25
set_option linter.unusedSimpArgs false
set_option linter.unusedVariables false
namespace Go.Proofs.YtnelhjfjkkdoaaaGreatDoor
section
open Go.RowKit Go.Instr
attribute [local go_sem] w_u8 w_add
theorem w_mul256 (x:UInt32):IntKind.u32.wrap ((x.toNat:Int)*256)=((mul256 x).toNat:Int):=by
 rw [IntKind.wrap_u32',mul256,UInt32.toNat_mul];simp
attribute [local go_sem] w_mul256
end
end Go.Proofs.YtnelhjfjkkdoaaaGreatDoor