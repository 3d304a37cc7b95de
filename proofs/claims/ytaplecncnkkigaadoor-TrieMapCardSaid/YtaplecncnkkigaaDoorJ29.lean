import Derived.Test.YtaplecncnkkigaaDoorJ01
import Derived.Test.YtaplecncnkkigaaDoorRows
import Derived.Test.YtaplecncnkkigaaDoorJ03
import Derived.WideKeyArgs
import Derived.ProofKit
import Derived.OpenShut
import Derived.Deep.DeepHandedRow
import Derived.Lib.LaidTab
import Derived.LaidSub
import Derived.Lib.SmallJoins
/- Texts of bytes in order: plain lemmas. No conditions. -/
namespace Go.Proofs.YtaplecncnkkigaaDoor
set_option linter.unusedVariables false
theorem bl_irrefl : ∀ a : List UInt8, Op.bytesLess a a = false
  | [] => rfl
  | a :: x => by simp [Op.bytesLess, bl_irrefl x]
theorem bl_trans : ∀ a b c : List UInt8, Op.bytesLess a b = true → Op.bytesLess b c = true → Op.bytesLess a c = true
  | _, [], _, h, _ => by simp [Op.bytesLess] at h
  | _, _ :: _, [], _, h => by simp [Op.bytesLess] at h
  | [], _ :: _, _ :: _, _, _ => by simp [Op.bytesLess]
  | a :: x, b :: y, c :: z, h1, h2 => by
    simp only [Op.bytesLess, Bool.or_eq_true, Bool.and_eq_true, decide_eq_true_eq, beq_iff_eq, UInt8.lt_iff_toNat_lt] at *
    rcases h1 with h1 | ⟨rfl, h1⟩
    · rcases h2 with h2 | ⟨rfl, h2⟩
      · exact .inl (by omega)
      · exact .inl h1
    · rcases h2 with h2 | ⟨rfl, h2⟩
      · exact .inl h2
      · exact .inr ⟨rfl, bl_trans x y z h1 h2⟩
theorem bl_tri : ∀ a b : List UInt8, Op.bytesLess a b = false → Op.bytesLess b a = false → a = b
  | [], [], _, _ => rfl
  | [], _ :: _, h, _ => by simp [Op.bytesLess] at h
  | _ :: _, [], _, h => by simp [Op.bytesLess] at h
  | a :: x, b :: y, h1, h2 => by
    simp only [Op.bytesLess, Bool.or_eq_false_iff, Bool.and_eq_false_iff, decide_eq_false_iff_not, UInt8.lt_iff_toNat_lt] at *
    have e : a = b := UInt8.toNat_inj.1 (by omega)
    subst e
    simp at h1 h2
    rw [bl_tri x y h1 h2]
theorem bl_asymm (a b : List UInt8) (h : Op.bytesLess a b = true) : Op.bytesLess b a = false := by
  cases h2 : Op.bytesLess b a with
  | false => rfl
  | true => have := bl_trans a b a h h2; rw [bl_irrefl] at this; cases this
theorem bl_gt {a b : List UInt8} (h : Op.bytesLess a b = false) (hn : ¬ b = a) : Op.bytesLess b a = true := by
  cases h2 : Op.bytesLess b a with
  | true => rfl
  | false => exact absurd (bl_tri _ _ h2 h) hn
end Go.Proofs.YtaplecncnkkigaaDoor

/- What the statements of this seat share: the sums' table, laid, and a world that has it. No conditions. -/
namespace Go.Proofs.YtaplecncnkkigaaDoor.rowHead
open Go.ChangeShapes Go.WideShapes Go.ChangeAt Go.RowKit Go.ChangeMaps
set_option linter.unusedVariables false

theorem own : ownKnob Tryd.prog.godebug = none := by kernel_rfl
theorem gTab : Tryd.prog.globalNamed "pharos/sha.k" = some 0 := by kernel_rfl
theorem gTabType : (Tryd.prog.globals[0]?).map (·.type) = some 182 := by kernel_rfl
theorem cellsTab : Tryd.prog.cellsOf 182 = 64 := by kernel_rfl
theorem cellsOne : Tryd.prog.cellsOf 154 = 1 := by kernel_rfl
def kTab : List Int := kW.map fun x => (x.toNat : Int)
theorem kTab_len : kTab.length = 64 := by decide +kernel
theorem kW_len : kW.length = 64 := by decide +kernel
theorem kTab_at (i : Nat) (hi : i < 64) : kTab.getD i 0 = ((kW.getD i 0).toNat : Int) := by
  unfold kTab
  have hk : i < kW.length := by rw [kW_len]; exact hi
  generalize kW = l at *
  rw [List.getD_eq_getElem?_getD, List.getD_eq_getElem?_getD, List.getElem?_map, List.getElem?_eq_getElem hk]
  rfl
theorem tbl_of {W : World} (h : laidMetH Tryd.prog [("pharos/sha.k", Lib.tabData .u32 kTab)] W) : Tbl W := fun i hi => by
  have h1 := (Lib.tabIs_of_head (rest := []) gTab gTabType Tryd.underlying182 Tryd.underlying154 cellsOne cellsTab h).cell gTab i (by rw [kTab_len]; exact hi)
  rw [h1, kTab_at i hi]
def putK : Obj → Obj
  | .cells _ t frozen => .cells (kTab.map (fun n => Value.int .u32 n)).toArray t frozen
  | o => o
/-- A world for the witness: the settled one, the table holding what its initialiser lays. -/
noncomputable def laidWorld (os : Os) : World :=
  { World.holding Tryd.prog os ⟨#[], #[], []⟩ with heap := (World.holding Tryd.prog os ⟨#[], #[], []⟩).heap.modify 0 putK }
end Go.Proofs.YtaplecncnkkigaaDoor.rowHead
