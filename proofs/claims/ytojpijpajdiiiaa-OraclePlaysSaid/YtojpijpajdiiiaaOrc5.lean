/- The walks of layer 6 (oracle): all signatures, in order. No conditions. -/
import Derived.Test.YtojpijpajdiiiaaOrc4
import Derived.Test.YtojpijpajdiiiaaShelf
import Derived.Shelf.SlSortCmp.NoneTotal
namespace Go.Proofs.Ytojpijpajdiiiaa
set_option linter.unusedVariables false
open Go.RowKit Go.Instr
attribute [local go_sem] ba_get ByteArray.mk_append_mk add_zero_addr

theorem cmp_isNaN (a : List UInt8) (w : World) :
    Calls Try.prog 28 #[.string ⟨a.toArray⟩] w fun e w' => e = .returned (.bool false) ∧ w = w' := by
  go_enter Try.func28, Try.ntmps28
  go_wp2
  go_ret
  exact ⟨rfl, rfl⟩
def cmpS (a b : List UInt8) : Int := if Op.bytesLess a b then -1 else if a == b then 0 else 1
theorem cmp_Compare (a b : List UInt8) (w : World) :
    Calls Try.prog 22 #[.string ⟨a.toArray⟩, .string ⟨b.toArray⟩] w fun e w' => e = .returned (.int .i64 (cmpS a b)) ∧ w' = w := by
  unfold cmpS
  cases h1 : Op.bytesLess a b <;> cases h2 : (a == b)
  all_goals go_enter Try.func22, Try.ntmps22
  all_goals go_wp2_with (go_at_call 28; refine (cmp_isNaN _ _).mono ?_; rintro e w1 ⟨rfl, rfl⟩)
  all_goals go_ret
  all_goals exact ⟨rfl, rfl⟩

theorem cmp_Or (g : Nat) (x y : Int) (w : World) (h0 : w.cell? ⟨g, 0, none⟩ = some (.int .i64 x)) (h1 : w.cell? ⟨g, 1, none⟩ = some (.int .i64 y)) :
    Calls Try.prog 21 #[.slice (some ⟨g, 0, none⟩) 2 2] w fun e w' => e = .returned (.int .i64 (if x = 0 then y else x)) ∧ w' = w := by
  by_cases hx : x = 0
  · subst hx
    by_cases hy : y = 0
    · subst hy
      go_enter Try.func21, Try.ntmps21
      go_wp2
      go_rounds 3
      all_goals go_ret
      all_goals exact ⟨rfl, rfl⟩
    · go_enter Try.func21, Try.ntmps21
      go_wp2
      go_rounds 2
      all_goals go_ret
      all_goals exact ⟨rfl, rfl⟩
  · rw [if_neg hx]
    go_enter Try.func21, Try.ntmps21
    go_wp2
    go_rounds 2
    all_goals go_ret
    all_goals exact ⟨rfl, rfl⟩
end Go.Proofs.Ytojpijpajdiiiaa
