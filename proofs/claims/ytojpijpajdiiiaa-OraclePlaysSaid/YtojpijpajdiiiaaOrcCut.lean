/- Slices of signatures, cut. No conditions. -/
import Derived.Test.YtojpijpajdiiiaaOrcPl2
namespace Go.Proofs.Ytojpijpajdiiiaa
set_option linter.unusedVariables false
open Go.RowKit Go.Instr
attribute [local go_sem] ba_get ByteArray.mk_append_mk add_zero_addr

theorem srows_take : ∀ (l : List Sg) (i : Nat), srows (l.take i) = (srows l).take (i * 3)
  | [], i => by simp [srows_nil]
  | x :: l, 0 => by simp [srows_nil]
  | x :: l, i + 1 => by
    rw [List.take_succ_cons, srows_cons, srows_cons, srows_take l i, show (i + 1) * 3 = (srow x).length + i * 3 by rw [srow_length]; omega, List.take_length_add_append]
theorem srows_drop : ∀ (l : List Sg) (i : Nat), srows (l.drop i) = (srows l).drop (i * 3)
  | [], i => by simp [srows_nil]
  | x :: l, 0 => by simp
  | x :: l, i + 1 => by
    rw [List.drop_succ_cons, srows_cons, srows_drop l i, show (i + 1) * 3 = (srow x).length + i * 3 by rw [srow_length]; omega, List.drop_length_add_append]
theorem sg_size (w : World) : (sizeOf 37).run Try.prog w = .ok 3 w := by
  go_simp
  try rfl
theorem sg_cut_to (A : Option Addr) (l : List Sg) (n c i : Nat) (hn : l.length = n) (hi : i ≤ n) (hc : n ≤ c) :
    ∃ A1 c1, (∀ w, (Instr.sliceAt 34 (.slice A n c) none (some (.int .i64 (i : Int))) none).run Try.prog w = .ok (.slice A1 i c1) w) ∧ ∀ w B, Reads w B 3 A n (srows l) → Reads w B 3 A1 i (srows (l.take i)) := by
  refine ⟨if c = 0 then A else A.map (·.add (0 * 3)), c - 0, fun w => ?_, fun w B hr => ⟨by rw [srows_length, List.length_take]; omega, fun hp => ?_⟩⟩
  · rw [run_sliceAt_slice _ _ _ _ _ _ Try.underlying34, run_slice_h _ _ _ _ _ Try.underlying34 _ _ (by omega) (by omega)]
    rw [show (sizeOf (Program.elem Try.prog 34)).run Try.prog w = .ok 3 w from sg_size w]
    rfl
  · obtain ⟨ad, rfl, hb, hcell⟩ := hr.2 (by omega)
    rw [if_neg (by omega)]
    refine ⟨ad, by simp [Addr.add], hb, fun j u hu => hcell j u ?_⟩
    rw [srows_take] at hu
    have hj : j < i * 3 := by
      have := (List.getElem?_eq_some_iff.1 hu).1
      rw [List.length_take] at this
      omega
    rw [List.getElem?_take_of_lt hj] at hu
    exact hu
theorem sg_cut_from (A : Option Addr) (l : List Sg) (n c i : Nat) (hn : l.length = n) (hi : i ≤ n) (hc : n ≤ c) :
    ∃ A1 c1, (∀ w, (Instr.sliceAt 34 (.slice A n c) (some (.int .i64 (i : Int))) none none).run Try.prog w = .ok (.slice A1 (n - i) c1) w) ∧ ∀ w B, Reads w B 3 A n (srows l) → Reads w B 3 A1 (n - i) (srows (l.drop i)) := by
  refine ⟨if c = i then A else A.map (·.add (i * 3)), c - i, fun w => ?_, fun w B hr => ?_⟩
  · rw [run_sliceAt_slice _ _ _ _ _ _ Try.underlying34, run_slice_l _ _ _ _ _ Try.underlying34 _ _ (by omega) (by omega)]
    rw [show (sizeOf (Program.elem Try.prog 34)).run Try.prog w = .ok 3 w from sg_size w]
    rfl
  · rw [srows_drop]
    exact hr.cut hi hc
end Go.Proofs.Ytojpijpajdiiiaa
