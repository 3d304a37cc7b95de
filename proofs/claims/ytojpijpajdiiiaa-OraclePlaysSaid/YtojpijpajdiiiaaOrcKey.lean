/- The key's type of the table of signatures: two texts and a flag that is down. No conditions. -/
import Derived.Test.YtojpijpajdiiiaaBase
import Derived.Test.YtojpijpajdiiiaaMap
namespace Go.Proofs.Ytojpijpajdiiiaa
set_option linter.unusedVariables false
open Go.RowKit Go.Instr

theorem ba_beq_refl (a : ByteArray) : (a == a) = true := by rw [beq_toListBytes]; simp

def sg (k : List UInt8 × List UInt8 × Bool) : Value := .agg #[.string ⟨k.1.toArray⟩, .string ⟨k.2.1.toArray⟩, .bool k.2.2]
def sk (k : List UInt8 × List UInt8) : Value := sg (k.1, k.2, false)

theorem sg_run (w : World) (a b : List UInt8 × List UInt8 × Bool) : (Op.equalIn 10000 37 (sg a) (sg b)).run Try.prog w = .ok (decide (a = b)) w := by
  obtain ⟨a1, a2, a3⟩ := a
  obtain ⟨b1, b2, b3⟩ := b
  have u9 := Try.underlying9
  have a9 := Try.isAgg9
  have z9 := Try.sizeOf9
  have u4 := Try.underlying4
  have a4 := Try.isAgg4
  have z4 := Try.sizeOf4
  have hS : Try.prog.underlying 37 = some (.struct (Try.prog.fieldsOf 37)) := by kernel_rfl
  have hp : Try.prog.stoodInHeld 37 = false := by kernel_rfl
  simp only [sg]
  rw [show (10000 : Nat) = 9999 + 1 from rfl, run_equalIn_agg w 9999 37 _ _ hS hp]
  simp only [Program.fieldsOf, Try.underlying37]
  go_simp
  by_cases h1 : a1 = b1 <;> by_cases h2 : a2 = b2 <;> by_cases h3 : a3 = b3 <;> simp [h1, h2, h3, ByteArray.toList_mk]
theorem sg_equal (w : World) (a b : List UInt8 × List UInt8 × Bool) : (Op.equal 37 (sg a) (sg b)).run Try.prog w = .ok (decide (a = b)) w := sg_run w a b
theorem sk_equal (w : World) (a b : List UInt8 × List UInt8) : (Op.equal 37 (sk a) (sk b)).run Try.prog w = .ok (decide (a = b)) w := by
  rw [sk, sk, sg_equal]
  obtain ⟨a1, a2⟩ := a
  obtain ⟨b1, b2⟩ := b
  congr 1
  apply Bool.eq_iff_iff.2
  simp
theorem leaf_check (e : Bool) (n : Nat) (w : World) (t : TypeId) (d : TypeDesc) (v : Value) (hu : Try.prog.underlying t = some d) (h1 : d = .string ∨ d = .bool) : (checkKey e (n + 1) t v).run Try.prog w = .ok () w := by
  rw [checkKey]
  rcases h1 with rfl | rfl <;> cases v <;> simp [run_underlying hu]
theorem sk_check (e : Bool) (w : World) (k : List UInt8 × List UInt8) : (checkKey e 10000 37 (sk k)).run Try.prog w = .ok () w := by
  have u9 := Try.underlying9
  have a9 := Try.isAgg9
  have u4 := Try.underlying4
  have a4 := Try.isAgg4
  rw [show (10000 : Nat) = 9998 + 1 + 1 from rfl, checkKey]
  have c9 := fun v => leaf_check e 9998 w 9 _ v u9 (.inl rfl)
  have c4 := fun v => leaf_check e 9998 w 4 _ v u4 (.inr rfl)
  simp only [Sem.run_bind, run_underlying Try.underlying37, Result.andThen_ok, sk, sg]
  rw [← Array.forIn_toList]
  simp only [List.forIn_cons, List.forIn_nil, part, Sem.run_bind, a9, a4, Result.andThen_ok]
  simp [c9, c4]
theorem sk_now (k : List UInt8 × List UInt8) : ∀ (E : List MapEntry) (l : List ((List UInt8 × List UInt8) × Value)) (i : Nat), E.map (fun e => (e.key, e.val)) = l.map (fun x => (sk x.1, x.2)) →
    findNow (.struct (Try.prog.fieldsOf 37)) (sk k) E i = none ∨ findNow (.struct (Try.prog.fieldsOf 37)) (sk k) E i = some (assoc k l i)
  | [], [], i, _ => .inr rfl
  | [], _ :: _, _, hE => by simp at hE
  | _ :: _, [], _, hE => by simp at hE
  | e :: E, x :: l, i, hE => .inl rfl
theorem sk_stays (k : List UInt8 × List UInt8) : sameBits 10000 (sk k) (sk k) = true := by
  simp only [sk, sg, sameBits]
  simp [sameBits, ba_beq_refl]
theorem sk_type : KeyType Try.prog 37 sk where
  check := sk_check
  equal := sk_equal
  now := ⟨_, by kernel_rfl, sk_now⟩
  stays := sk_stays
end Go.Proofs.Ytojpijpajdiiiaa
