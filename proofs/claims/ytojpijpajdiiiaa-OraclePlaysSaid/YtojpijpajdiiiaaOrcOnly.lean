/- Layer 6's laws: OracleOnly. No conditions. -/
import Derived.Test.YtojpijpajdiiiaaOrcFill
namespace Go.Proofs.Ytojpijpajdiiiaa
set_option linter.unusedVariables false
open Go.RowKit Go.Instr
attribute [local go_sem] ba_get ByteArray.mk_append_mk

def isS (who mark : List UInt8) (L : List Stp) : Bool := L.any fun s => may s.who s.mark && s.who == who && s.mark == mark
def honS (who : List UInt8) (L : List Stp) : Bool := L.all fun s => !may s.who s.mark || s.who != who || s.h
theorem isS_snoc (who mark : List UInt8) (L : List Stp) (s : Stp) : isS who mark (L ++ [s]) = (isS who mark L || (may s.who s.mark && s.who == who && s.mark == mark)) := by simp [isS]
theorem honS_snoc (who : List UInt8) (L : List Stp) (s : Stp) : honS who (L ++ [s]) = (honS who L && (!may s.who s.mark || s.who != who || s.h)) := by simp [honS]

theorem may_bad (w m : List UInt8) (h : may w m = false) : w.length = 0 ∨ 6 < w.length ∨ m.length ≠ 32 := by
  unfold may at h
  simp at h
  omega
theorem any_set : ∀ (l : List Sg) (n : Nat) (x : Sg) (b : Bool) (k : List UInt8 × List UInt8), l[n]? = some x → (l.set n (x.1, x.2.1, b)).any (fun y => decide (k = (y.1, y.2.1))) = l.any fun y => decide (k = (y.1, y.2.1))
  | [], n, x, b, k, h => by simp at h
  | y :: l, 0, x, b, k, h => by simp at h; subst h; simp
  | y :: l, n + 1, x, b, k, h => by
    simp only [List.set_cons_succ, List.any_cons]
    rw [any_set l n x b k (by simpa using h)]
theorem all_set (who : List UInt8) : ∀ (l : List Sg) (n : Nat) (x : Sg) (b : Bool), l[n]? = some x → honest (l.set n (x.1, x.2.1, (x.2.2 && b))) who = (honest l who && (x.1 != who || b))
  | [], n, x, b, h => by simp at h
  | y :: l, 0, x, b, h => by
    simp at h; subst h
    simp only [honest, List.set_cons_zero, List.all_cons]
    by_cases e : y.1 = who
    · cases y.2.2 <;> cases b <;> simp [e]
    · have e2 : (y.1 != who) = true := by simpa using e
      simp [e, e2]
  | y :: l, n + 1, x, b, h => by
    have ih := all_set who l n x b (by simpa using h)
    simp only [honest, List.set_cons_succ, List.all_cons] at ih ⊢
    rw [ih, Bool.and_assoc]
theorem atRow_mem {k : List UInt8 × List UInt8} {l : List Sg} {n : Nat} (h : atRow k l = some n) : (l.any fun y => decide (k = (y.1, y.2.1))) = true := by
  rw [← atRow_isSome, h]; rfl
theorem sign_step (l : List Sg) (hl : l.length < 1024) (s : Stp) (k : List UInt8 × List UInt8) (who : List UInt8) :
    ((sign l s.who s.mark s.h).1.any fun y => decide (k = (y.1, y.2.1))) = ((l.any fun y => decide (k = (y.1, y.2.1))) || (may s.who s.mark && s.who == k.1 && s.mark == k.2)) ∧
    honest (sign l s.who s.mark s.h).1 who = (honest l who && (!may s.who s.mark || s.who != who || s.h)) := by
  cases hm : may s.who s.mark with
  | false =>
    have e : (sign l s.who s.mark s.h).1 = l := by
      unfold sign
      rcases may_bad _ _ hm with h | h | h
      · rw [if_pos (.inl h)]
      · rw [if_pos (.inr h)]
      · by_cases h2 : s.who.length = 0 ∨ 6 < s.who.length
        · rw [if_pos h2]
        · rw [if_neg h2, if_pos h]
    rw [e]
    simp
  | true =>
    obtain ⟨h1, h6, h32⟩ : 1 ≤ s.who.length ∧ s.who.length ≤ 6 ∧ s.mark.length = 32 := by simpa [may] using hm
    have hk : (s.who == k.1 && s.mark == k.2) = decide (k = (s.who, s.mark)) := by
      obtain ⟨k1, k2⟩ := k
      apply Bool.eq_iff_iff.2
      simp only [Bool.and_eq_true, beq_iff_eq, decide_eq_true_eq, Prod.mk.injEq]
      exact ⟨fun ⟨a, b⟩ => ⟨a.symm, b.symm⟩, fun ⟨a, b⟩ => ⟨a.symm, b.symm⟩⟩
    cases hn : atRow (s.who, s.mark) l with
    | some n =>
      obtain ⟨x, hx, hkx⟩ := atRow_lt hn
      injection hkx with k1 k2
      have e : (sign l s.who s.mark s.h).1 = l.set n (x.1, x.2.1, (x.2.2 && s.h)) := by
        unfold sign
        rw [if_neg (by omega), if_neg (by omega), hn]
        simp [hx, k1, k2]
      rw [e, any_set l n x _ k hx, all_set who l n x _ hx]
      refine ⟨?_, by simp [k1]⟩
      rw [Bool.true_and, hk]
      by_cases hkk : k = (s.who, s.mark)
      · subst hkk
        rw [atRow_mem hn]
        rfl
      · simp [hkk]
    | none =>
      have e : (sign l s.who s.mark s.h).1 = l ++ [(s.who, s.mark, s.h)] := by
        unfold sign
        rw [if_neg (by omega), if_neg (by omega), hn]
        simp only []
        rw [if_neg (by omega)]
      rw [e, Bool.true_and, hk]
      constructor
      · simp
      · simp only [honest, List.all_append, List.all_cons, List.all_nil, Bool.and_true]
        cases s.h
        · by_cases e2 : s.who = who
          · simp [e2]
          · have e3 : (s.who != who) = true := by simpa using e2
            simp [e2, e3]
        · simp
theorem signs_spec (k : List UInt8 × List UInt8) (who : List UInt8) : ∀ (L : List Stp) (l : List Sg), l.length + L.length < 1024 →
    ((signs l L).any fun y => decide (k = (y.1, y.2.1))) = ((l.any fun y => decide (k = (y.1, y.2.1))) || isS k.1 k.2 L) ∧ honest (signs l L) who = (honest l who && honS who L)
  | [], l, h => by simp [signs, isS, honS]
  | s :: L, l, h => by
    have h1 := sign_step l (by omega) s k who
    have h2 := sign_length l s.who s.mark s.h
    rw [List.length_cons] at h
    have h3 := signs_spec k who L (sign l s.who s.mark s.h).1 (by omega)
    have e : signs l (s :: L) = signs (sign l s.who s.mark s.h).1 L := rfl
    rw [e, h3.1, h3.2, h1.1, h1.2]
    simp [isS, honS, Bool.or_assoc, Bool.and_assoc]
end Go.Proofs.Ytojpijpajdiiiaa
