/- The table of signatures, without the program: rows, their places, what signing does. No conditions. -/
import Derived.Test.YtojpijpajdiiiaaOrcKey
namespace Go.Proofs.Ytojpijpajdiiiaa
set_option linter.unusedVariables false
open Go.RowKit Go.Instr

abbrev Sg := List UInt8 × List UInt8 × Bool
def srow (x : Sg) : List Value := [.string ⟨x.1.toArray⟩, .string ⟨x.2.1.toArray⟩, .bool x.2.2]
def srows (l : List Sg) : List Value := l.flatMap srow
theorem srow_length (x : Sg) : (srow x).length = 3 := rfl
theorem srow_one (x : Sg) : ∀ u ∈ srow x, u.oneCell' = true := by
  intro u hu
  simp [srow] at hu
  rcases hu with rfl | rfl | rfl <;> rfl
theorem srows_one (l : List Sg) : ∀ u ∈ srows l, u.oneCell' = true := by
  intro u hu
  simp only [srows, List.mem_flatMap] at hu
  obtain ⟨x, _, hx⟩ := hu
  exact srow_one x u hx
theorem srows_nil : srows [] = [] := rfl
theorem srows_cons (x : Sg) (l : List Sg) : srows (x :: l) = srow x ++ srows l := rfl
theorem srows_snoc (l : List Sg) (x : Sg) : srows (l ++ [x]) = srows l ++ srow x := by simp [srows]
theorem srows_length : ∀ (l : List Sg), (srows l).length = l.length * 3
  | [] => rfl
  | x :: l => by rw [srows_cons, List.length_append, srows_length l, srow_length, List.length_cons]; omega
theorem srows_at : ∀ (l : List Sg) (i j : Nat) (x : Sg), l[i]? = some x → j < 3 → (srows l)[i * 3 + j]? = (srow x)[j]?
  | [], i, j, x, h, _ => by simp at h
  | y :: l, 0, j, x, h, hj => by
    simp at h; subst h
    rw [srows_cons, Nat.zero_mul, Nat.zero_add, List.getElem?_append_left (by rw [srow_length]; exact hj)]
  | y :: l, i + 1, j, x, h, hj => by
    rw [srows_cons, List.getElem?_append_right (by rw [srow_length]; omega), srow_length, show (i + 1) * 3 + j - 3 = i * 3 + j by omega]
    exact srows_at l i j x (by simpa using h) hj
theorem srows_set : ∀ (l : List Sg) (i : Nat) (x : Sg) (h : Bool), l[i]? = some x → (srows l).set (i * 3 + 2) (.bool h) = srows (l.set i (x.1, x.2.1, h))
  | [], i, x, h, he => by simp at he
  | y :: l, 0, x, h, he => by
    simp at he; subst he
    rfl
  | y :: l, i + 1, x, h, he => by
    rw [srows_cons, List.set_append_right _ _ (by rw [srow_length]; omega), srow_length, show (i + 1) * 3 + 2 - 3 = i * 3 + 2 by omega, srows_set l i x h (by simpa using he)]
    rfl

/-- the place of a key's row -/
def atRow (k : List UInt8 × List UInt8) : List Sg → Option Nat
  | [] => none
  | x :: l => if k = (x.1, x.2.1) then some 0 else (atRow k l).map (· + 1)
def smap : List Sg → Nat → List ((List UInt8 × List UInt8) × Value)
  | [], _ => []
  | x :: l, i => ((x.1, x.2.1), .int .i64 (i : Nat)) :: smap l (i + 1)
theorem assoc_smap (k : List UInt8 × List UInt8) : ∀ (l : List Sg) (i j : Nat), assoc k (smap l i) j = (atRow k l).map fun n => (j + n, .int .i64 ((i + n : Nat) : Int))
  | [], i, j => rfl
  | x :: l, i, j => by
    simp only [smap, assoc, atRow]
    by_cases hk : k = (x.1, x.2.1)
    · simp [hk]
    · rw [if_neg hk, if_neg hk, assoc_smap k l (i + 1) (j + 1)]
      cases atRow k l with
      | none => rfl
      | some n =>
        simp only [Option.map_some]
        rw [show j + 1 + n = j + (n + 1) by omega, show i + 1 + n = i + (n + 1) by omega]
theorem smap_snoc : ∀ (l : List Sg) (x : Sg) (i : Nat), smap (l ++ [x]) i = smap l i ++ [((x.1, x.2.1), .int .i64 ((i + l.length : Nat) : Int))]
  | [], x, i => rfl
  | y :: l, x, i => by
    simp only [List.cons_append, smap, smap_snoc l x (i + 1), List.length_cons]
    rw [show i + 1 + l.length = i + (l.length + 1) by omega]
theorem atRow_lt {k : List UInt8 × List UInt8} : ∀ {l : List Sg} {n : Nat}, atRow k l = some n → ∃ x, l[n]? = some x ∧ (x.1, x.2.1) = k
  | [], n, h => by simp [atRow] at h
  | x :: l, n, h => by
    simp only [atRow] at h
    by_cases hk : k = (x.1, x.2.1)
    · rw [if_pos hk] at h; injection h with h; subst h
      exact ⟨x, rfl, hk.symm⟩
    · rw [if_neg hk] at h
      cases ha : atRow k l with
      | none => rw [ha] at h; simp at h
      | some m =>
        rw [ha] at h; simp at h; subst h
        obtain ⟨y, h1, h2⟩ := atRow_lt ha
        exact ⟨y, by simpa using h1, h2⟩
theorem smap_set : ∀ (l : List Sg) (n i : Nat) (x : Sg) (h : Bool), l[n]? = some x → smap (l.set n (x.1, x.2.1, h)) i = smap l i
  | [], n, i, x, h, he => by simp at he
  | y :: l, 0, i, x, h, he => by simp at he; subst he; rfl
  | y :: l, n + 1, i, x, h, he => by simp only [List.set_cons_succ, smap, smap_set l n (i + 1) x h (by simpa using he)]
theorem atRow_isSome (k : List UInt8 × List UInt8) : ∀ l : List Sg, (atRow k l).isSome = l.any fun x => decide (k = (x.1, x.2.1))
  | [] => rfl
  | x :: l => by
    simp only [atRow, List.any_cons]
    by_cases hk : k = (x.1, x.2.1)
    · simp [hk]
    · simp [hk, atRow_isSome k l]

def may (who mark : List UInt8) : Bool := decide (1 ≤ who.length ∧ who.length ≤ 6 ∧ mark.length = 32)
/-- a step that signs: the rows behind it, and its code -/
def sign (l : List Sg) (who mark : List UInt8) (h : Bool) : List Sg × Nat :=
  if who.length = 0 ∨ 6 < who.length then (l, 1)
  else if mark.length ≠ 32 then (l, 3)
  else match atRow (who, mark) l with
    | some n => (l.set n (who, mark, ((l[n]?.map (·.2.2)).getD false && h)), 0)
    | none => if 1024 ≤ l.length then (l, 2) else (l ++ [(who, mark, h)], 0)
def honest (l : List Sg) (who : List UInt8) : Bool := l.all fun x => !(decide (x.1 = who) && !x.2.2)

theorem sign_length (l : List Sg) (who mark : List UInt8) (h : Bool) : (sign l who mark h).1.length ≤ l.length + 1 := by
  unfold sign
  split
  · simp
  · split
    · simp
    · split
      · simp
      · split <;> simp

structure Tab (w : World) (mb : Nat) (v : Value) (l : List Sg) : Prop where
  blk : Blk w (mb + 1) 46 #[.map (some mb), v]
  map : MapIs w sk mb (smap l 0)
  own : w.ownsRow (mb + 2) 37 3 v l.length (srows l)
end Go.Proofs.Ytojpijpajdiiiaa
