/- Plain functions for layer 1 (nibble): paths of half bytes, in Lean, with no program in sight. No conditions. -/
import Derived.Lib.Hide
import GoSem.Op.String
import Derived.Sort.Walk0
namespace Go.Proofs.Ytfdnoeoilanohab
namespace Nib
def of (l : List UInt8) : List UInt8 := l.flatMap fun b => [b / 16, b % 16]
theorem of_snoc (l : List UInt8) (b : UInt8) : of (l ++ [b]) = of l ++ [b / 16, b % 16] := by simp [of]
theorem of_length (l : List UInt8) : (of l).length = 2 * l.length := by
  induction l with
  | nil => rfl
  | cons b l ih =>
    have : of (b :: l) = [b / 16, b % 16] ++ of l := by simp [of]
    rw [this, List.length_append, ih]; simp; omega
def fit (l : List UInt8) : Bool := l.all fun b => decide (b ≤ 15)
def joined : List UInt8 → List UInt8
  | a :: b :: l => (a * 16 + b) :: joined l
  | _ => []
def common : List UInt8 → List UInt8 → Nat
  | a :: x, b :: y => if a = b then common x y + 1 else 0
  | _, _ => 0
theorem common_le (x : List UInt8) : ∀ y, common x y ≤ x.length ∧ common x y ≤ y.length := by
  induction x with
  | nil => intro y; simp [common]
  | cons a x ih =>
    intro y
    cases y with
    | nil => simp [common]
    | cons b y =>
      unfold common
      split
      · have := ih y; simp; omega
      · simp
theorem common_take (x : List UInt8) : ∀ (y : List UInt8) (n : Nat), n ≤ common x y ↔ (n ≤ x.length ∧ n ≤ y.length ∧ x.take n = y.take n) := by
  induction x with
  | nil =>
    intro y n
    cases n with
    | zero => simp
    | succ n => simp [common]
  | cons a x ih =>
    intro y n
    cases y with
    | nil =>
      cases n with
      | zero => simp
      | succ n => simp [common]
    | cons b y =>
      cases n with
      | zero => simp
      | succ n =>
        unfold common
        by_cases hab : a = b
        · subst hab
          have := ih y n
          simp only [if_pos, List.length_cons, List.take_succ_cons, List.cons.injEq, true_and, Nat.add_le_add_iff_right]
          exact this
        · simp [hab]
/-- the loop of Common goes on just as long as it should -/
theorem common_step {x y : List UInt8} {n : Nat} (h : n ≤ common x y) (hx : n < x.length) (hy : n < y.length) : (n + 1 ≤ common x y) ↔ x[n] = y[n] := by
  rw [common_take] at h ⊢
  rw [List.take_succ_eq_append_getElem hx, List.take_succ_eq_append_getElem hy, h.2.2]
  constructor
  · intro e; simpa using List.append_cancel_left e.2.2
  · intro e; exact ⟨hx, hy, by rw [e]⟩

theorem joined_length (l : List UInt8) : (joined l).length = l.length / 2 := by
  fun_induction joined l with
  | case1 a b l ih => simp [ih]; omega
  | case2 l h =>
    match l, h with
    | [], _ => rfl
    | [a], _ => simp
    | a :: b :: l, h => exact absurd rfl (h a b l)
theorem joined_cons (a b : UInt8) (l : List UInt8) : joined (a :: b :: l) = (a * 16 + b) :: joined l := rfl
theorem joined_take (l : List UInt8) : ∀ i, (h : 2 * i + 1 < l.length) → joined (l.take (2 * (i + 1))) = joined (l.take (2 * i)) ++ [l[2 * i] * 16 + l[2 * i + 1]] := by
  fun_induction joined l with
  | case1 a b l ih =>
    intro i h
    cases i with
    | zero => simp [joined]
    | succ i =>
      have := ih i (by simp at h; omega)
      have e1 : 2 * (i + 1 + 1) = 2 * (i + 1) + 2 := by omega
      have e2 : 2 * (i + 1) = 2 * i + 2 := by omega
      rw [e1, List.take_succ_cons, List.take_succ_cons, joined_cons, this]
      simp only [e2, List.take_succ_cons, joined_cons, List.cons_append]
      simp [show 2 * i + 2 + 1 = (2 * i + 1) + 1 + 1 from by omega]
  | case2 l h =>
    intro i hl
    match l, h with
    | [], _ => simp at hl
    | [a], _ => simp at hl
    | a :: b :: l, h => exact absurd rfl (h a b l)

theorem joined_half (l : List UInt8) : joined (l.take (2 * (l.length / 2))) = joined l := by
  fun_induction joined l with
  | case1 a b l ih =>
    have e : 2 * ((a :: b :: l).length / 2) = 2 * (l.length / 2) + 1 + 1 := by simp; omega
    rw [e, List.take_succ_cons, List.take_succ_cons, joined_cons, ih]
  | case2 l h =>
    match l, h with
    | [], _ => rfl
    | [a], _ => simp [joined]
    | a :: b :: l, h => exact absurd rfl (h a b l)
theorem fit_take (l : List UInt8) (i : Nat) (h : i < l.length) : fit (l.take (i + 1)) = (fit (l.take i) && decide (l[i] ≤ 15)) := by
  unfold fit
  rw [List.take_succ_eq_append_getElem h, List.all_append]
  simp
theorem fit_false {l : List UInt8} {i : Nat} (h : i < l.length) (hb : ¬ l[i] ≤ 15) : fit l = false := by
  unfold fit
  rw [List.all_eq_false]
  exact ⟨l[i], List.getElem_mem h, by simpa using hb⟩
/-- a key's path's key, and its code -/
def key (l : List UInt8) : List UInt8 × Nat := if fit l then (if l.length % 2 = 1 then ([], 4) else (joined l, 0)) else ([], 3)
def side (x y : List UInt8) : Int :=
  if common x y = y.length then 1 else if common x y = x.length then 0 else if x.getD (common x y) 0 < y.getD (common x y) 0 then -1 else 1
/-- how two texts stand to one another, by how far they are the same -/
theorem blt_common (x : List UInt8) : ∀ y, Op.bytesLess x y = if common x y = y.length then false else if common x y = x.length then true else decide (x.getD (common x y) 0 < y.getD (common x y) 0) := by
  induction x with
  | nil =>
    intro y
    cases y with
    | nil => simp [Op.bytesLess, common]
    | cons b y => simp [Op.bytesLess, common]
  | cons a x ih =>
    intro y
    cases y with
    | nil => simp [Op.bytesLess, common]
    | cons b y =>
      unfold Op.bytesLess common
      by_cases hab : a = b
      · subst hab
        simp [ih y, UInt8.lt_irrefl]
      · simp [hab]
theorem side_eq (x y : List UInt8) : side x y = if Op.bytesLess x y = false then 1 else if x.length ≤ y.length ∧ y.take x.length = x then 0 else -1 := by
  have hcl := common_le x y
  rw [blt_common]
  unfold side
  by_cases h1 : common x y = y.length
  · simp [h1]
  · by_cases h2 : common x y = x.length
    · have h3 := (common_take x y x.length).1 (by omega)
      simp only [if_neg h1, if_pos h2]
      simp [show x.length ≤ y.length from h3.2.1, ← h3.2.2]
    · simp only [if_neg h1, if_neg h2]
      by_cases h4 : x.getD (common x y) 0 < y.getD (common x y) 0
      · rw [if_pos h4, decide_eq_true h4, if_neg (by simp), if_neg]
        rintro ⟨h5, h6⟩
        have := (common_take x y x.length).2 ⟨Nat.le_refl _, h5, by rw [h6]; simp⟩
        omega
      · rw [if_neg h4, decide_eq_false h4, if_pos rfl]
def packed (l : List UInt8) (leaf : Bool) : List UInt8 :=
  match l, l.length % 2 with
  | a :: r, 1 => (if leaf then 48 + a else 16 + a) :: joined r
  | _, _ => (if leaf then 32 else 0) :: joined l
def pack (l : List UInt8) (leaf : Bool) : List UInt8 × Nat := if fit l then (packed l leaf, 0) else ([], 3)
def unpack : List UInt8 → List UInt8 × Bool × Nat
  | [] => ([], false, 3)
  | b :: r => if 3 < b.toNat / 16 ∨ (b.toNat / 16 % 2 = 0 ∧ b.toNat % 16 ≠ 0) then ([], false, 3) else ((if b.toNat / 16 % 2 = 1 then (b % 16) :: of r else of r), decide (2 ≤ b.toNat / 16), 0)
theorem unpack_cons (b : UInt8) (r : List UInt8) : unpack (b :: r) = if 3 < b.toNat / 16 ∨ (b.toNat / 16 % 2 = 0 ∧ b.toNat % 16 ≠ 0) then ([], false, 3) else ((if b.toNat / 16 % 2 = 1 then (b % 16) :: of r else of r), decide (2 ≤ b.toNat / 16), 0) := rfl
theorem packed_odd {a : UInt8} {r : List UInt8} {leaf : Bool} (h : (a :: r).length % 2 = 1) : packed (a :: r) leaf = (if leaf then 48 + a else 16 + a) :: joined r := by
  unfold packed; rw [h]; rfl
theorem packed_even {l : List UInt8} {leaf : Bool} (h : l.length % 2 = 0) : packed l leaf = (if leaf then 32 else 0) :: joined l := by
  unfold packed; rw [h]; cases l <;> rfl
theorem fit_of (l : List UInt8) : fit (of l) = true := by
  unfold fit of
  rw [List.all_eq_true]
  intro x hx
  simp only [List.mem_flatMap, List.mem_cons, List.not_mem_nil, or_false] at hx
  obtain ⟨b, _, rfl | rfl⟩ := hx
  · have := b.toNat_lt
    simp [UInt8.le_iff_toNat_le]; omega
  · simp [UInt8.le_iff_toNat_le]; omega
theorem half_back (b : UInt8) : b / 16 * 16 + b % 16 = b := by
  apply UInt8.toNat_inj.1
  have := b.toNat_lt
  simp [UInt8.toNat_add, UInt8.toNat_mul]
  omega
theorem joined_of (l : List UInt8) : joined (of l) = l := by
  induction l with
  | nil => rfl
  | cons b l ih =>
    have e : of (b :: l) = b / 16 :: b % 16 :: of l := by simp [of]
    rw [e, joined_cons, ih, half_back]
theorem key_of (l : List UInt8) : key (of l) = (l, 0) := by
  unfold key
  rw [if_pos (fit_of l), if_neg (by rw [of_length]; omega), joined_of]
theorem pair_back (a b : UInt8) (ha : a ≤ 15) (hb : b ≤ 15) : (a * 16 + b) / 16 = a ∧ (a * 16 + b) % 16 = b := by
  rw [UInt8.le_iff_toNat_le] at ha hb
  simp at ha hb
  constructor <;> (apply UInt8.toNat_inj.1; simp [UInt8.toNat_add, UInt8.toNat_mul]; omega)
theorem of_joined (l : List UInt8) (hf : fit l = true) (he : l.length % 2 = 0) : of (joined l) = l := by
  fun_induction joined l with
  | case1 a b l ih =>
    unfold fit at hf
    simp only [List.all_cons, Bool.and_eq_true, decide_eq_true_eq] at hf
    obtain ⟨h1, h2⟩ := pair_back a b hf.1 hf.2.1
    have e : of ((a * 16 + b) :: joined l) = (a * 16 + b) / 16 :: (a * 16 + b) % 16 :: of (joined l) := by simp [of]
    rw [e, h1, h2, ih (by unfold fit; exact hf.2.2) (by simp at he; omega)]
  | case2 l h =>
    match l, h with
    | [], _ => rfl
    | [a], _ => simp at he
    | a :: b :: l, h => exact absurd rfl (h a b l)
theorem packed_length (l : List UInt8) (leaf : Bool) : (packed l leaf).length = l.length / 2 + 1 := by
  by_cases h : l.length % 2 = 1
  · cases l with
    | nil => simp at h
    | cons a r =>
      rw [packed_odd h, List.length_cons, joined_length]
      simp at h ⊢; omega
  · rw [packed_even (by omega), List.length_cons, joined_length]
theorem fit_cons {a : UInt8} {r : List UInt8} (h : fit (a :: r) = true) : a ≤ 15 ∧ fit r = true := by
  unfold fit at h ⊢
  simpa using h
/-- what was packed is told as it was -/
theorem unpack_packed (l : List UInt8) (leaf : Bool) (hf : fit l = true) : unpack (packed l leaf) = (l, leaf, 0) := by
  by_cases h : l.length % 2 = 1
  · cases l with
    | nil => simp at h
    | cons a r =>
      obtain ⟨ha, hr⟩ := fit_cons hf
      rw [packed_odd h, unpack_cons]
      rw [UInt8.le_iff_toNat_le] at ha
      simp at ha h
      have he : r.length % 2 = 0 := by omega
      cases leaf
      · have e : (16 + a).toNat = 16 + a.toNat := by rw [UInt8.toNat_add]; simp; omega
        have e2 : (16 + a) % 16 = a := by apply UInt8.toNat_inj.1; rw [UInt8.toNat_mod, e]; simp; omega
        simp only [Bool.false_eq_true, if_false, e, e2]
        rw [if_neg (by omega), if_pos (by omega), of_joined r hr he, decide_eq_false (by omega)]
      · have e : (48 + a).toNat = 48 + a.toNat := by rw [UInt8.toNat_add]; simp; omega
        have e2 : (48 + a) % 16 = a := by apply UInt8.toNat_inj.1; rw [UInt8.toNat_mod, e]; simp; omega
        simp only [if_true, e, e2]
        rw [if_neg (by omega), if_pos (by omega), of_joined r hr he, decide_eq_true (by omega)]
  · have he : l.length % 2 = 0 := by omega
    rw [packed_even he, unpack_cons, of_joined l hf he]
    cases leaf <;> simp
/-- what is told of bytes is packed as these -/
theorem pack_unpack (s : List UInt8) (h : (unpack s).2.2 = 0) : pack (unpack s).1 (unpack s).2.1 = (s, 0) := by
  cases s with
  | nil => simp [unpack] at h
  | cons b r =>
    have hlt := b.toNat_lt
    rw [unpack_cons] at h ⊢
    by_cases hc : 3 < b.toNat / 16 ∨ (b.toNat / 16 % 2 = 0 ∧ b.toNat % 16 ≠ 0)
    · rw [if_pos hc] at h; simp at h
    · rw [if_neg hc]
      have hb16 : (b % 16 : UInt8) ≤ 15 := by rw [UInt8.le_iff_toNat_le]; simp; omega
      by_cases ho : b.toNat / 16 % 2 = 1
      · simp only [if_pos ho]
        have hl : ((b % 16) :: of r).length % 2 = 1 := by rw [List.length_cons, of_length]; omega
        have hf : fit ((b % 16) :: of r) = true := by
          have := fit_of r
          unfold fit at this ⊢
          simp only [List.all_cons, this, Bool.and_true, decide_eq_true_eq]; exact hb16
        unfold pack
        rw [if_pos hf, packed_odd hl, joined_of]
        congr 2
        by_cases h2 : 2 ≤ b.toNat / 16
        · rw [decide_eq_true h2, if_pos rfl]
          apply UInt8.toNat_inj.1; simp [UInt8.toNat_add]; omega
        · rw [decide_eq_false h2, if_neg (by simp)]
          apply UInt8.toNat_inj.1; simp [UInt8.toNat_add]; omega
      · simp only [if_neg ho]
        unfold pack
        rw [if_pos (fit_of r), packed_even (by rw [of_length]; omega), joined_of]
        congr 2
        by_cases h2 : 2 ≤ b.toNat / 16
        · rw [decide_eq_true h2, if_pos rfl]
          apply UInt8.toNat_inj.1; simp; omega
        · rw [decide_eq_false h2, if_neg (by simp)]
          apply UInt8.toNat_inj.1; simp; omega
theorem unpack_length (s : List UInt8) : (unpack s).1.length ≤ 2 * s.length := by
  cases s with
  | nil => simp [unpack]
  | cons b r =>
    rw [unpack_cons]
    split
    · simp
    · split
      · simp [of_length]; omega
      · simp [of_length]; omega
end Nib
end Go.Proofs.Ytfdnoeoilanohab
