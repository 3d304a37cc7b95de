import Derived.Test.YtefcmigbdfeaiaaDoorK05
import Derived.BigRegion
import Derived.Lib.Hide
import GoSem.Op.String
import Derived.Sort.Walk0
set_option linter.unusedSimpArgs false
set_option linter.unusedVariables false
namespace Go.Proofs.YtefcmigbdfeaiaaDoor
set_option linter.unusedVariables false
open Go.RowKit Go.Instr
def beB (n : Nat) : List UInt8 := if h : n = 0 then [] else beB (n / 256) ++ [UInt8.ofNat n]
termination_by n
theorem beB_zero : beB 0 = [] := by rw [beB]; simp
theorem beB_pos {n : Nat} (h : 0 < n) : beB n = beB (n / 256) ++ [UInt8.ofNat n] := by
  rw [beB, dif_neg (by omega)]
def numW (n : Nat) : List UInt8 := UInt8.ofNat (beB n).length :: beB n
theorem rep_set (k : Nat) (x : UInt8) (D : List UInt8) : (List.replicate (k + 1) (0 : UInt8) ++ D).set k x = List.replicate k 0 ++ (x :: D) := by
  rw [List.replicate_succ', List.append_assoc, List.set_append_right _ _ (by simp)]
  simp
set_option maxRecDepth 100000 in
set_option maxHeartbeats 1000000 in
theorem num_loop (n : Nat) (hn : n < 9223372036854775808) (w0 : World) (gb : Nat) (hB : Blk w0 gb 184 (bvals (List.replicate 8 0)).toArray)
    (Q : Exit → Act → World → Prop)
    (hQ : ∀ (s0 s1 s2 s5 s6 s7 s8 s9 s10 s11 s12 s13 s14 s15 s16 s17 s18 s19 s20 s21 s22 s23 : Value) (k : Nat) (w2 : World), k + (beB n).length = 8 → Blk w2 gb 184 (bvals (List.replicate k 0 ++ beB n)).toArray → w0.grownBy w2 (some gb) → w2.heap.size = w0.heap.size → Q (.exit 0) { tmps := #[s0, s1, s2, .pointer (some ⟨gb, 0, none⟩), .int .i64 (k : Int), s5, s6, s7, s8, s9, s10, s11, s12, s13, s14, s15, s16, s17, s18, s19, s20, s21, s22, s23], defers := [] } w2)
    (s1 s2 s5 s6 s7 s8 s9 s10 s11 s12 s13 s14 s15 s16 s17 s18 s19 s20 s21 s22 s23 : Value) :
    Code.wp Tryd.prog (.loop (loopAt Tryd.f125 0)) Q { tmps := #[.int .i64 (n : Int), s1, s2, .pointer (some ⟨gb, 0, none⟩), .int .i64 8, s5, s6, s7, s8, s9, s10, s11, s12, s13, s14, s15, s16, s17, s18, s19, s20, s21, s22, s23], defers := [] } w0 := by
  have HQ := Lib.hid hQ
  clear hQ
  refine wp_loop_ghost_k (fun k a wr => ∀ Φ : Act → Prop, (∀ (s1 s2 s5 s6 s7 s8 s9 s10 s11 s12 s13 s14 s15 s16 s17 s18 s19 s20 s21 s22 s23 : Value) (m : Nat) (k1' : Nat) (D : List UInt8), (k = k1' ∧ k1' + D.length = 8 ∧ m < 256 ^ k1' ∧ m < 9223372036854775808 ∧ beB n = beB m ++ D ∧ Blk wr gb 184 (bvals (List.replicate k1' 0 ++ D)).toArray ∧ w0.grownBy wr (some gb) ∧ wr.heap.size = w0.heap.size) → Φ { tmps := #[.int .i64 (m : Int), s1, s2, .pointer (some ⟨gb, 0, none⟩), .int .i64 (k1' : Int), s5, s6, s7, s8, s9, s10, s11, s12, s13, s14, s15, s16, s17, s18, s19, s20, s21, s22, s23], defers := [] }) → Φ a) (8) ?_ ?_
  · refine fun Φ hΦ => hΦ _ _ _ _ _ _ _ _ _ _ _ _ _ _ _ _ _ _ _ _ _ (n) (8) ([]) ?_
    exact ⟨rfl, rfl, by omega, hn, by simp, by simpa using hB, World.grownBy.refl _ _, rfl⟩
  · intro k1 a1 wr1 hI1 J1 K1 hJ1 hK1
    refine hI1 (fun a => Code.wp _ _ _ a _) ?_
    clear hI1 a1
    intro s0 s1 s2 s3 s4 s5 s6 s7 s8 s9 s10 s11 s12 s13 s14 s15 s16 s17 s18 s19 s20 m k2 D hrel
    show Code.wp _ _ _ _ _
    conv => arg 2; whnf
    obtain ⟨h1, h2, h3, h4, h5, hw, hg, hs⟩ := hrel
    by_cases hm : 0 < m
    · obtain ⟨k, rfl⟩ : ∃ k, k2 = k + 1 := ⟨k2 - 1, by
        rcases k2 with _ | k
        · simp at h3; omega
        · rfl⟩
      have hm1 : (0 : Int) < m := by omega
      have hm2 : (m : Int) ≤ 9223372036854775807 := by omega
      have hk : k < 8 := by omega
      have hk1 : (k : Int) < 8 := by omega
      have c0 : wr1.cell? ⟨gb, k, none⟩ = some (.int .u8 (((List.replicate (k + 1) 0 ++ D).getD k 0).toNat : Int)) := (hw.cell _).trans (bvals_at (by simp; omega))
      have f0 : wr1.frozen? ⟨gb, k, none⟩ = false := hw.frozen _
      have e8 := u8_wrap_nat m
      have HE := Lib.hid (beB_pos hm)
      have H := Lib.hid (And.intro h1 (And.intro h2 (And.intro h3 (And.intro h4 (And.intro h5 (And.intro hw (And.intro hg hs)))))))
      generalize (List.replicate (k + 1) 0 ++ D).getD k 0 = y at *
      clear h1 h2 h3 h4 h5 hw hg hs
      go_wp2
      refine Handed.intro (k) ?_ (hJ1 _ _ _ (fun Φ hΦ => hΦ _ _ _ _ _ _ _ _ _ _ _ _ _ _ _ _ _ _ _ _ _ (m / 256) (k) (UInt8.ofNat m :: D) ?_))
      · have := H.out.1
        show k < k1
        omega
      · obtain ⟨h1, h2, h3, h4, h5, hw, hg, hs⟩ := H.out
        have hw2 := hw.set_ k (.int .u8 ((UInt8.ofNat m).toNat : Int))
        rw [bvals_set, rep_set] at hw2
        refine ⟨rfl, by rw [List.length_cons]; omega, ?_, by omega, ?_, hw2, grown_set0 hg _ _, by simp [hs]⟩
        · rw [Nat.pow_succ] at h3
          exact Nat.div_lt_of_lt_mul (by rw [Nat.mul_comm]; exact h3)
        · rw [h5, HE.out, List.append_assoc]
          rfl
    · have e : m = 0 := by omega
      subst e
      rw [beB_zero, List.nil_append] at h5
      rw [← h5] at hw h2
      have H := Lib.hid (And.intro h2 (And.intro hw (And.intro hg hs)))
      clear h1 h2 h3 h4 h5 hw hg hs
      go_wp2
      exact HQ.out _ _ _ _ _ _ _ _ _ _ _ _ _ _ _ _ _ _ _ _ _ _ _ _ H.out.1 H.out.2.1 H.out.2.2.1 H.out.2.2.2
end Go.Proofs.YtefcmigbdfeaiaaDoor

namespace Go.Proofs.YtefcmigbdfeaiaaDoor
set_option linter.unusedVariables false
open Go.RowKit Go.Instr
attribute [local go_sem] ByteArray.mk_append_mk
theorem zeros8 : (bvals (List.replicate 8 0)).toArray = #[.int .u8 0, .int .u8 0, .int .u8 0, .int .u8 0, .int .u8 0, .int .u8 0, .int .u8 0, .int .u8 0] := rfl
set_option maxRecDepth 100000 in
set_option maxHeartbeats 1000000 in
theorem code_num (n : Nat) (hn : n < 9223372036854775808) (w : World) :
    Calls Tryd.prog 125 #[.int .i64 (n : Int)] w fun e w' => e = .returned (.string ⟨(numW n).toArray⟩) ∧ Below w.heap.size w w' := by
  have h8 := Lib.hid zeros8
  have HS : Hid (numW n = UInt8.ofNat (beB n).length :: beB n) := Lib.hid rfl
  generalize numW n = S at *
  go_enter Tryd.func125, Tryd.ntmps125
  go_wp2
  rw [← h8.out]
  have F0 : Hid (Blk (w.alloc (.cells (bvals (List.replicate 8 0)).toArray 184)) w.heap.size 184 (bvals (List.replicate 8 0)).toArray ∧ Below w.heap.size w (w.alloc (.cells (bvals (List.replicate 8 0)).toArray 184))) := Lib.hid ⟨Blk.new _ _ _, by go_grown⟩
  generalize w.alloc (.cells (bvals (List.replicate 8 0)).toArray 184) = W0 at F0 ⊢
  refine num_loop n hn W0 w.heap.size F0.out.1 _ ?_ _ _ _ _ _ _ _ _ _ _ _ _ _ _ _ _ _ _ _ _ _
  intro s0 s1 s2 s5 s6 s7 s8 s9 s10 s11 s12 s13 s14 s15 s16 s17 s18 s19 s20 s21 s22 s23 k w2 hk hb2 hg2 hs2
  have B2 : Below w.heap.size w w2 := F0.out.2.grown hg2 F0.out.2.size (by intro j e; injection e with e; omega)
  generalize beB n = D at *
  have hlt := hb2.lt
  have hk8 : k ≤ 8 := by omega
  have cv1 := conv1 w2.drew ((8 : Int) - k) (by omega) (by omega)
  have cv1' := conv1 w2 ((8 : Int) - k) (by omega) (by omega)
  rw [show UInt8.ofNat ((8 : Int) - k).toNat = UInt8.ofNat D.length by congr 1; omega] at cv1 cv1'
  have ek : (8 : Int) - k = D.length := by omega
  have cvD : ∀ w' A, (A = some (if 8 = k then (⟨w.heap.size, 0, none⟩ : Addr) else ⟨w.heap.size, k, none⟩)) → w'.heap[w.heap.size]? = w2.heap[w.heap.size]? → (convert 127 9 (.slice A (8 - k) (8 - k))).run Tryd.prog w' = .ok (.string ⟨D.toArray⟩) w' := by
    intro w' A hA hw'
    subst hA
    have hb3 : Blk w' w.heap.size 184 (bvals (List.replicate k 0 ++ D)).toArray := hw'.trans hb2
    refine conv_reads w' w'.heap.size _ (8 - k) (8 - k) D ⟨by rw [bvals_length]; omega, fun h0 => ?_⟩
    rw [if_neg (by omega)]
    refine ⟨_, rfl, hb3.lt, fun j v hv => ?_⟩
    rw [Addr.add_mid, hb3.cell]
    rw [bvals_append]
    have : (bvals (List.replicate k (0 : UInt8))).length = k := by rw [bvals_length, List.length_replicate]
    simp only [List.getElem?_toArray]
    rw [List.getElem?_append_right (by omega), this, Nat.add_sub_cancel_left]
    exact hv
  have K2 := Lib.hid (And.intro B2 (And.intro hlt cvD))
  clear hb2 hg2 hs2 F0 hlt cvD
  have kk1 : (0 : Int) ≤ 8 - k := by omega
  have kk2 : (8 : Int) - k < 256 := by omega
  have kk3 : (k : Int) ≤ 8 := by omega
  have E1 := conv1d w2 ((8 : Int) - k) kk1 kk2
  rw [show UInt8.ofNat ((8 : Int) - k).toNat = UInt8.ofNat D.length by congr 1; omega] at E1
  clear cv1 cv1' ek
  by_cases hk88 : k = 8
  · subst hk88
    have hD : D = [] := List.eq_nil_of_length_eq_zero (by omega)
    subst hD
    have z1 : IntKind.i64.wrap 0 = 0 := rfl
    have z2 : IntKind.u8.wrap 0 = 0 := rfl
    have z3 : (8 : Int) - (8 : Nat) = 0 := rfl
    have E1' := conv1d w2 0 (by omega) (by omega)
    have E2 := K2.out.2.2 w2.drew (some ⟨w.heap.size, 0, none⟩) (by simp) rfl
    have E3 := K2.out.2.2 (w2.alloc (.cells #[.int .u8 0] 5)).drew (some ⟨w.heap.size, 0, none⟩) (by simp) (Below.heap_alloc _ _ _ K2.out.2.1)
    rw [show (8 - 8 : Nat) = 0 from rfl] at E2 E3
    clear E1
    go_wp2
    go_region
    rw [show (#[0] : Array UInt8) = S.toArray from congrArg List.toArray HS.out.symm]
    go_wp2
    go_ret
    refine ⟨rfl, ?_⟩
    exact (K2.out.1.alloc K2.out.1.size _).drew
  · have E2 := K2.out.2.2 w2.drew (some ⟨w.heap.size, k, none⟩) (by rw [if_neg (fun e => hk88 e.symm)]) rfl
    have E3 := K2.out.2.2 (w2.alloc (.cells #[.int .u8 ((8 : Int) - k)] 5)).drew (some ⟨w.heap.size, k, none⟩) (by rw [if_neg (fun e => hk88 e.symm)]) (Below.heap_alloc _ _ _ K2.out.2.1)
    have kk4 : (k : Int) < 8 := by omega
    have kk5 : k < 8 := by omega
    go_wp2
    go_region
    rw [← HS.out]
    go_wp2
    go_ret
    refine ⟨rfl, ?_⟩
    exact (K2.out.1.alloc K2.out.1.size _).drew
end Go.Proofs.YtefcmigbdfeaiaaDoor

namespace Go.Proofs.YtefcmigbdfeaiaaDoor
set_option linter.unusedVariables false
open Go.RowKit Go.Instr
attribute [local go_sem] ByteArray.mk_append_mk
theorem beB_len : ∀ (j n : Nat), n < 256 ^ j → (beB n).length ≤ j
  | 0, n, h => by
    have : n = 0 := by simpa using h
    subst this
    rw [beB_zero]; simp
  | j + 1, n, h => by
    rcases Nat.eq_zero_or_pos n with h0 | h0
    · subst h0; rw [beB_zero]; simp
    · rw [beB_pos h0, List.length_append, List.length_cons, List.length_nil]
      have := beB_len j (n / 256) (by rw [Nat.pow_succ] at h; exact Nat.div_lt_of_lt_mul (by rw [Nat.mul_comm]; exact h))
      omega
theorem numW_len (n : Nat) (hn : n < 9223372036854775808) : (numW n).length ≤ 9 := by
  have := beB_len 8 n (by omega)
  unfold numW
  rw [List.length_cons]
  omega
def textW (s : List UInt8) : List UInt8 := numW s.length ++ s
theorem code_Text (s : List UInt8) (hs : s.length ≤ 9223372036854775000) (w : World) :
    Calls Tryd.prog 99 #[.string ⟨s.toArray⟩] w fun e w' => e = .returned (.string ⟨(textW s).toArray⟩) ∧ Below w.heap.size w w' := by
  have HP : Hid (∀ w', Below w.heap.size w w' → (fun e w' => e = Ending.returned (.string ⟨(textW s).toArray⟩) ∧ Below w.heap.size w w') (Ending.returned (.string ⟨(numW s.length ++ s).toArray⟩)) w') := Lib.hid (fun w' hb => ⟨rfl, hb⟩)
  generalize (fun e w' => e = Ending.returned (.string ⟨(textW s).toArray⟩) ∧ Below w.heap.size w w') = P at HP ⊢
  go_enter Tryd.func99, Tryd.ntmps99
  go_wp2_with fail
  refine (code_num s.length (by omega) _).mono ?_
  rintro e w1 ⟨rfl, hb⟩
  have hl := numW_len s.length (by omega)
  generalize numW s.length = N at *
  have hsum : N.length + s.length ≤ 9223372036854775807 := by omega
  go_wp2
  exact HP.out _ hb
end Go.Proofs.YtefcmigbdfeaiaaDoor

namespace Go.Proofs.YtefcmigbdfeaiaaDoor
namespace Nib
def of (l : List UInt8) : List UInt8 := l.flatMap fun b => [b / 16, b % 16]
theorem of_snoc (l : List UInt8) (b : UInt8) : of (l ++ [b]) = of l ++ [b / 16, b % 16] := by simp [of]
theorem of_length (l : List UInt8) : (of l).length = 2 * l.length := by
  induction l with
  | nil => rfl
  | cons b l ih =>
    have : of (b :: l) = [b / 16, b % 16] ++ of l := by simp [of]
    rw [this, List.length_append, ih]; simp; omega
def fit (l : List UInt8) : Bool := l.all fun b => decide (b ≤ 15)
def joined : List UInt8 → List UInt8
  | a :: b :: l => (a * 16 + b) :: joined l
  | _ => []
def common : List UInt8 → List UInt8 → Nat
  | a :: x, b :: y => if a = b then common x y + 1 else 0
  | _, _ => 0
theorem common_le (x : List UInt8) : ∀ y, common x y ≤ x.length ∧ common x y ≤ y.length := by
  induction x with
  | nil => intro y; simp [common]
  | cons a x ih =>
    intro y
    cases y with
    | nil => simp [common]
    | cons b y =>
      unfold common
      split
      · have := ih y; simp; omega
      · simp
theorem common_take (x : List UInt8) : ∀ (y : List UInt8) (n : Nat), n ≤ common x y ↔ (n ≤ x.length ∧ n ≤ y.length ∧ x.take n = y.take n) := by
  induction x with
  | nil =>
    intro y n
    cases n with
    | zero => simp
    | succ n => simp [common]
  | cons a x ih =>
    intro y n
    cases y with
    | nil =>
      cases n with
      | zero => simp
      | succ n => simp [common]
    | cons b y =>
      cases n with
      | zero => simp
      | succ n =>
        unfold common
        by_cases hab : a = b
        · subst hab
          have := ih y n
          simp only [if_pos, List.length_cons, List.take_succ_cons, List.cons.injEq, true_and, Nat.add_le_add_iff_right]
          exact this
        · simp [hab]
theorem common_step {x y : List UInt8} {n : Nat} (h : n ≤ common x y) (hx : n < x.length) (hy : n < y.length) : (n + 1 ≤ common x y) ↔ x[n] = y[n] := by
  rw [common_take] at h ⊢
  rw [List.take_succ_eq_append_getElem hx, List.take_succ_eq_append_getElem hy, h.2.2]
  constructor
  · intro e; simpa using List.append_cancel_left e.2.2
  · intro e; exact ⟨hx, hy, by rw [e]⟩
theorem joined_length (l : List UInt8) : (joined l).length = l.length / 2 := by
  fun_induction joined l with
  | case1 a b l ih => simp [ih]; omega
  | case2 l h =>
    match l, h with
    | [], _ => rfl
    | [a], _ => simp
    | a :: b :: l, h => exact absurd rfl (h a b l)
theorem joined_cons (a b : UInt8) (l : List UInt8) : joined (a :: b :: l) = (a * 16 + b) :: joined l := rfl
theorem joined_take (l : List UInt8) : ∀ i, (h : 2 * i + 1 < l.length) → joined (l.take (2 * (i + 1))) = joined (l.take (2 * i)) ++ [l[2 * i] * 16 + l[2 * i + 1]] := by
  fun_induction joined l with
  | case1 a b l ih =>
    intro i h
    cases i with
    | zero => simp [joined]
    | succ i =>
      have := ih i (by simp at h; omega)
      have e1 : 2 * (i + 1 + 1) = 2 * (i + 1) + 2 := by omega
      have e2 : 2 * (i + 1) = 2 * i + 2 := by omega
      rw [e1, List.take_succ_cons, List.take_succ_cons, joined_cons, this]
      simp only [e2, List.take_succ_cons, joined_cons, List.cons_append]
      simp [show 2 * i + 2 + 1 = (2 * i + 1) + 1 + 1 from by omega]
  | case2 l h =>
    intro i hl
    match l, h with
    | [], _ => simp at hl
    | [a], _ => simp at hl
    | a :: b :: l, h => exact absurd rfl (h a b l)
theorem joined_half (l : List UInt8) : joined (l.take (2 * (l.length / 2))) = joined l := by
  fun_induction joined l with
  | case1 a b l ih =>
    have e : 2 * ((a :: b :: l).length / 2) = 2 * (l.length / 2) + 1 + 1 := by simp; omega
    rw [e, List.take_succ_cons, List.take_succ_cons, joined_cons, ih]
  | case2 l h =>
    match l, h with
    | [], _ => rfl
    | [a], _ => simp [joined]
    | a :: b :: l, h => exact absurd rfl (h a b l)
theorem fit_take (l : List UInt8) (i : Nat) (h : i < l.length) : fit (l.take (i + 1)) = (fit (l.take i) && decide (l[i] ≤ 15)) := by
  unfold fit
  rw [List.take_succ_eq_append_getElem h, List.all_append]
  simp
theorem fit_false {l : List UInt8} {i : Nat} (h : i < l.length) (hb : ¬ l[i] ≤ 15) : fit l = false := by
  unfold fit
  rw [List.all_eq_false]
  exact ⟨l[i], List.getElem_mem h, by simpa using hb⟩
def key (l : List UInt8) : List UInt8 × Nat := if fit l then (if l.length % 2 = 1 then ([], 4) else (joined l, 0)) else ([], 3)
def packed (l : List UInt8) (leaf : Bool) : List UInt8 :=
  match l, l.length % 2 with
  | a :: r, 1 => (if leaf then 48 + a else 16 + a) :: joined r
  | _, _ => (if leaf then 32 else 0) :: joined l
def pack (l : List UInt8) (leaf : Bool) : List UInt8 × Nat := if fit l then (packed l leaf, 0) else ([], 3)
def unpack : List UInt8 → List UInt8 × Bool × Nat
  | [] => ([], false, 3)
  | b :: r => if 3 < b.toNat / 16 ∨ (b.toNat / 16 % 2 = 0 ∧ b.toNat % 16 ≠ 0) then ([], false, 3) else ((if b.toNat / 16 % 2 = 1 then (b % 16) :: of r else of r), decide (2 ≤ b.toNat / 16), 0)
theorem unpack_cons (b : UInt8) (r : List UInt8) : unpack (b :: r) = if 3 < b.toNat / 16 ∨ (b.toNat / 16 % 2 = 0 ∧ b.toNat % 16 ≠ 0) then ([], false, 3) else ((if b.toNat / 16 % 2 = 1 then (b % 16) :: of r else of r), decide (2 ≤ b.toNat / 16), 0) := rfl
theorem packed_odd {a : UInt8} {r : List UInt8} {leaf : Bool} (h : (a :: r).length % 2 = 1) : packed (a :: r) leaf = (if leaf then 48 + a else 16 + a) :: joined r := by
  unfold packed; rw [h]; rfl
theorem packed_even {l : List UInt8} {leaf : Bool} (h : l.length % 2 = 0) : packed l leaf = (if leaf then 32 else 0) :: joined l := by
  unfold packed; rw [h]; cases l <;> rfl
theorem fit_of (l : List UInt8) : fit (of l) = true := by
  unfold fit of
  rw [List.all_eq_true]
  intro x hx
  simp only [List.mem_flatMap, List.mem_cons, List.not_mem_nil, or_false] at hx
  obtain ⟨b, _, rfl | rfl⟩ := hx
  · have := b.toNat_lt
    simp [UInt8.le_iff_toNat_le]; omega
  · simp [UInt8.le_iff_toNat_le]; omega
theorem half_back (b : UInt8) : b / 16 * 16 + b % 16 = b := by
  apply UInt8.toNat_inj.1
  have := b.toNat_lt
  simp [UInt8.toNat_add, UInt8.toNat_mul]
  omega
theorem joined_of (l : List UInt8) : joined (of l) = l := by
  induction l with
  | nil => rfl
  | cons b l ih =>
    have e : of (b :: l) = b / 16 :: b % 16 :: of l := by simp [of]
    rw [e, joined_cons, ih, half_back]
theorem pair_back (a b : UInt8) (ha : a ≤ 15) (hb : b ≤ 15) : (a * 16 + b) / 16 = a ∧ (a * 16 + b) % 16 = b := by
  rw [UInt8.le_iff_toNat_le] at ha hb
  simp at ha hb
  constructor <;> (apply UInt8.toNat_inj.1; simp [UInt8.toNat_add, UInt8.toNat_mul]; omega)
theorem of_joined (l : List UInt8) (hf : fit l = true) (he : l.length % 2 = 0) : of (joined l) = l := by
  fun_induction joined l with
  | case1 a b l ih =>
    unfold fit at hf
    simp only [List.all_cons, Bool.and_eq_true, decide_eq_true_eq] at hf
    obtain ⟨h1, h2⟩ := pair_back a b hf.1 hf.2.1
    have e : of ((a * 16 + b) :: joined l) = (a * 16 + b) / 16 :: (a * 16 + b) % 16 :: of (joined l) := by simp [of]
    rw [e, h1, h2, ih (by unfold fit; exact hf.2.2) (by simp at he; omega)]
  | case2 l h =>
    match l, h with
    | [], _ => rfl
    | [a], _ => simp at he
    | a :: b :: l, h => exact absurd rfl (h a b l)
theorem packed_length (l : List UInt8) (leaf : Bool) : (packed l leaf).length = l.length / 2 + 1 := by
  by_cases h : l.length % 2 = 1
  · cases l with
    | nil => simp at h
    | cons a r =>
      rw [packed_odd h, List.length_cons, joined_length]
      simp at h ⊢; omega
  · rw [packed_even (by omega), List.length_cons, joined_length]
theorem fit_cons {a : UInt8} {r : List UInt8} (h : fit (a :: r) = true) : a ≤ 15 ∧ fit r = true := by
  unfold fit at h ⊢
  simpa using h
theorem unpack_packed (l : List UInt8) (leaf : Bool) (hf : fit l = true) : unpack (packed l leaf) = (l, leaf, 0) := by
  by_cases h : l.length % 2 = 1
  · cases l with
    | nil => simp at h
    | cons a r =>
      obtain ⟨ha, hr⟩ := fit_cons hf
      rw [packed_odd h, unpack_cons]
      rw [UInt8.le_iff_toNat_le] at ha
      simp at ha h
      have he : r.length % 2 = 0 := by omega
      cases leaf
      · have e : (16 + a).toNat = 16 + a.toNat := by rw [UInt8.toNat_add]; simp; omega
        have e2 : (16 + a) % 16 = a := by apply UInt8.toNat_inj.1; rw [UInt8.toNat_mod, e]; simp; omega
        simp only [Bool.false_eq_true, if_false, e, e2]
        rw [if_neg (by omega), if_pos (by omega), of_joined r hr he, decide_eq_false (by omega)]
      · have e : (48 + a).toNat = 48 + a.toNat := by rw [UInt8.toNat_add]; simp; omega
        have e2 : (48 + a) % 16 = a := by apply UInt8.toNat_inj.1; rw [UInt8.toNat_mod, e]; simp; omega
        simp only [if_true, e, e2]
        rw [if_neg (by omega), if_pos (by omega), of_joined r hr he, decide_eq_true (by omega)]
  · have he : l.length % 2 = 0 := by omega
    rw [packed_even he, unpack_cons, of_joined l hf he]
    cases leaf <;> simp
theorem pack_unpack (s : List UInt8) (h : (unpack s).2.2 = 0) : pack (unpack s).1 (unpack s).2.1 = (s, 0) := by
  cases s with
  | nil => simp [unpack] at h
  | cons b r =>
    have hlt := b.toNat_lt
    rw [unpack_cons] at h ⊢
    by_cases hc : 3 < b.toNat / 16 ∨ (b.toNat / 16 % 2 = 0 ∧ b.toNat % 16 ≠ 0)
    · rw [if_pos hc] at h; simp at h
    · rw [if_neg hc]
      have hb16 : (b % 16 : UInt8) ≤ 15 := by rw [UInt8.le_iff_toNat_le]; simp; omega
      by_cases ho : b.toNat / 16 % 2 = 1
      · simp only [if_pos ho]
        have hl : ((b % 16) :: of r).length % 2 = 1 := by rw [List.length_cons, of_length]; omega
        have hf : fit ((b % 16) :: of r) = true := by
          have := fit_of r
          unfold fit at this ⊢
          simp only [List.all_cons, this, Bool.and_true, decide_eq_true_eq]; exact hb16
        unfold pack
        rw [if_pos hf, packed_odd hl, joined_of]
        congr 2
        by_cases h2 : 2 ≤ b.toNat / 16
        · rw [decide_eq_true h2, if_pos rfl]
          apply UInt8.toNat_inj.1; simp [UInt8.toNat_add]; omega
        · rw [decide_eq_false h2, if_neg (by simp)]
          apply UInt8.toNat_inj.1; simp [UInt8.toNat_add]; omega
      · simp only [if_neg ho]
        unfold pack
        rw [if_pos (fit_of r), packed_even (by rw [of_length]; omega), joined_of]
        congr 2
        by_cases h2 : 2 ≤ b.toNat / 16
        · rw [decide_eq_true h2, if_pos rfl]
          apply UInt8.toNat_inj.1; simp; omega
        · rw [decide_eq_false h2, if_neg (by simp)]
          apply UInt8.toNat_inj.1; simp; omega
theorem unpack_length (s : List UInt8) : (unpack s).1.length ≤ 2 * s.length := by
  cases s with
  | nil => simp [unpack]
  | cons b r =>
    rw [unpack_cons]
    split
    · simp
    · split
      · simp [of_length]; omega
      · simp [of_length]; omega
theorem of_cons (b : UInt8) (l : List UInt8) : of (b :: l) = b / 16 :: b % 16 :: of l := by simp [of]
theorem of_inj {a b : List UInt8} (h : of a = of b) : a = b := by
  have := congrArg joined h
  rwa [joined_of, joined_of] at this
theorem common_symm (a : List UInt8) : ∀ b, common a b = common b a := by
  induction a with
  | nil => intro b; cases b <;> simp [common]
  | cons x a ih =>
    intro b
    cases b with
    | nil => simp [common]
    | cons y b =>
      unfold common
      by_cases h : x = y
      · subst h; simp [ih b]
      · simp [h, Ne.symm h]
theorem blt_of (a : List UInt8) : ∀ b, Op.bytesLess (of a) (of b) = Op.bytesLess a b := by
  induction a with
  | nil =>
    intro b
    cases b with
    | nil => rfl
    | cons y b => simp [of, Op.bytesLess]
  | cons x a ih =>
    intro b
    cases b with
    | nil => simp [of, Op.bytesLess]
    | cons y b =>
      rw [of_cons, of_cons]
      simp only [Op.bytesLess, ih b]
      by_cases h : x = y
      · subst h; simp [UInt8.lt_irrefl]
      · have hx := x.toNat_lt
        have hy := y.toNat_lt
        have hne : x.toNat ≠ y.toNat := fun e => h (UInt8.toNat_inj.1 e)
        rw [Bool.eq_iff_iff]
        simp only [Bool.or_eq_true, Bool.and_eq_true, decide_eq_true_eq, beq_iff_eq, UInt8.lt_iff_toNat_lt, ← UInt8.toNat_inj, UInt8.toNat_div, UInt8.toNat_mod]
        simp only [show (16 : UInt8).toNat = 16 from rfl]
        constructor
        · rintro (h1 | ⟨h1, h2 | ⟨h2, _⟩⟩)
          · left; omega
          · left; omega
          · exfalso; omega
        · rintro (h1 | ⟨h1, _⟩)
          · rcases Nat.lt_or_ge (x.toNat / 16) (y.toNat / 16) with h2 | h2
            · exact .inl h2
            · exact .inr ⟨by omega, .inl (by omega)⟩
          · exact absurd h1 hne
theorem blt_irrefl (x : List UInt8) : Op.bytesLess x x = false := by
  induction x with
  | nil => rfl
  | cons a x ih => simp [Op.bytesLess, UInt8.lt_irrefl, ih]
end Nib
end Go.Proofs.YtefcmigbdfeaiaaDoor
