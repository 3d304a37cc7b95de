import Derived.Test.YtcjafcbekegmlaaDoorJ06
import Derived.Test.YtcjafcbekegmlaaDoorJ01
set_option linter.unusedSimpArgs false
set_option linter.unusedVariables false
namespace Go.Proofs.YtcjafcbekegmlaaDoor
set_option linter.unusedVariables false
open Go.RowKit Go.Instr
attribute [local go_sem] ByteArray.mk_append_mk
theorem beB_len : ∀ (j n : Nat), n < 256 ^ j → (beB n).length ≤ j
  | 0, n, h => by
    have : n = 0 := by simpa using h
    subst this
    rw [beB_zero]; simp
  | j + 1, n, h => by
    rcases Nat.eq_zero_or_pos n with h0 | h0
    · subst h0; rw [beB_zero]; simp
    · rw [beB_pos h0, List.length_append, List.length_cons, List.length_nil]
      have := beB_len j (n / 256) (by rw [Nat.pow_succ] at h; exact Nat.div_lt_of_lt_mul (by rw [Nat.mul_comm]; exact h))
      omega
theorem numW_len (n : Nat) (hn : n < 9223372036854775808) : (numW n).length ≤ 9 := by
  have := beB_len 8 n (by omega)
  unfold numW
  rw [List.length_cons]
  omega
def textW (s : List UInt8) : List UInt8 := numW s.length ++ s
theorem code_Text (s : List UInt8) (hs : s.length ≤ 9223372036854775000) (w : World) :
    Calls Tryd.prog 92 #[.string ⟨s.toArray⟩] w fun e w' => e = .returned (.string ⟨(textW s).toArray⟩) ∧ Below w.heap.size w w' := by
  have HP : Hid (∀ w', Below w.heap.size w w' → (fun e w' => e = Ending.returned (.string ⟨(textW s).toArray⟩) ∧ Below w.heap.size w w') (Ending.returned (.string ⟨(numW s.length ++ s).toArray⟩)) w') := Lib.hid (fun w' hb => ⟨rfl, hb⟩)
  generalize (fun e w' => e = Ending.returned (.string ⟨(textW s).toArray⟩) ∧ Below w.heap.size w w') = P at HP ⊢
  go_enter Tryd.func92, Tryd.ntmps92
  go_wp2_with fail
  refine (code_num s.length (by omega) _).mono ?_
  rintro e w1 ⟨rfl, hb⟩
  have hl := numW_len s.length (by omega)
  generalize numW s.length = N at *
  have hsum : N.length + s.length ≤ 9223372036854775807 := by omega
  go_wp2
  exact HP.out _ hb
end Go.Proofs.YtcjafcbekegmlaaDoor

namespace Go.Proofs.YtcjafcbekegmlaaDoor
set_option linter.unusedVariables false
theorem snoc_ind {P : List UInt8 → Prop} (h0 : P []) (h1 : ∀ c x, P c → P (c ++ [x])) (l : List UInt8) : P l := by
  have : ∀ m : List UInt8, P m.reverse := by
    intro m
    induction m with
    | nil => exact h0
    | cons x m ih => rw [List.reverse_cons]; exact h1 _ _ ih
  have h := this l.reverse
  rwa [List.reverse_reverse] at h
theorem snoc_cases (l : List UInt8) : l = [] ∨ ∃ c x, l = c ++ [x] := by
  induction l using snoc_ind with
  | h0 => exact .inl rfl
  | h1 c x _ => exact .inr ⟨c, x, rfl⟩
def valBE (b : List UInt8) : Nat := b.foldl (fun n x => n * 256 + x.toNat) 0
theorem valBE_snoc (b : List UInt8) (x : UInt8) : valBE (b ++ [x]) = valBE b * 256 + x.toNat := by simp [valBE]
theorem valBE_lt (b : List UInt8) : valBE b < 256 ^ b.length := by
  induction b using snoc_ind with
  | h0 => simp [valBE]
  | h1 c x this =>
    have hx := x.toNat_lt
    rw [valBE_snoc, List.length_append, List.length_singleton, Nat.pow_succ]
    omega
theorem valBE_beB (n : Nat) : valBE (beB n) = n := by
  rcases Nat.eq_zero_or_pos n with h | h
  · subst h; rw [beB_zero]; rfl
  · rw [beB_pos h, valBE_snoc, valBE_beB (n / 256)]
    simp
    omega
termination_by n
decreasing_by omega
theorem beB_head (n : Nat) : ∀ x r, beB n = x :: r → x ≠ 0 := by
  intro x r e
  rcases Nat.eq_zero_or_pos n with h | h
  · subst h; rw [beB_zero] at e; cases e
  · rw [beB_pos h] at e
    cases hb : beB (n / 256) with
    | nil =>
      rw [hb] at e
      simp at e
      have hz : n / 256 = 0 := by have := valBE_beB (n / 256); rw [hb] at this; simp [valBE] at this; omega
      intro e0
      rw [← e.1] at e0
      have := congrArg UInt8.toNat e0
      simp at this
      omega
    | cons y t =>
      rw [hb] at e
      simp at e
      rw [← e.1]
      exact beB_head (n / 256) y t hb
termination_by n
decreasing_by omega
theorem beB_valBE (b : List UInt8) : (∀ x r, b = x :: r → x ≠ 0) → beB (valBE b) = b := by
  induction b using snoc_ind with
  | h0 => intro _; exact beB_zero
  | h1 c x ih0 =>
    intro h
    have hx := x.toNat_lt
    rw [valBE_snoc]
    cases c with
    | nil =>
      have hx0 : x ≠ 0 := h x [] rfl
      have hp : 0 < x.toNat := by
        rcases Nat.eq_zero_or_pos x.toNat with h0 | h0
        · exact absurd (UInt8.toNat_inj.1 h0) hx0
        · exact h0
      rw [show valBE [] * 256 + x.toNat = x.toNat by simp [valBE], beB_pos hp, show x.toNat / 256 = 0 by omega, beB_zero]
      simp
    | cons y t =>
      have hy : y ≠ 0 := h y (t ++ [x]) rfl
      have ih := ih0 (fun a r e => by injection e with e _; rw [← e]; exact hy)
      have hv : 0 < valBE (y :: t) := by
        rcases Nat.eq_zero_or_pos (valBE (y :: t)) with h0 | h0
        · rw [h0, beB_zero] at ih; cases ih
        · exact h0
      rw [beB_pos (by omega), show (valBE (y :: t) * 256 + x.toNat) / 256 = valBE (y :: t) by omega, ih]
      congr 1
      congr 1
      apply UInt8.toNat_inj.1
      simp
def numT : List UInt8 → Nat × List UInt8 × Nat
  | [] => (0, [], 20)
  | k :: r => if 8 < k.toNat then (0, [], 3) else if r.length < k.toNat then (0, [], 20)
    else if (0 < k.toNat ∧ r.getD 0 0 = 0) ∨ (k.toNat = 8 ∧ 128 ≤ (r.getD 0 0).toNat) then (0, [], 3)
    else (valBE (r.take k.toNat), r.drop k.toNat, 0)
theorem numT_cons (k : UInt8) (r : List UInt8) : numT (k :: r) = if 8 < k.toNat then (0, [], 3) else if r.length < k.toNat then (0, [], 20)
    else if (0 < k.toNat ∧ r.getD 0 0 = 0) ∨ (k.toNat = 8 ∧ 128 ≤ (r.getD 0 0).toNat) then (0, [], 3)
    else (valBE (r.take k.toNat), r.drop k.toNat, 0) := rfl
theorem valBE_cons_lt (x : UInt8) (b : List UInt8) (hx : x.toNat < 128) (hb : b.length ≤ 7) : valBE (x :: b) < 9223372036854775808 := by
  have key : ∀ (b : List UInt8), valBE (x :: b) < (x.toNat + 1) * 256 ^ b.length := by
    intro b
    induction h : b.length generalizing b with
    | zero =>
      have : b = [] := List.eq_nil_of_length_eq_zero h
      subst this
      simp [valBE]
    | succ n ih =>
      rcases snoc_cases b with rfl | ⟨c, y, rfl⟩
      · simp at h
      · have hc : c.length = n := by simp at h; exact h
        have := ih c hc
        have hy := y.toNat_lt
        rw [show x :: (c ++ [y]) = (x :: c) ++ [y] from rfl, valBE_snoc, Nat.pow_succ, ← Nat.mul_assoc]
        omega
  have h1 := key b
  have h2 : (256 : Nat) ^ b.length ≤ 256 ^ 7 := Nat.pow_le_pow_right (by omega) hb
  have h3 : (x.toNat + 1) * 256 ^ b.length ≤ 128 * 256 ^ 7 := Nat.mul_le_mul (by omega) h2
  have h4 : (128 : Nat) * 256 ^ 7 = 9223372036854775808 := by decide
  omega
theorem numT_lt {s r : List UInt8} {n : Nat} (h : numT s = (n, r, 0)) : n < 9223372036854775808 := by
  cases s with
  | nil => simp [numT] at h
  | cons k t =>
    rw [numT_cons] at h
    split at h
    · simp at h
    split at h
    · simp at h
    split at h
    · simp at h
    rename_i h1 h2 h3
    simp only [Prod.mk.injEq] at h
    rw [← h.1]
    have hl : (t.take k.toNat).length = k.toNat := by rw [List.length_take]; omega
    by_cases h8 : k.toNat = 8
    · cases t with
      | nil => simp at h2; omega
      | cons x u =>
        rw [h8, show (x :: u).take 8 = x :: u.take 7 from rfl]
        refine valBE_cons_lt x _ ?_ (by rw [List.length_take]; omega)
        simp at h3
        exact h3.2 h8
    · have h4 := valBE_lt (t.take k.toNat)
      rw [hl] at h4
      have : (256 : Nat) ^ k.toNat ≤ 256 ^ 7 := Nat.pow_le_pow_right (by omega) (by omega)
      have h5 : (256 : Nat) ^ 7 = 72057594037927936 := by decide
      omega
theorem numT_back {s r : List UInt8} {n : Nat} (h : numT s = (n, r, 0)) : s = numW n ++ r := by
  cases s with
  | nil => simp [numT] at h
  | cons k t =>
    rw [numT_cons] at h
    split at h
    · simp at h
    split at h
    · simp at h
    split at h
    · simp at h
    rename_i h1 h2 h3
    simp only [Prod.mk.injEq] at h
    obtain ⟨e1, e2, _⟩ := h
    have hl : (t.take k.toNat).length = k.toNat := by rw [List.length_take]; omega
    have hb : beB n = t.take k.toNat := by
      rw [← e1]
      refine beB_valBE _ fun x u e => ?_
      have hk : 0 < k.toNat := by rw [← hl, e]; simp
      intro hx
      apply h3
      left
      refine ⟨hk, ?_⟩
      cases t with
      | nil => simp at e
      | cons y v =>
        rw [show k.toNat = (k.toNat - 1) + 1 by omega, List.take_succ_cons] at e
        injection e with e _
        rw [List.getD_cons_zero, e, hx]
    rw [numW, hb, hl, ← e2]
    simp
theorem numT_of (n : Nat) (hn : n < 9223372036854775808) (r : List UInt8) : numT (numW n ++ r) = (n, r, 0) := by
  have hl := beB_len 8 n (by omega)
  have hk : (UInt8.ofNat (beB n).length).toNat = (beB n).length := by simp; omega
  rw [show numW n ++ r = UInt8.ofNat (beB n).length :: (beB n ++ r) from rfl]
  rw [numT_cons, hk, if_neg (by omega), if_neg (by simp)]
  have hh : ¬ ((0 < (beB n).length ∧ (beB n ++ r).getD 0 0 = 0) ∨ ((beB n).length = 8 ∧ 128 ≤ ((beB n ++ r).getD 0 0).toNat)) := by
    cases hb : beB n with
    | nil => simp
    | cons x t =>
      have hx := beB_head n x t hb
      simp only [List.cons_append, List.getD_cons_zero]
      rintro (⟨_, h⟩ | ⟨h8, h⟩)
      · exact hx h
      · have hv := valBE_beB n
        rw [hb] at hv
        have hlow : ∀ c : List UInt8, x.toNat * 256 ^ c.length ≤ valBE (x :: c) := by
          intro c
          induction hc : c.length generalizing c with
          | zero =>
            have : c = [] := List.eq_nil_of_length_eq_zero hc
            subst this
            simp [valBE]
          | succ m ih =>
            rcases snoc_cases c with rfl | ⟨d, y, rfl⟩
            · simp at hc
            · have hd : d.length = m := by simp at hc; exact hc
              have := ih d hd
              rw [show x :: (d ++ [y]) = (x :: d) ++ [y] from rfl, valBE_snoc, Nat.pow_succ, ← Nat.mul_assoc]
              omega
        have h7 : t.length = 7 := by simp at h8; exact h8
        have h1 := hlow t
        rw [hv, h7] at h1
        have h2 : 128 * 256 ^ 7 ≤ x.toNat * 256 ^ 7 := Nat.mul_le_mul_right _ h
        have h4 : (128 : Nat) * 256 ^ 7 = 9223372036854775808 := by decide
        omega
  rw [if_neg hh]
  simp [valBE_beB]
def txtT (s : List UInt8) (most : Nat) : List UInt8 × List UInt8 × Nat :=
  if (numT s).2.2 ≠ 0 then ([], [], (numT s).2.2)
  else if most < (numT s).1 then ([], [], 2) else if (numT s).2.1.length < (numT s).1 then ([], [], 20)
  else ((numT s).2.1.take (numT s).1, (numT s).2.1.drop (numT s).1, 0)
theorem txtT_back {s t r : List UInt8} {m : Nat} (h : txtT s m = (t, r, 0)) : s = textW t ++ r ∧ t.length ≤ m := by
  unfold txtT at h
  split at h
  · simp at h; exact absurd h.2.2 (by assumption)
  split at h
  · simp at h
  split at h
  · simp at h
  rename_i h1 h2 h3
  simp only [Prod.mk.injEq] at h
  obtain ⟨e1, e2, _⟩ := h
  have hb := numT_back (s := s) (n := (numT s).1) (r := (numT s).2.1) (by
    have : (numT s).2.2 = 0 := by omega
    rw [← this])
  have hl : t.length = (numT s).1 := by rw [← e1, List.length_take]; omega
  refine ⟨?_, by omega⟩
  rw [textW, hl]
  conv => lhs; rw [hb]
  rw [← e1, ← e2, List.append_assoc, List.take_append_drop]
theorem txtT_of (t r : List UInt8) (m : Nat) (hm : t.length ≤ m) (hl : t.length < 9223372036854775808) : txtT (textW t ++ r) m = (t, r, 0) := by
  unfold txtT textW
  rw [List.append_assoc, numT_of _ hl]
  simp only
  rw [if_neg (by simp), if_neg (by omega), if_neg (by simp)]
  simp
end Go.Proofs.YtcjafcbekegmlaaDoor

namespace Go.Proofs.YtcjafcbekegmlaaDoor
set_option linter.unusedVariables false
open Go.RowKit Go.Instr
attribute [local go_sem] ba_get ByteArray.mk_append_mk
theorem extract_drop (s : List UInt8) (c : Nat) : (ByteArray.mk s.toArray).extract c (ByteArray.mk s.toArray).size = ⟨(s.drop c).toArray⟩ := by
  apply ByteArray.ext
  rw [ByteArray.data_extract]
  show s.toArray.extract c s.toArray.size = _
  rw [List.extract_toArray]
  simp [List.take_of_length_le]
theorem extract_take (s : List UInt8) (c : Nat) : (ByteArray.mk s.toArray).extract 0 c = ⟨(s.take c).toArray⟩ := by
  apply ByteArray.ext
  rw [ByteArray.data_extract]
  show s.toArray.extract 0 c = _
  rw [List.extract_toArray]
  simp
theorem run_drop (s : List UInt8) (c : Nat) (h : c ≤ s.length) (w : World) : (Instr.slice 9 (.string ⟨s.toArray⟩) (some (.int .i64 (c : Int))) none none).run Tryd.prog w = .ok (.string ⟨(s.drop c).toArray⟩) w := by
  have := run_slice_string_l (P := Tryd.prog) (t := 9) (s := ⟨s.toArray⟩) (w := w) Tryd.underlying9 .i64 (c : Int) (by omega) (by show (c : Int) ≤ (s.toArray.size : Nat); simp; omega)
  rwa [show ((c : Int)).toNat = c by omega, extract_drop] at this
theorem run_take (s : List UInt8) (c : Nat) (h : c ≤ s.length) (w : World) : (Instr.slice 9 (.string ⟨s.toArray⟩) none (some (.int .i64 (c : Int))) none).run Tryd.prog w = .ok (.string ⟨(s.take c).toArray⟩) w := by
  have := run_slice_string_h (P := Tryd.prog) (t := 9) (s := ⟨s.toArray⟩) (w := w) Tryd.underlying9 .i64 (c : Int) (by omega) (by show (c : Int) ≤ (s.toArray.size : Nat); simp; omega)
  rwa [show ((c : Int)).toNat = c by omega, extract_take] at this
theorem run_tail (b : UInt8) (r : List UInt8) (w : World) : (Instr.slice 9 (.string ⟨(b :: r).toArray⟩) (some (.int .i64 1)) none none).run Tryd.prog w = .ok (.string ⟨r.toArray⟩) w := run_drop (b :: r) 1 (by simp) w
end Go.Proofs.YtcjafcbekegmlaaDoor

namespace Go.Proofs.YtcjafcbekegmlaaDoor
set_option linter.unusedVariables false
open Go.RowKit Go.Instr
attribute [local go_sem] ba_get ByteArray.mk_append_mk
theorem extract_mid (s : List UInt8) (a n : Nat) : (ByteArray.mk s.toArray).extract a (a + n) = ⟨((s.drop a).take n).toArray⟩ := by
  apply ByteArray.ext
  rw [ByteArray.data_extract]
  show s.toArray.extract a (a + n) = _
  rw [List.extract_toArray]
  simp
def RdB (w : World) (g : Nat) (all : List UInt8) (at_ code : Nat) : Prop := Blk w g 121 #[.string ⟨all.toArray⟩, .int .i64 (at_ : Int), .int .i64 (code : Int)]
theorem RdB.cells {w : World} {g : Nat} {all : List UInt8} {a c : Nat} (h : RdB w g all a c) : w.cell? ⟨g, 0, none⟩ = some (.string ⟨all.toArray⟩) ∧ w.cell? ⟨g, 1, none⟩ = some (.int .i64 (a : Int)) ∧ w.cell? ⟨g, 2, none⟩ = some (.int .i64 (c : Int)) ∧ w.frozen? ⟨g, 1, none⟩ = false ∧ w.frozen? ⟨g, 2, none⟩ = false :=
  ⟨Blk.cell h 0, Blk.cell h 1, Blk.cell h 2, Blk.frozen h 1, Blk.frozen h 2⟩
theorem code_Read (all : List UInt8) (w : World) :
    Calls Tryd.prog 61 #[.string ⟨all.toArray⟩] w fun e w' => e = .returned (.pointer (some ⟨w.heap.size, 0, none⟩)) ∧ w' = w.alloc (.cells #[.string ⟨all.toArray⟩, .int .i64 0, .int .i64 0] 121) := by
  go_enter Tryd.func61, Tryd.ntmps61
  go_wp2
  go_ret
  exact ⟨rfl, rfl⟩
def RdEnd (w : World) (g : Nat) (all : List UInt8) (v : Value) (at_ code : Nat) (e : Ending) (w' : World) : Prop := e = .returned v ∧ RdB w' g all at_ code ∧ w.grownBy w' (some g)
theorem code_refused (w : World) (g : Nat) (all : List UInt8) (a c : Nat) (h : RdB w g all a c) (from_ e : Nat) :
    Calls Tryd.prog 76 #[.pointer (some ⟨g, 0, none⟩), .int .i64 (from_ : Int), .int .i64 (e : Int)] w (RdEnd w g all (.tuple #[]) (if c = 0 then from_ else a) (if c = 0 then e else c)) := by
  obtain ⟨c0, c1, c2, f1, f2⟩ := h.cells
  have HH := Lib.hid h
  by_cases hc : c = 0
  · subst hc
    rw [if_pos rfl, if_pos rfl]
    have HP : Hid (∀ w', RdB w' g all from_ e → w.grownBy w' (some g) → RdEnd w g all (.tuple #[]) from_ e (.returned (.tuple #[])) w') := Lib.hid (fun w' a b => ⟨rfl, a, b⟩)
    generalize RdEnd w g all (.tuple #[]) from_ e = P at HP ⊢
    clear h
    go_enter Tryd.func76, Tryd.ntmps76
    go_wp2
    go_end0
    refine HP.out _ ?_ ?_
    · exact (Blk.set_ (Blk.set_ HH.out 1 (.int .i64 (from_ : Int))) 2 (.int .i64 (e : Int)))
    · exact grown_set0 (grown_set0 (World.grownBy.refl _ _) _ _) _ _
  · rw [if_neg hc, if_neg hc]
    have HP : Hid (∀ w', RdB w' g all a c → w.grownBy w' (some g) → RdEnd w g all (.tuple #[]) a c (.returned (.tuple #[])) w') := Lib.hid (fun w' a b => ⟨rfl, a, b⟩)
    generalize RdEnd w g all (.tuple #[]) a c = P at HP ⊢
    have hc1 : ((c : Int) == 0) = false := by simp; exact hc
    clear h hc
    go_enter Tryd.func76, Tryd.ntmps76
    go_wp2
    go_end0
    exact HP.out _ HH.out (World.grownBy.refl _ _)
theorem code_Left (w : World) (g : Nat) (all : List UInt8) (a c : Nat) (h : RdB w g all a c) (hl : all.length ≤ 1000000) (ha : a ≤ all.length) :
    Calls Tryd.prog 80 #[.pointer (some ⟨g, 0, none⟩)] w (RdEnd w g all (.int .i64 ((all.length - a : Nat) : Int)) a c) := by
  obtain ⟨c0, c1, c2, f1, f2⟩ := h.cells
  have HH := Lib.hid h
  have hv : IntKind.i64.wrap ((all.length : Int) - a) = ((all.length - a : Nat) : Int) := by rw [IntWalk.i64_in _ (by omega)]; omega
  have HP : Hid (∀ w', RdB w' g all a c → w.grownBy w' (some g) → RdEnd w g all (.int .i64 ((all.length - a : Nat) : Int)) a c (.returned (.int .i64 ((all.length - a : Nat) : Int))) w') := Lib.hid (fun w' a b => ⟨rfl, a, b⟩)
  generalize RdEnd w g all (.int .i64 ((all.length - a : Nat) : Int)) a c = P at HP ⊢
  generalize ((all.length - a : Nat) : Int) = d at *
  clear h
  go_enter Tryd.func80, Tryd.ntmps80
  go_wp2
  go_quiet (fail)
  go_wp2
  exact HP.out _ HH.out ⟨rfl, rfl, rfl, Nat.le_refl _, fun _ _ _ => rfl⟩
set_option maxHeartbeats 1000000 in
theorem code_take (w : World) (g : Nat) (all : List UInt8) (a c : Nat) (h : RdB w g all a c) (hl : all.length ≤ 1000000) (ha : a ≤ all.length) (n : Nat) (hn : n < 9223372036854775808) :
    Calls Tryd.prog 77 #[.pointer (some ⟨g, 0, none⟩), .int .i64 (n : Int)] w (RdEnd w g all (.tuple #[.string ⟨(if n ≤ (all.drop a).length then (all.drop a).take n else []).toArray⟩, .bool (decide (n ≤ (all.drop a).length))]) (if n ≤ (all.drop a).length then a + n else a) c) := by
  obtain ⟨c0, c1, c2, f1, f2⟩ := h.cells
  have HH := Lib.hid h
  have hv : IntKind.i64.wrap ((all.length : Int) - a) = (all.length : Int) - a := IntWalk.i64_in _ (by omega)
  rw [List.length_drop]
  by_cases hle : n ≤ all.length - a
  · rw [if_pos hle, if_pos hle, decide_eq_true hle]
    have HP : Hid (∀ w', RdB w' g all (a + n) c → w.grownBy w' (some g) → RdEnd w g all (.tuple #[.string ⟨((all.drop a).take n).toArray⟩, .bool true]) (a + n) c (.returned (.tuple #[.string ⟨((all.drop a).take n).toArray⟩, .bool true])) w') := Lib.hid (fun w' a b => ⟨rfl, a, b⟩)
    generalize RdEnd w g all (.tuple #[.string ⟨((all.drop a).take n).toArray⟩, .bool true]) (a + n) c = P at HP ⊢
    have hgt : ((all.length : Int) - a < n) = False := by simp; omega
    have hv2 : IntKind.i64.wrap ((a : Int) + n) = (a : Int) + n := IntWalk.i64_in _ (by omega)
    have hr : ∀ W, (Instr.slice 9 (.string ⟨all.toArray⟩) (some (.int .i64 (a : Int))) (some (.int .i64 ((a : Int) + n))) none).run Tryd.prog W = .ok (.string ⟨((all.drop a).take n).toArray⟩) W := fun W => by
      have := run_slice_string_if (P := Tryd.prog) (w := W) 9 ⟨all.toArray⟩ .i64 .i64 (a : Int) ((a : Int) + n) Tryd.underlying9
      rw [if_pos ⟨by omega, by show (a : Int) + n ≤ (all.toArray.size : Nat); simp; omega⟩, if_pos ⟨by omega, by omega⟩] at this
      rwa [show ((a : Int)).toNat = a by omega, show ((a : Int) + n).toNat = a + n by omega, extract_mid] at this
    have hs0 : (a : Int) + n ≤ 1000000 := by omega
    clear h hle
    generalize (all.drop a).take n = piece at *
    go_enter Tryd.func77, Tryd.ntmps77
    go_wp2
    go_quiet (fail)
    go_wp2
    go_quiet (fail)
    go_wp2
    exact HP.out _ (Blk.set_ HH.out 1 (.int .i64 ((a : Int) + n))) (grown_set0 (only_drewN (World.grownBy.refl _ _) _) _ _)
  · rw [if_neg hle, if_neg hle, decide_eq_false hle]
    have HP : Hid (∀ w', RdB w' g all a c → w.grownBy w' (some g) → RdEnd w g all (.tuple #[.string ⟨[].toArray⟩, .bool false]) a c (.returned (.tuple #[.string ⟨#[]⟩, .bool false])) w') := Lib.hid (fun w' a b => ⟨rfl, a, b⟩)
    generalize RdEnd w g all (.tuple #[.string ⟨[].toArray⟩, .bool false]) a c = P at HP ⊢
    have hgt : ((all.length : Int) - a < n) = True := by simp; omega
    clear h hle
    go_enter Tryd.func77, Tryd.ntmps77
    go_wp2
    go_quiet (fail)
    go_wp2
    exact HP.out _ HH.out ⟨rfl, rfl, rfl, Nat.le_refl _, fun _ _ _ => rfl⟩
end Go.Proofs.YtcjafcbekegmlaaDoor
