import Derived.Test.YtefcmigbdfeaiaaDoorJ08
import Derived.Test.YtefcmigbdfeaiaaDoorJ28
set_option linter.unusedSimpArgs false
set_option linter.unusedVariables false
/- Plain laws: numbers and texts out of bytes, and back. No program in sight. -/
namespace Go.Proofs.YtefcmigbdfeaiaaDoor
set_option linter.unusedVariables false

theorem snoc_ind {P : List UInt8 → Prop} (h0 : P []) (h1 : ∀ c x, P c → P (c ++ [x])) (l : List UInt8) : P l := by
  have : ∀ m : List UInt8, P m.reverse := by
    intro m
    induction m with
    | nil => exact h0
    | cons x m ih => rw [List.reverse_cons]; exact h1 _ _ ih
  have h := this l.reverse
  rwa [List.reverse_reverse] at h
theorem snoc_cases (l : List UInt8) : l = [] ∨ ∃ c x, l = c ++ [x] := by
  induction l using snoc_ind with
  | h0 => exact .inl rfl
  | h1 c x _ => exact .inr ⟨c, x, rfl⟩
def valBE (b : List UInt8) : Nat := b.foldl (fun n x => n * 256 + x.toNat) 0
theorem valBE_snoc (b : List UInt8) (x : UInt8) : valBE (b ++ [x]) = valBE b * 256 + x.toNat := by simp [valBE]
theorem valBE_lt (b : List UInt8) : valBE b < 256 ^ b.length := by
  induction b using snoc_ind with
  | h0 => simp [valBE]
  | h1 c x this =>
    have hx := x.toNat_lt
    rw [valBE_snoc, List.length_append, List.length_singleton, Nat.pow_succ]
    omega
theorem valBE_beB (n : Nat) : valBE (beB n) = n := by
  rcases Nat.eq_zero_or_pos n with h | h
  · subst h; rw [beB_zero]; rfl
  · rw [beB_pos h, valBE_snoc, valBE_beB (n / 256)]
    simp
    omega
termination_by n
decreasing_by omega
theorem beB_head (n : Nat) : ∀ x r, beB n = x :: r → x ≠ 0 := by
  intro x r e
  rcases Nat.eq_zero_or_pos n with h | h
  · subst h; rw [beB_zero] at e; cases e
  · rw [beB_pos h] at e
    cases hb : beB (n / 256) with
    | nil =>
      rw [hb] at e
      simp at e
      have hz : n / 256 = 0 := by have := valBE_beB (n / 256); rw [hb] at this; simp [valBE] at this; omega
      intro e0
      rw [← e.1] at e0
      have := congrArg UInt8.toNat e0
      simp at this
      omega
    | cons y t =>
      rw [hb] at e
      simp at e
      rw [← e.1]
      exact beB_head (n / 256) y t hb
termination_by n
decreasing_by omega
theorem beB_valBE (b : List UInt8) : (∀ x r, b = x :: r → x ≠ 0) → beB (valBE b) = b := by
  induction b using snoc_ind with
  | h0 => intro _; exact beB_zero
  | h1 c x ih0 =>
    intro h
    have hx := x.toNat_lt
    rw [valBE_snoc]
    cases c with
    | nil =>
      have hx0 : x ≠ 0 := h x [] rfl
      have hp : 0 < x.toNat := by
        rcases Nat.eq_zero_or_pos x.toNat with h0 | h0
        · exact absurd (UInt8.toNat_inj.1 h0) hx0
        · exact h0
      rw [show valBE [] * 256 + x.toNat = x.toNat by simp [valBE], beB_pos hp, show x.toNat / 256 = 0 by omega, beB_zero]
      simp
    | cons y t =>
      have hy : y ≠ 0 := h y (t ++ [x]) rfl
      have ih := ih0 (fun a r e => by injection e with e _; rw [← e]; exact hy)
      have hv : 0 < valBE (y :: t) := by
        rcases Nat.eq_zero_or_pos (valBE (y :: t)) with h0 | h0
        · rw [h0, beB_zero] at ih; cases ih
        · exact h0
      rw [beB_pos (by omega), show (valBE (y :: t) * 256 + x.toNat) / 256 = valBE (y :: t) by omega, ih]
      congr 1
      congr 1
      apply UInt8.toNat_inj.1
      simp

/-- a number at the beginning: it, what is behind it, what is wrong -/
def numT : List UInt8 → Nat × List UInt8 × Nat
  | [] => (0, [], 20)
  | k :: r => if 8 < k.toNat then (0, [], 3) else if r.length < k.toNat then (0, [], 20)
    else if (0 < k.toNat ∧ r.getD 0 0 = 0) ∨ (k.toNat = 8 ∧ 128 ≤ (r.getD 0 0).toNat) then (0, [], 3)
    else (valBE (r.take k.toNat), r.drop k.toNat, 0)
theorem numT_cons (k : UInt8) (r : List UInt8) : numT (k :: r) = if 8 < k.toNat then (0, [], 3) else if r.length < k.toNat then (0, [], 20)
    else if (0 < k.toNat ∧ r.getD 0 0 = 0) ∨ (k.toNat = 8 ∧ 128 ≤ (r.getD 0 0).toNat) then (0, [], 3)
    else (valBE (r.take k.toNat), r.drop k.toNat, 0) := rfl
theorem valBE_cons_lt (x : UInt8) (b : List UInt8) (hx : x.toNat < 128) (hb : b.length ≤ 7) : valBE (x :: b) < 9223372036854775808 := by
  have key : ∀ (b : List UInt8), valBE (x :: b) < (x.toNat + 1) * 256 ^ b.length := by
    intro b
    induction h : b.length generalizing b with
    | zero =>
      have : b = [] := List.eq_nil_of_length_eq_zero h
      subst this
      simp [valBE]
    | succ n ih =>
      rcases snoc_cases b with rfl | ⟨c, y, rfl⟩
      · simp at h
      · have hc : c.length = n := by simp at h; exact h
        have := ih c hc
        have hy := y.toNat_lt
        rw [show x :: (c ++ [y]) = (x :: c) ++ [y] from rfl, valBE_snoc, Nat.pow_succ, ← Nat.mul_assoc]
        omega
  have h1 := key b
  have h2 : (256 : Nat) ^ b.length ≤ 256 ^ 7 := Nat.pow_le_pow_right (by omega) hb
  have h3 : (x.toNat + 1) * 256 ^ b.length ≤ 128 * 256 ^ 7 := Nat.mul_le_mul (by omega) h2
  have h4 : (128 : Nat) * 256 ^ 7 = 9223372036854775808 := by decide
  omega
theorem numT_lt {s r : List UInt8} {n : Nat} (h : numT s = (n, r, 0)) : n < 9223372036854775808 := by
  cases s with
  | nil => simp [numT] at h
  | cons k t =>
    rw [numT_cons] at h
    split at h
    · simp at h
    split at h
    · simp at h
    split at h
    · simp at h
    rename_i h1 h2 h3
    simp only [Prod.mk.injEq] at h
    rw [← h.1]
    have hl : (t.take k.toNat).length = k.toNat := by rw [List.length_take]; omega
    by_cases h8 : k.toNat = 8
    · cases t with
      | nil => simp at h2; omega
      | cons x u =>
        rw [h8, show (x :: u).take 8 = x :: u.take 7 from rfl]
        refine valBE_cons_lt x _ ?_ (by rw [List.length_take]; omega)
        simp at h3
        exact h3.2 h8
    · have h4 := valBE_lt (t.take k.toNat)
      rw [hl] at h4
      have : (256 : Nat) ^ k.toNat ≤ 256 ^ 7 := Nat.pow_le_pow_right (by omega) (by omega)
      have h5 : (256 : Nat) ^ 7 = 72057594037927936 := by decide
      omega
theorem numT_back {s r : List UInt8} {n : Nat} (h : numT s = (n, r, 0)) : s = numW n ++ r := by
  cases s with
  | nil => simp [numT] at h
  | cons k t =>
    rw [numT_cons] at h
    split at h
    · simp at h
    split at h
    · simp at h
    split at h
    · simp at h
    rename_i h1 h2 h3
    simp only [Prod.mk.injEq] at h
    obtain ⟨e1, e2, _⟩ := h
    have hl : (t.take k.toNat).length = k.toNat := by rw [List.length_take]; omega
    have hb : beB n = t.take k.toNat := by
      rw [← e1]
      refine beB_valBE _ fun x u e => ?_
      have hk : 0 < k.toNat := by rw [← hl, e]; simp
      intro hx
      apply h3
      left
      refine ⟨hk, ?_⟩
      cases t with
      | nil => simp at e
      | cons y v =>
        rw [show k.toNat = (k.toNat - 1) + 1 by omega, List.take_succ_cons] at e
        injection e with e _
        rw [List.getD_cons_zero, e, hx]
    rw [numW, hb, hl, ← e2]
    simp
theorem numT_of (n : Nat) (hn : n < 9223372036854775808) (r : List UInt8) : numT (numW n ++ r) = (n, r, 0) := by
  have hl := beB_len 8 n (by omega)
  have hk : (UInt8.ofNat (beB n).length).toNat = (beB n).length := by simp; omega
  rw [show numW n ++ r = UInt8.ofNat (beB n).length :: (beB n ++ r) from rfl]
  rw [numT_cons, hk, if_neg (by omega), if_neg (by simp)]
  have hh : ¬ ((0 < (beB n).length ∧ (beB n ++ r).getD 0 0 = 0) ∨ ((beB n).length = 8 ∧ 128 ≤ ((beB n ++ r).getD 0 0).toNat)) := by
    cases hb : beB n with
    | nil => simp
    | cons x t =>
      have hx := beB_head n x t hb
      simp only [List.cons_append, List.getD_cons_zero]
      rintro (⟨_, h⟩ | ⟨h8, h⟩)
      · exact hx h
      · have hv := valBE_beB n
        rw [hb] at hv
        have hlow : ∀ c : List UInt8, x.toNat * 256 ^ c.length ≤ valBE (x :: c) := by
          intro c
          induction hc : c.length generalizing c with
          | zero =>
            have : c = [] := List.eq_nil_of_length_eq_zero hc
            subst this
            simp [valBE]
          | succ m ih =>
            rcases snoc_cases c with rfl | ⟨d, y, rfl⟩
            · simp at hc
            · have hd : d.length = m := by simp at hc; exact hc
              have := ih d hd
              rw [show x :: (d ++ [y]) = (x :: d) ++ [y] from rfl, valBE_snoc, Nat.pow_succ, ← Nat.mul_assoc]
              omega
        have h7 : t.length = 7 := by simp at h8; exact h8
        have h1 := hlow t
        rw [hv, h7] at h1
        have h2 : 128 * 256 ^ 7 ≤ x.toNat * 256 ^ 7 := Nat.mul_le_mul_right _ h
        have h4 : (128 : Nat) * 256 ^ 7 = 9223372036854775808 := by decide
        omega
  rw [if_neg hh]
  simp [valBE_beB]
/-- likewise a text -/
def txtT (s : List UInt8) (most : Nat) : List UInt8 × List UInt8 × Nat :=
  if (numT s).2.2 ≠ 0 then ([], [], (numT s).2.2)
  else if most < (numT s).1 then ([], [], 2) else if (numT s).2.1.length < (numT s).1 then ([], [], 20)
  else ((numT s).2.1.take (numT s).1, (numT s).2.1.drop (numT s).1, 0)
theorem txtT_back {s t r : List UInt8} {m : Nat} (h : txtT s m = (t, r, 0)) : s = textW t ++ r ∧ t.length ≤ m := by
  unfold txtT at h
  split at h
  · simp at h; exact absurd h.2.2 (by assumption)
  split at h
  · simp at h
  split at h
  · simp at h
  rename_i h1 h2 h3
  simp only [Prod.mk.injEq] at h
  obtain ⟨e1, e2, _⟩ := h
  have hb := numT_back (s := s) (n := (numT s).1) (r := (numT s).2.1) (by
    have : (numT s).2.2 = 0 := by omega
    rw [← this])
  have hl : t.length = (numT s).1 := by rw [← e1, List.length_take]; omega
  refine ⟨?_, by omega⟩
  rw [textW, hl]
  conv => lhs; rw [hb]
  rw [← e1, ← e2, List.append_assoc, List.take_append_drop]
theorem txtT_of (t r : List UInt8) (m : Nat) (hm : t.length ≤ m) (hl : t.length < 9223372036854775808) : txtT (textW t ++ r) m = (t, r, 0) := by
  unfold txtT textW
  rw [List.append_assoc, numT_of _ hl]
  simp only
  rw [if_neg (by simp), if_neg (by omega), if_neg (by simp)]
  simp
end Go.Proofs.YtefcmigbdfeaiaaDoor

/- The document's layer 2 (code): Number, Text. No conditions. -/
namespace Go.Proofs.YtefcmigbdfeaiaaDoor
set_option linter.unusedVariables false
open Go.RowKit Go.Instr
attribute [local go_sem] ba_get ByteArray.mk_append_mk

set_option maxRecDepth 100000 in
set_option maxHeartbeats 1000000 in
theorem ref02_Number (n : Nat) (hn : n < 9223372036854775808) (w : World) :
    Calls Tryd.prog 146 #[.int .i64 (n : Int)] w fun e w' => e = .returned (.string ⟨(numW n).toArray⟩) ∧ Below w.heap.size w w' := by
  have HP : Hid (∀ w', Below w.heap.size w w' → (fun e w' => e = Ending.returned (.string ⟨(numW n).toArray⟩) ∧ Below w.heap.size w w') (Ending.returned (.string ⟨(UInt8.ofNat (beB n).length :: beB n).toArray⟩)) w') := Lib.hid (fun w' hb => ⟨rfl, hb⟩)
  generalize (fun e w' => e = Ending.returned (.string ⟨(numW n).toArray⟩) ∧ Below w.heap.size w w') = P at HP ⊢
  have HL := Lib.hid (beB_len 8 n (by omega))
  have HN := Lib.hid hn
  clear hn
  go_enter Tryd.func146, Tryd.ntmps146
  go_wp2_with fail
  refine wp_loop_ghost_k (fun k a wr => ∀ Φ : Act → Prop, (∀ (s1 s2 s4 s5 s6 s7 s8 s9 s10 s11 s12 s13 s14 s15 s16 s17 s18 s19 s20 s21 : Value) (m : Nat) (s : List UInt8), (m = k ∧ m ≤ n ∧ beB n = beB m ++ s ∧ Below w.heap.size w wr) → Φ { tmps := #[.int .i64 (m : Int), s1, s2, .string ⟨s.toArray⟩, s4, s5, s6, s7, s8, s9, s10, s11, s12, s13, s14, s15, s16, s17, s18, s19, s20, s21], defers := [] }) → Φ a) (n) ?_ ?_
  · refine fun Φ hΦ => hΦ _ _ _ _ _ _ _ _ _ _ _ _ _ _ _ _ _ _ _ _ (n) ([]) ?_
    exact ⟨rfl, Nat.le_refl _, by simp, Below.refl _ _⟩
  · intro k1 a1 wr1 hI1 J1 K1 hJ1 hK1
    refine hI1 (fun a => Code.wp _ _ _ a _) ?_
    clear hI1 a1
    intro s0 s1 s2 s3 s4 s5 s6 s7 s8 s9 s10 s11 s12 s13 s14 s15 s16 s17 s18 s19 m s hrel
    show Code.wp _ _ _ _ _
    obtain ⟨h1, h2, h3, hb⟩ := hrel
    have HB := Lib.hid hb
    have H3 := Lib.hid h3
    have H2 := Lib.hid h2
    have H1 := Lib.hid h1
    have hAl : Hid (∀ f, Below w.heap.size w (wr1.alloc (.cells f 5))) := Lib.hid (fun f => hb.trans ((show Below wr1.heap.size wr1 (wr1.alloc (.cells f 5)) from by go_grown).mono hb.size))
    clear h1 h2 h3 hb
    by_cases hm : 0 < m
    · have hm1 : (0 : Int) < (m : Int) := by omega
      have er : (m : Int).tmod 256 = ((m % 256 : Nat) : Int) := by rw [Int.tmod_eq_emod_of_nonneg (by omega)]; omega
      have eq : (m : Int).tdiv 256 = ((m / 256 : Nat) : Int) := by rw [Int.tdiv_eq_ediv_of_nonneg (by omega)]; omega
      have ew2 : ((m % 256 : Nat) : Int) % 256 = ((m % 256 : Nat) : Int) := by omega
      have cv := conv1d wr1 ((m : Int) % 256) (by omega) (by omega)
      have cv2 := conv1 wr1 ((m : Int) % 256) (by omega) (by omega)
      rw [show UInt8.ofNat ((m : Int) % 256).toNat = UInt8.ofNat m by rw [show ((m : Int) % 256).toNat = m % 256 by omega]; apply UInt8.toNat_inj.1; simp] at cv cv2
      have HE : Hid (beB n = beB (m / 256) ++ UInt8.ofNat m :: s) := Lib.hid (by rw [H3.out, beB_pos hm, List.append_assoc]; rfl)
      have hsl : s.length ≤ 8 := by have := congrArg List.length HE.out; simp at this; have := HL.out; omega
      have HMd : Hid (m / 256 < m ∧ m / 256 ≤ n) := Lib.hid ⟨by omega, by have := H2.out; omega⟩
      have hsl2 : s.length + 1 ≤ 9223372036854775807 := by omega
      have hsl3 : 1 + s.length ≤ 9223372036854775807 := by omega
      have wd : wrap64 ((m : Int) / 256) = ((m / 256 : Nat) : Int) := by rw [IntWalk.wrap64_in _ (by have := H2.out; have := HN.out; omega)]; omega
      go_wp2
      simp only [wd]
      refine Handed.intro (m / 256) ?_ (hJ1 _ _ _ (fun Φ hΦ => hΦ _ _ _ _ _ _ _ _ _ _ _ _ _ _ _ _ _ _ _ _ (m / 256) (UInt8.ofNat m :: s) ?_))
      · have := H1.out; have := HMd.out.1; omega
      exact ⟨rfl, HMd.out.2, HE.out, hAl.out _⟩
    · have hm1 : (0 < m) = False := by simp; omega
      have HE : Hid (beB n = s) := Lib.hid (by rw [H3.out, show m = 0 by omega, beB_zero]; rfl)
      have hsl : s.length ≤ 8 := by have := HE.out; have := HL.out; rw [‹beB n = s›] at this; exact this
      rw [HE.out] at HP
      have cv := conv1d wr1 (s.length : Int) (by omega) (by omega)
      have cv2 := conv1 wr1 (s.length : Int) (by omega) (by omega)
      rw [show UInt8.ofNat ((s.length : Int)).toNat = UInt8.ofNat s.length by congr 1] at cv cv2
      clear hm H3 HE
      have hsl2 : s.length + 1 ≤ 9223372036854775807 := by omega
      have hsl3 : 1 + s.length ≤ 9223372036854775807 := by omega
      go_wp2
      exact HP.out _ (hAl.out _)
set_option maxRecDepth 100000 in
theorem ref02_Text (s : List UInt8) (hs : s.length ≤ 9223372036854775000) (w : World) :
    Calls Tryd.prog 130 #[.string ⟨s.toArray⟩] w fun e w' => e = .returned (.string ⟨(textW s).toArray⟩) ∧ Below w.heap.size w w' := by
  have HP : Hid (∀ w', Below w.heap.size w w' → (fun e w' => e = Ending.returned (.string ⟨(textW s).toArray⟩) ∧ Below w.heap.size w w') (Ending.returned (.string ⟨(numW s.length ++ s).toArray⟩)) w') := Lib.hid (fun w' hb => ⟨rfl, hb⟩)
  generalize (fun e w' => e = Ending.returned (.string ⟨(textW s).toArray⟩) ∧ Below w.heap.size w w') = P at HP ⊢
  go_enter Tryd.func130, Tryd.ntmps130
  go_wp2_with fail
  refine (ref02_Number s.length (by omega) _).mono ?_
  rintro e w1 ⟨rfl, hb⟩
  have hl := numW_len s.length (by omega)
  generalize numW s.length = N at *
  have hsum : N.length + s.length ≤ 9223372036854775807 := by omega
  go_wp2
  exact HP.out _ hb
end Go.Proofs.YtefcmigbdfeaiaaDoor

/- The document's layer 8 (node): Written's loop. No conditions. -/
namespace Go.Proofs.YtefcmigbdfeaiaaDoor
set_option linter.unusedVariables false
open Go.RowKit Go.Instr
attribute [local go_sem] ba_get ByteArray.mk_append_mk
def bitK (K : List (List UInt8)) (i : Nat) : Nat := if (K.getD i []).isEmpty then 0 else 1
def hiTo (K : List (List UInt8)) : Nat → Nat
  | 0 => 0
  | i + 1 => if i < 8 then hiTo K i * 2 + bitK K i else hiTo K i
def loTo (K : List (List UInt8)) : Nat → Nat
  | 0 => 0
  | i + 1 => if i < 8 then loTo K i else loTo K i * 2 + bitK K i
theorem bitK_le (K : List (List UInt8)) (i : Nat) : bitK K i ≤ 1 := by unfold bitK; split <;> omega
theorem bit_pow (K : List (List UInt8)) (i n : Nat) : (if (K.getD i []).isEmpty then 0 else n) = bitK K i * n := by unfold bitK; split <;> simp
theorem hilo (K : List (List UInt8)) : bitsTo K 16 / 256 = hiTo K 16 ∧ bitsTo K 16 % 256 = loTo K 16 := by
  simp only [bitsTo, hiTo, loTo, bit_pow]
  have h := bitK_le K
  have h0 := h 0
  have h1 := h 1
  have h2 := h 2
  have h3 := h 3
  have h4 := h 4
  have h5 := h 5
  have h6 := h 6
  have h7 := h 7
  have h8 := h 8
  have h9 := h 9
  have h10 := h 10
  have h11 := h 11
  have h12 := h 12
  have h13 := h 13
  have h14 := h 14
  have h15 := h 15
  simp
  omega
theorem hiTo_lt (K : List (List UInt8)) : ∀ i, hiTo K i < 2 ^ (min i 8)
  | 0 => by simp [hiTo]
  | i + 1 => by
    have ih := hiTo_lt K i
    have hb := bitK_le K i
    simp only [hiTo]
    split
    · rw [show min (i + 1) 8 = min i 8 + 1 by omega, Nat.pow_succ]; omega
    · rw [show min (i + 1) 8 = min i 8 by omega]; exact ih
theorem loTo_lt (K : List (List UInt8)) : ∀ i, i ≤ 16 → loTo K i < 2 ^ (i - 8)
  | 0, _ => by simp [loTo]
  | i + 1, h => by
    have ih := loTo_lt K i (by omega)
    have hb := bitK_le K i
    simp only [loTo]
    split
    · rw [show i + 1 - 8 = i - 8 by omega]; exact ih
    · rw [show i + 1 - 8 = i - 8 + 1 by omega, Nat.pow_succ]; omega
theorem pow_le8 {n : Nat} (h : n ≤ 8) : 2 ^ n ≤ 256 := by
  have : 2 ^ n ≤ 2 ^ 8 := Nat.pow_le_pow_right (by omega) h
  omega
theorem kidsW_flat (K : List (List UInt8)) : (kidsW K).flatten = K.flatten := by
  induction K with
  | nil => rfl
  | cons a t ih =>
    unfold kidsW at ih ⊢
    rw [List.filter_cons]
    cases a <;> simp [ih]
set_option maxRecDepth 100000 in
set_option maxHeartbeats 1000000 in
theorem refwritten_loop (w0 : World) (B kk : Nat) (p v : List UInt8) (T : ByteArray) (K : List (List UInt8)) (hK : K.length = 16) (h32 : ∀ s ∈ K, s.length ≤ 32) (HB : Hid (Blk w0 B 91 (nodeV kk p v K).toArray))
    (Q : Exit → Act → World → Prop)
    (hQ : ∀ (s0 s2 s7 s8 s9 s10 s11 s12 s13 s14 s15 s16 s17 s18 s19 s20 s21 s22 s23 s24 s25 s26 s27 s28 s29 s30 s31 s32 s33 s34 s35 s36 s37 s38 s39 s40 s41 s42 s43 s44 s45 s46 s47 s48 s49 s50 s51 s52 s53 s54 s55 s56 s57 s58 s59 s60 s61 s62 s63 s64 s65 s66 s67 s68 s69 s70 s71 s72 s73 s74 s75 s76 s77 s78 s79 s80 s81 s82 s83 : Value), Q (.exit 0) { tmps := #[s0, .pointer (some ⟨B, 0, none⟩), s2, .string T, .int .i64 (hiTo K 16 : Int), .int .i64 (loTo K 16 : Int), .string ⟨K.flatten.toArray⟩, s7, s8, s9, s10, s11, s12, s13, s14, s15, s16, s17, s18, s19, s20, s21, s22, s23, s24, s25, s26, s27, s28, s29, s30, s31, s32, s33, s34, s35, s36, s37, s38, s39, s40, s41, s42, s43, s44, s45, s46, s47, s48, s49, s50, s51, s52, s53, s54, s55, s56, s57, s58, s59, s60, s61, s62, s63, s64, s65, s66, s67, s68, s69, s70, s71, s72, s73, s74, s75, s76, s77, s78, s79, s80, s81, s82, s83], defers := [] } w0)
    (s0 s2 s8 s9 s10 s11 s12 s13 s14 s15 s16 s17 s18 s19 s20 s21 s22 s23 s24 s25 s26 s27 s28 s29 s30 s31 s32 s33 s34 s35 s36 s37 s38 s39 s40 s41 s42 s43 s44 s45 s46 s47 s48 s49 s50 s51 s52 s53 s54 s55 s56 s57 s58 s59 s60 s61 s62 s63 s64 s65 s66 s67 s68 s69 s70 s71 s72 s73 s74 s75 s76 s77 s78 s79 s80 s81 s82 s83 : Value) :
    Code.wp Tryd.prog (.loop (loopAt Tryd.f108 0)) Q { tmps := #[s0, .pointer (some ⟨B, 0, none⟩), s2, .string T, .int .i64 0, .int .i64 0, .string ⟨#[]⟩, .int .i64 0, s8, s9, s10, s11, s12, s13, s14, s15, s16, s17, s18, s19, s20, s21, s22, s23, s24, s25, s26, s27, s28, s29, s30, s31, s32, s33, s34, s35, s36, s37, s38, s39, s40, s41, s42, s43, s44, s45, s46, s47, s48, s49, s50, s51, s52, s53, s54, s55, s56, s57, s58, s59, s60, s61, s62, s63, s64, s65, s66, s67, s68, s69, s70, s71, s72, s73, s74, s75, s76, s77, s78, s79, s80, s81, s82, s83], defers := [] } w0 := by
  have HQ := Lib.hid hQ
  clear hQ
  refine wp_loop_ghost_k (fun k a wr => ∀ Φ : Act → Prop, (∀ (s0 s2 s8 s9 s10 s11 s12 s13 s14 s15 s16 s17 s18 s19 s20 s21 s22 s23 s24 s25 s26 s27 s28 s29 s30 s31 s32 s33 s34 s35 s36 s37 s38 s39 s40 s41 s42 s43 s44 s45 s46 s47 s48 s49 s50 s51 s52 s53 s54 s55 s56 s57 s58 s59 s60 s61 s62 s63 s64 s65 s66 s67 s68 s69 s70 s71 s72 s73 s74 s75 s76 s77 s78 s79 s80 s81 s82 s83 : Value) (i h l : Nat) (S : List UInt8), (i + k = 16 ∧ h = hiTo K i ∧ l = loTo K i ∧ S = (K.take i).flatten ∧ wr = w0) → Φ { tmps := #[s0, .pointer (some ⟨B, 0, none⟩), s2, .string T, .int .i64 (h : Int), .int .i64 (l : Int), .string ⟨S.toArray⟩, .int .i64 (i : Int), s8, s9, s10, s11, s12, s13, s14, s15, s16, s17, s18, s19, s20, s21, s22, s23, s24, s25, s26, s27, s28, s29, s30, s31, s32, s33, s34, s35, s36, s37, s38, s39, s40, s41, s42, s43, s44, s45, s46, s47, s48, s49, s50, s51, s52, s53, s54, s55, s56, s57, s58, s59, s60, s61, s62, s63, s64, s65, s66, s67, s68, s69, s70, s71, s72, s73, s74, s75, s76, s77, s78, s79, s80, s81, s82, s83], defers := [] }) → Φ a) (16) ?_ ?_
  · refine fun Φ hΦ => hΦ _ _ _ _ _ _ _ _ _ _ _ _ _ _ _ _ _ _ _ _ _ _ _ _ _ _ _ _ _ _ _ _ _ _ _ _ _ _ _ _ _ _ _ _ _ _ _ _ _ _ _ _ _ _ _ _ _ _ _ _ _ _ _ _ _ _ _ _ _ _ _ _ _ _ _ _ _ _ (0) (0) (0) ([]) ?_
    exact ⟨by omega, rfl, rfl, rfl, rfl⟩
  · intro k1 a1 wr1 hI1 J1 K1 hJ1 hK1
    refine hI1 (fun a => Code.wp _ _ _ a _) ?_
    clear hI1 a1
    intro s0 s1 s2 s3 s4 s5 s6 s7 s8 s9 s10 s11 s12 s13 s14 s15 s16 s17 s18 s19 s20 s21 s22 s23 s24 s25 s26 s27 s28 s29 s30 s31 s32 s33 s34 s35 s36 s37 s38 s39 s40 s41 s42 s43 s44 s45 s46 s47 s48 s49 s50 s51 s52 s53 s54 s55 s56 s57 s58 s59 s60 s61 s62 s63 s64 s65 s66 s67 s68 s69 s70 s71 s72 s73 s74 s75 s76 s77 i h l S hrel
    show Code.wp _ _ _ _ _
    conv => arg 2; whnf
    obtain ⟨h1, h2, h3, h4, rfl⟩ := hrel
    by_cases hi : i < 16
    · have hi1 : (i : Int) < 16 := by omega
      obtain ⟨_, _, _, RK, _⟩ := NodeAt.of (C := []) (by rw [List.append_nil]; exact HB.out)
      have hKi : K[i]? = some (K.getD i []) := by rw [List.getD_eq_getElem?_getD, List.getElem?_eq_getElem (show i < K.length by omega)]; rfl
      have ec : wr1.cell? ⟨B, 3 + i, none⟩ = some (.string ⟨(K.getD i []).toArray⟩) := RK i _ (strv_getD (by omega))
      have hl := Lib.hid (show S.length ≤ 1000 by
        have := flatten_len (n := 32) (K.take i) (fun s hs => h32 s (List.mem_of_mem_take hs))
        rw [h4]; rw [List.length_take] at this; omega)
      have hs32 : (K.getD i []).length ≤ 32 := h32 _ (List.mem_of_getElem? hKi)
      have HFl : Hid ((K.take (i + 1)).flatten = S ++ K.getD i []) := Lib.hid (by
        rw [List.take_add_one, hKi, List.flatten_append, h4]; simp)
      have hh := hiTo_lt K i
      have hl2 := loTo_lt K i (by omega)
      have hp1 := pow_le8 (n := min i 8) (by omega)
      have hp2 := pow_le8 (n := i - 8) (by omega)
      rw [← h2] at hh
      rw [← h3] at hl2
      have hh : h ≤ 256 := by omega
      have hll : l ≤ 256 := by omega
      have HI := Lib.hid (And.intro h1 (And.intro h2 h3))
      have HBt : Hid (bitK K i = if (K.getD i []).isEmpty then 0 else 1) := Lib.hid rfl
      have hsl := hl.out
      clear RK h1 h2 h3 h4 hKi hl2 hp1 hp2 h32
      generalize K.getD i [] = s at *
      cases s with
      | nil =>
        replace HBt : Hid (bitK K i = 0) := HBt
        have HS : Hid (S = (K.take (i + 1)).flatten) := Lib.hid (by rw [HFl.out, List.append_nil])
        by_cases h8 : i < 8
        · have h8i : (i : Int) < 8 := by omega
          have eh := Lib.hid (show hiTo K (i + 1) = h * 2 + 0 by rw [hiTo, if_pos h8, ← HI.out.2.1, HBt.out])
          have el := Lib.hid (show loTo K (i + 1) = l by rw [loTo, if_pos h8, ← HI.out.2.2])
          clear h8
          go_wp2
          (try rw [show (h : Int) * 2 + 1 = ((h * 2 + 1 : Nat) : Int) by omega])
          (try rw [show (h : Int) * 2 = ((h * 2 + 0 : Nat) : Int) by omega])
          refine Handed.intro (16 - (i + 1)) ?_ (hJ1 _ _ _ (fun Φ hΦ => hΦ _ _ _ _ _ _ _ _ _ _ _ _ _ _ _ _ _ _ _ _ _ _ _ _ _ _ _ _ _ _ _ _ _ _ _ _ _ _ _ _ _ _ _ _ _ _ _ _ _ _ _ _ _ _ _ _ _ _ _ _ _ _ _ _ _ _ _ _ _ _ _ _ _ _ _ _ _ _ (i + 1) (h * 2 + 0) (l) (S) ?_))
          · have := HI.out.1; omega
          · exact ⟨by have := HI.out.1; omega, eh.out.symm, el.out.symm, HS.out, rfl⟩
        · have h8i : ((i : Int) < 8) = False := by simp; omega
          have eh := Lib.hid (show hiTo K (i + 1) = h by rw [hiTo, if_neg h8, ← HI.out.2.1])
          have el := Lib.hid (show loTo K (i + 1) = l * 2 + 0 by rw [loTo, if_neg h8, ← HI.out.2.2, HBt.out])
          clear h8
          go_wp2
          (try rw [show (l : Int) * 2 + 1 = ((l * 2 + 1 : Nat) : Int) by omega])
          (try rw [show (l : Int) * 2 = ((l * 2 + 0 : Nat) : Int) by omega])
          refine Handed.intro (16 - (i + 1)) ?_ (hJ1 _ _ _ (fun Φ hΦ => hΦ _ _ _ _ _ _ _ _ _ _ _ _ _ _ _ _ _ _ _ _ _ _ _ _ _ _ _ _ _ _ _ _ _ _ _ _ _ _ _ _ _ _ _ _ _ _ _ _ _ _ _ _ _ _ _ _ _ _ _ _ _ _ _ _ _ _ _ _ _ _ _ _ _ _ _ _ _ _ (i + 1) (h) (l * 2 + 0) (S) ?_))
          · have := HI.out.1; omega
          · exact ⟨by have := HI.out.1; omega, eh.out.symm, el.out.symm, HS.out, rfl⟩
      | cons a t =>
        replace HBt : Hid (bitK K i = 1) := HBt
        have HS : Hid (S ++ (a :: t) = (K.take (i + 1)).flatten) := Lib.hid (by rw [HFl.out])
        have ne1 : ((a :: t).toArray = #[]) = False := by simp
        have se : (a :: t).isEmpty = false := rfl
        clear HFl
        generalize hs : (a :: t) = s at *
        have hsum : S.length + s.length ≤ 9223372036854775807 := by omega
        by_cases h8 : i < 8
        · have h8i : (i : Int) < 8 := by omega
          have eh := Lib.hid (show hiTo K (i + 1) = h * 2 + 1 by rw [hiTo, if_pos h8, ← HI.out.2.1, HBt.out])
          have el := Lib.hid (show loTo K (i + 1) = l by rw [loTo, if_pos h8, ← HI.out.2.2])
          clear h8
          go_wp2
          (try rw [show (h : Int) * 2 + 1 = ((h * 2 + 1 : Nat) : Int) by omega])
          (try rw [show (h : Int) * 2 = ((h * 2 + 0 : Nat) : Int) by omega])
          refine Handed.intro (16 - (i + 1)) ?_ (hJ1 _ _ _ (fun Φ hΦ => hΦ _ _ _ _ _ _ _ _ _ _ _ _ _ _ _ _ _ _ _ _ _ _ _ _ _ _ _ _ _ _ _ _ _ _ _ _ _ _ _ _ _ _ _ _ _ _ _ _ _ _ _ _ _ _ _ _ _ _ _ _ _ _ _ _ _ _ _ _ _ _ _ _ _ _ _ _ _ _ (i + 1) (h * 2 + 1) (l) (S ++ s) ?_))
          · have := HI.out.1; omega
          · exact ⟨by have := HI.out.1; omega, eh.out.symm, el.out.symm, HS.out, rfl⟩
        · have h8i : ((i : Int) < 8) = False := by simp; omega
          have eh := Lib.hid (show hiTo K (i + 1) = h by rw [hiTo, if_neg h8, ← HI.out.2.1])
          have el := Lib.hid (show loTo K (i + 1) = l * 2 + 1 by rw [loTo, if_neg h8, ← HI.out.2.2, HBt.out])
          clear h8
          go_wp2
          (try rw [show (l : Int) * 2 + 1 = ((l * 2 + 1 : Nat) : Int) by omega])
          (try rw [show (l : Int) * 2 = ((l * 2 + 0 : Nat) : Int) by omega])
          refine Handed.intro (16 - (i + 1)) ?_ (hJ1 _ _ _ (fun Φ hΦ => hΦ _ _ _ _ _ _ _ _ _ _ _ _ _ _ _ _ _ _ _ _ _ _ _ _ _ _ _ _ _ _ _ _ _ _ _ _ _ _ _ _ _ _ _ _ _ _ _ _ _ _ _ _ _ _ _ _ _ _ _ _ _ _ _ _ _ _ _ _ _ _ _ _ _ _ _ _ _ _ (i + 1) (h) (l * 2 + 1) (S ++ s) ?_))
          · have := HI.out.1; omega
          · exact ⟨by have := HI.out.1; omega, eh.out.symm, el.out.symm, HS.out, rfl⟩
    · have e16 : i = 16 := by omega
      subst e16
      have H2 := Lib.hid (And.intro h2 (And.intro h3 h4))
      rw [List.take_of_length_le (by omega)] at h4
      subst h2
      subst h3
      subst h4
      clear h1 H2
      go_wp2
      exact HQ.out _ _ _ _ _ _ _ _ _ _ _ _ _ _ _ _ _ _ _ _ _ _ _ _ _ _ _ _ _ _ _ _ _ _ _ _ _ _ _ _ _ _ _ _ _ _ _ _ _ _ _ _ _ _ _ _ _ _ _ _ _ _ _ _ _ _ _ _ _ _ _ _ _ _ _ _ _ _ _
end Go.Proofs.YtefcmigbdfeaiaaDoor
