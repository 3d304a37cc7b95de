import Derived.Test.YtefcmigbdfeaiaaDoorK09
import Derived.Test.YtefcmigbdfeaiaaDoorK06
import Derived.Test.YtefcmigbdfeaiaaDoorK01
set_option linter.unusedSimpArgs false
set_option linter.unusedVariables false
namespace Go.Proofs.YtefcmigbdfeaiaaDoor
set_option linter.unusedVariables false
open Go.RowKit Go.Instr
attribute [local go_sem] ba_get ByteArray.mk_append_mk
set_option maxRecDepth 100000 in
set_option maxHeartbeats 1000000 in
theorem encode_ext (p v : List UInt8) (K : List (List UInt8)) (hK : K.length = 16) (hKs : ∀ s ∈ K, s.length ≤ 9223372036854775807) (hf : fineN 2 p v K = true) (w : World) :
    Calls Tryd.prog 112 #[.agg (nodeV 2 p v K).toArray] w (EncEnd w (nodeText 2 p v K) 0) := by
  have hf2 : (Nib.fit p = true ∧ p.length ≤ 16) ∧ (K.getD 0 []).length = 32 ∧ v = [] := by
    simp only [fineN, pathOk, sumsOk] at hf
    simp at hf
    exact ⟨⟨hf.1.2.1, hf.1.2.2.2⟩, by simpa using hf.1.1.2, hf.2⟩
  obtain ⟨hf2a, hK0, rfl⟩ := hf2
  have hf2 := And.intro hf2a hf2a
  clear hf2a
  have HK0 := Lib.hid (strv_at (l := K) (i := 0) (by omega))
  have HK1 := Lib.hid (show K[0]'(by omega) = K.getD 0 [] by rw [List.getD_eq_getElem?_getD, List.getElem?_eq_getElem (show 0 < K.length by omega)]; rfl)
  have HP : Hid (∀ s w', nodeText 2 p [] K = s → Below w.heap.size w w' → EncEnd w (nodeText 2 p [] K) 0 (.returned (.tuple #[.string ⟨s.toArray⟩, .int .i64 0])) w') := Lib.hid (fun b w' h1 h2 => ⟨by rw [h1], h2⟩)
  have HC := node_Check 2 p [] (by omega) (by simp) K hK hKs
  rw [hf] at HC
  have hp16 := hf2.1.2
  have HPk := nib_Pack p false
  rw [show Nib.pack p false = (Nib.packed p false, 0) by unfold Nib.pack; rw [hf2.1.1]; rfl] at HPk
  have hpl := Nib.packed_length p false
  have HT2 := code_Text (Nib.packed p false) (by omega)
  have HF : Hid (nodeText 2 p [] K = 2 :: (textW (Nib.packed p false) ++ K.getD 0 [])) := Lib.hid (by simp [nodeText])
  have hl2 := textW_len (Nib.packed p false) (by omega)
  have hl2' : (textW (Nib.packed p false)).length ≤ 1000 := by omega
  have HSz := Lib.hid (nodeV_size (k := 2) (p := p) (v := []) hK)
  clear hf hf2 hpl hl2
  generalize textW (Nib.packed p false) = tp at *
  generalize Nib.packed p false = pk at *
  generalize EncEnd w (nodeText 2 p [] K) 0 = P at HP ⊢
  generalize nodeText 2 p [] K = S0 at *
  go_enter Tryd.func112, Tryd.ntmps112
  go_upto_region 1 with fail
  have SZ : (Tryd.prog.info? 91).map (·.size) = some (nodeV 2 p [] K).length := by rw [HSz.out]; exact info_node
  have F0 : Hid (Blk (w.alloc (.cells (nodeV 2 p [] K).toArray 91)) w.heap.size 91 (nodeV 2 p [] K).toArray ∧ Below w.heap.size w (w.alloc (.cells (nodeV 2 p [] K).toArray 91))) := Lib.hid ⟨Blk.new _ _ _, by go_grown⟩
  generalize w.alloc (.cells (nodeV 2 p [] K).toArray 91) = W0 at F0 ⊢
  have HB := Lib.hid (show w.heap.size < W0.heap.size from F0.out.1.lt)
  obtain ⟨_, _, _, _, RA⟩ := NodeAt.of (C := []) (by rw [List.append_nil]; exact F0.out.1)
  generalize hB : w.heap.size = B at *
  clear hB
  go_upto_region 2 with (first | (refine wpList_load_mid rfl 91 _ rfl B 0 rfl _ _ RA Tryd.underlying91 rfl SZ ?_) | (go_at_call 120; refine (HC _).mono ?_; rintro e w1 ⟨rfl, hb⟩))
  have F1 := Lib.hid (show Below B w w1 from F0.out.2.trans (hb.mono (Nat.le_of_lt HB.out)))
  have HB1 := Lib.hid (Nat.lt_of_lt_of_le HB.out hb.size)
  have BK1 := Lib.hid (F0.out.1.below hb HB.out)
  clear hb F0 RA HB
  obtain ⟨q0, q1, q2, RK, RA⟩ := NodeAt.of (C := []) (by rw [List.append_nil]; exact BK1.out)
  have cv := conv1 w1 2 (by omega) (by omega)
  go_upto_region 5 with fail
  have F2 : Hid (Blk (w1.alloc (.cells #[.int .u8 2] 5)) B 91 (nodeV 2 p [] K).toArray ∧ Below B w (w1.alloc (.cells #[.int .u8 2] 5)) ∧ B < (w1.alloc (.cells #[.int .u8 2] 5)).heap.size) := Lib.hid ⟨BK1.out.alloc _, F1.out.alloc (Nat.le_of_lt HB1.out) _, by have := HB1.out; simp; omega⟩
  clear cv q0 q1 q2 RK RA
  generalize w1.alloc (.cells #[.int .u8 2] 5) = w2 at F2 ⊢
  clear F1 HB1 BK1
  obtain ⟨q0, q1, q2, RK, _⟩ := NodeAt.of (C := []) (by rw [List.append_nil]; exact F2.out.1)
  go_upto_region 21 with (go_at_call 136; refine (HPk _ (by omega)).mono ?_; rintro e w3 ⟨rfl, hb⟩)
  have F3 : Hid (Blk w3 B 91 (nodeV 2 p [] K).toArray ∧ Below B w w3 ∧ B < w3.heap.size) := Lib.hid ⟨F2.out.1.below hb F2.out.2.2, F2.out.2.1.trans (hb.mono (Nat.le_of_lt F2.out.2.2)), Nat.lt_of_lt_of_le F2.out.2.2 hb.size⟩
  clear hb q0 q1 q2 RK
  obtain ⟨q0, q1, q2, RK, _⟩ := NodeAt.of (C := []) (by rw [List.append_nil]; exact F3.out.1)
  go_upto_region 22 with (go_at_call 99; refine (HT2 _).mono ?_; rintro e w4 ⟨rfl, hb⟩)
  have F4 : Hid (Blk w4 B 91 (nodeV 2 p [] K).toArray ∧ Below B w w4 ∧ B < w4.heap.size) := Lib.hid ⟨F3.out.1.below hb F3.out.2.2, F3.out.2.1.trans (hb.mono (Nat.le_of_lt F3.out.2.2)), Nat.lt_of_lt_of_le F3.out.2.2 hb.size⟩
  clear hb q0 q1 q2 RK
  obtain ⟨q0, q1, q2, RK, _⟩ := NodeAt.of (C := []) (by rw [List.append_nil]; exact F4.out.1)
  have q3 : w4.cell? ⟨B, 3, none⟩ = some (.string ⟨(K.getD 0 []).toArray⟩) := by
    have := RK 0 _ HK0.out
    rwa [HK1.out] at this
  clear HK0 HK1
  generalize K.getD 0 [] = s0 at *
  have hs1 : tp.length + s0.length ≤ 9223372036854775000 := by omega
  go_wp2
  exact HP.out _ _ HF.out F4.out.2.1
theorem node_Encode (k : Nat) (p v : List UInt8) (K : List (List UInt8)) (hK : K.length = 16) (hKs : ∀ s ∈ K, s.length ≤ 9223372036854775807) (hf : fineN k p v K = true) (w : World) :
    Calls Tryd.prog 112 #[.agg (nodeV k p v K).toArray] w (EncEnd w (nodeText k p v K) 0) := by
  by_cases h1 : k = 1
  · subst h1; exact encode_leaf p v K hK hKs hf w
  · by_cases h2 : k = 2
    · subst h2; exact encode_ext p v K hK hKs hf w
    · by_cases h3 : k = 3
      · subst h3
        have hp : p = [] := by simp [fineN] at hf; exact hf.1.1.1
        subst hp
        exact encode_branch v K hK hKs hf w
      · simp [fineN, h1, h2, h3] at hf
end Go.Proofs.YtefcmigbdfeaiaaDoor

namespace Go.Proofs.YtefcmigbdfeaiaaDoor
set_option linter.unusedVariables false
open Go.RowKit Go.Instr
attribute [local go_sem] ba_get ByteArray.mk_append_mk
theorem fineN_parts {k : Nat} {p v : List UInt8} {K : List (List UInt8)} (h : fineN k p v K = true) : (k = 1 ∨ k = 2 ∨ k = 3) ∧ Nib.fit p = true ∧ p.length ≤ 16 ∧ v.length ≤ 32 ∧ sumsOk (kidsW K) = true := by
  unfold fineN at h
  split at h
  · rename_i hk
    simp [pathOk] at h
    obtain ⟨⟨⟨h1, h2⟩, h3⟩, h4⟩ := h
    refine ⟨.inl hk, h2.1, h2.2, h4, ?_⟩
    rw [h1]; rfl
  · split at h
    · rename_i _ hk
      simp only [pathOk, Bool.and_eq_true, decide_eq_true_eq] at h
      obtain ⟨⟨⟨h1, h2⟩, h3⟩, h4⟩ := h
      have h4' : v = [] := by simpa using h4
      refine ⟨.inr (.inl hk), h3.1, h3.2.2, by rw [h4']; simp, ?_⟩
      rw [h1]
      generalize K.getD 0 [] = s at *
      have h5 : s.length = 32 := by simpa [sumsOk] using h2
      have h6 : s.isEmpty = false := by cases s <;> simp_all
      simp [kidsW, sumsOk, h6, h5]
    · split at h
      · rename_i _ _ hk
        simp only [Bool.and_eq_true, decide_eq_true_eq] at h
        obtain ⟨⟨⟨h1, h2⟩, h3⟩, h4⟩ := h
        have h1' : p = [] := by simpa using h1
        subst h1'
        exact ⟨.inr (.inr hk), rfl, by simp, h4, h2⟩
      · cases h
theorem fine_ext {p v : List UInt8} {K : List (List UInt8)} (h : fineN 2 p v K = true) : (K.getD 0 []).length = 32 ∧ K = K.getD 0 [] :: List.replicate 15 [] := by
  unfold fineN at h
  rw [if_neg (by omega), if_pos rfl] at h
  simp only [Bool.and_eq_true, decide_eq_true_eq] at h
  obtain ⟨⟨⟨h1, h2⟩, h3⟩, h4⟩ := h
  refine ⟨?_, h1⟩
  clear h1
  generalize K.getD 0 [] = s at *
  simpa [sumsOk] using h2
theorem nodeText_len {k : Nat} {p v : List UInt8} {K : List (List UInt8)} (hK : K.length = 16) (h : fineN k p v K = true) : (nodeText k p v K).length ≤ 700 := by
  obtain ⟨h1, h2, h3, h4, h5⟩ := fineN_parts h
  have hl1 := textW_len v (by omega)
  have hl2 := textW_len (Nib.packed p (decide (k = 1))) (by rw [Nib.packed_length]; omega)
  rw [Nib.packed_length] at hl2
  have hf := flatten_len _ (kidsW_32 h5)
  have hk16 : (kidsW K).length ≤ 16 := by
    have := List.length_filter_le (fun s : List UInt8 => !s.isEmpty) K
    unfold kidsW; omega
  have := Nat.mul_le_mul_right 32 hk16
  unfold nodeText
  split
  · simp only [List.length_cons, List.length_append]; omega
  · rename_i hk3
    simp only [List.length_cons, List.length_append]
    split
    · omega
    · rename_i hk1
      have hk2 : k = 2 := by omega
      subst hk2
      have := (fine_ext h).1
      omega
def nodeSum (k : Nat) (p v : List UInt8) (K : List (List UInt8)) : List UInt8 := shaW (1 :: nodeText k p v K)
def DigEnd (w : World) (s : List UInt8) (e : Ending) (w' : World) : Prop := e = .returned (.string ⟨s.toArray⟩) ∧ Below w.heap.size w w'
set_option maxRecDepth 100000 in
set_option maxHeartbeats 1000000 in
theorem node_Digest (k : Nat) (p v : List UInt8) (K : List (List UInt8)) (hK : K.length = 16) (hKs : ∀ s ∈ K, s.length ≤ 9223372036854775807) (hf : fineN k p v K = true) (w : World) (hT : Tbl w) :
    Calls Tryd.prog 113 #[.agg (nodeV k p v K).toArray] w (DigEnd w (nodeSum k p v K)) := by
  have HP : Hid (∀ w', Below w.heap.size w w' → DigEnd w (nodeSum k p v K) (.returned (.string ⟨(nodeSum k p v K).toArray⟩)) w') := Lib.hid (fun w' h2 => ⟨rfl, h2⟩)
  have HC := node_Encode k p v K hK hKs hf
  have hl := nodeText_len hK hf
  have HD : ∀ w, Tbl w → Calls Tryd.prog 89 #[.int .i64 1, .string ⟨(nodeText k p v K).toArray⟩] w fun e w' => e = .returned (.tuple #[.string ⟨(nodeSum k p v K).toArray⟩, .int .i64 0]) ∧ Below w.heap.size w w' := fun w h => digest_Sum w 1 (by omega) (by omega) _ (by omega) h
  have HSz := Lib.hid (nodeV_size (k := k) (p := p) (v := v) hK)
  clear hf
  generalize DigEnd w (nodeSum k p v K) = P at HP ⊢
  generalize nodeSum k p v K = S at *
  generalize nodeText k p v K = T at *
  have HTb := Lib.hid hT
  clear hT
  go_enter Tryd.func113, Tryd.ntmps113
  go_upto_region 1 with fail
  have SZ : (Tryd.prog.info? 91).map (·.size) = some (nodeV k p v K).length := by rw [HSz.out]; exact info_node
  have F0 : Hid (Blk (w.alloc (.cells (nodeV k p v K).toArray 91)) w.heap.size 91 (nodeV k p v K).toArray ∧ Below w.heap.size w (w.alloc (.cells (nodeV k p v K).toArray 91))) := Lib.hid ⟨Blk.new _ _ _, by go_grown⟩
  generalize w.alloc (.cells (nodeV k p v K).toArray 91) = W0 at F0 ⊢
  have HB := Lib.hid (show w.heap.size < W0.heap.size from F0.out.1.lt)
  obtain ⟨_, _, _, _, RA⟩ := NodeAt.of (C := []) (by rw [List.append_nil]; exact F0.out.1)
  have HT0 : Hid (Tbl W0) := Lib.hid (HTb.out.next F0.out.2)
  generalize hB : w.heap.size = B at *
  clear hB
  go_upto_region 2 with (first | (refine wpList_load_mid rfl 91 _ rfl B 0 rfl _ _ RA Tryd.underlying91 rfl SZ ?_) | (go_at_call 112; refine (HC _).mono ?_; rintro e w1 ⟨rfl, hb⟩))
  have F1 := Lib.hid (show Below B w w1 from F0.out.2.trans (hb.mono (Nat.le_of_lt HB.out)))
  have HB1 := Lib.hid (Nat.lt_of_lt_of_le HB.out hb.size)
  have HT1 : Hid (Tbl w1) := Lib.hid (HT0.out.next hb)
  clear hb RA
  go_wp2_with (go_at_call 89; refine (HD _ HT1.out).mono ?_; rintro e w2 ⟨rfl, hb⟩)
  exact HP.out _ (F1.out.trans (hb.mono (Nat.le_of_lt HB1.out)))
end Go.Proofs.YtefcmigbdfeaiaaDoor

namespace Go.Proofs.YtefcmigbdfeaiaaDoor
set_option linter.unusedVariables false
theorem snoc_ind {P : List UInt8 → Prop} (h0 : P []) (h1 : ∀ c x, P c → P (c ++ [x])) (l : List UInt8) : P l := by
  have : ∀ m : List UInt8, P m.reverse := by
    intro m
    induction m with
    | nil => exact h0
    | cons x m ih => rw [List.reverse_cons]; exact h1 _ _ ih
  have h := this l.reverse
  rwa [List.reverse_reverse] at h
theorem snoc_cases (l : List UInt8) : l = [] ∨ ∃ c x, l = c ++ [x] := by
  induction l using snoc_ind with
  | h0 => exact .inl rfl
  | h1 c x _ => exact .inr ⟨c, x, rfl⟩
def valBE (b : List UInt8) : Nat := b.foldl (fun n x => n * 256 + x.toNat) 0
theorem valBE_snoc (b : List UInt8) (x : UInt8) : valBE (b ++ [x]) = valBE b * 256 + x.toNat := by simp [valBE]
theorem valBE_lt (b : List UInt8) : valBE b < 256 ^ b.length := by
  induction b using snoc_ind with
  | h0 => simp [valBE]
  | h1 c x this =>
    have hx := x.toNat_lt
    rw [valBE_snoc, List.length_append, List.length_singleton, Nat.pow_succ]
    omega
theorem valBE_beB (n : Nat) : valBE (beB n) = n := by
  rcases Nat.eq_zero_or_pos n with h | h
  · subst h; rw [beB_zero]; rfl
  · rw [beB_pos h, valBE_snoc, valBE_beB (n / 256)]
    simp
    omega
termination_by n
decreasing_by omega
theorem beB_head (n : Nat) : ∀ x r, beB n = x :: r → x ≠ 0 := by
  intro x r e
  rcases Nat.eq_zero_or_pos n with h | h
  · subst h; rw [beB_zero] at e; cases e
  · rw [beB_pos h] at e
    cases hb : beB (n / 256) with
    | nil =>
      rw [hb] at e
      simp at e
      have hz : n / 256 = 0 := by have := valBE_beB (n / 256); rw [hb] at this; simp [valBE] at this; omega
      intro e0
      rw [← e.1] at e0
      have := congrArg UInt8.toNat e0
      simp at this
      omega
    | cons y t =>
      rw [hb] at e
      simp at e
      rw [← e.1]
      exact beB_head (n / 256) y t hb
termination_by n
decreasing_by omega
theorem beB_valBE (b : List UInt8) : (∀ x r, b = x :: r → x ≠ 0) → beB (valBE b) = b := by
  induction b using snoc_ind with
  | h0 => intro _; exact beB_zero
  | h1 c x ih0 =>
    intro h
    have hx := x.toNat_lt
    rw [valBE_snoc]
    cases c with
    | nil =>
      have hx0 : x ≠ 0 := h x [] rfl
      have hp : 0 < x.toNat := by
        rcases Nat.eq_zero_or_pos x.toNat with h0 | h0
        · exact absurd (UInt8.toNat_inj.1 h0) hx0
        · exact h0
      rw [show valBE [] * 256 + x.toNat = x.toNat by simp [valBE], beB_pos hp, show x.toNat / 256 = 0 by omega, beB_zero]
      simp
    | cons y t =>
      have hy : y ≠ 0 := h y (t ++ [x]) rfl
      have ih := ih0 (fun a r e => by injection e with e _; rw [← e]; exact hy)
      have hv : 0 < valBE (y :: t) := by
        rcases Nat.eq_zero_or_pos (valBE (y :: t)) with h0 | h0
        · rw [h0, beB_zero] at ih; cases ih
        · exact h0
      rw [beB_pos (by omega), show (valBE (y :: t) * 256 + x.toNat) / 256 = valBE (y :: t) by omega, ih]
      congr 1
      congr 1
      apply UInt8.toNat_inj.1
      simp
def numT : List UInt8 → Nat × List UInt8 × Nat
  | [] => (0, [], 20)
  | k :: r => if 8 < k.toNat then (0, [], 3) else if r.length < k.toNat then (0, [], 20)
    else if (0 < k.toNat ∧ r.getD 0 0 = 0) ∨ (k.toNat = 8 ∧ 128 ≤ (r.getD 0 0).toNat) then (0, [], 3)
    else (valBE (r.take k.toNat), r.drop k.toNat, 0)
theorem numT_cons (k : UInt8) (r : List UInt8) : numT (k :: r) = if 8 < k.toNat then (0, [], 3) else if r.length < k.toNat then (0, [], 20)
    else if (0 < k.toNat ∧ r.getD 0 0 = 0) ∨ (k.toNat = 8 ∧ 128 ≤ (r.getD 0 0).toNat) then (0, [], 3)
    else (valBE (r.take k.toNat), r.drop k.toNat, 0) := rfl
theorem valBE_cons_lt (x : UInt8) (b : List UInt8) (hx : x.toNat < 128) (hb : b.length ≤ 7) : valBE (x :: b) < 9223372036854775808 := by
  have key : ∀ (b : List UInt8), valBE (x :: b) < (x.toNat + 1) * 256 ^ b.length := by
    intro b
    induction h : b.length generalizing b with
    | zero =>
      have : b = [] := List.eq_nil_of_length_eq_zero h
      subst this
      simp [valBE]
    | succ n ih =>
      rcases snoc_cases b with rfl | ⟨c, y, rfl⟩
      · simp at h
      · have hc : c.length = n := by simp at h; exact h
        have := ih c hc
        have hy := y.toNat_lt
        rw [show x :: (c ++ [y]) = (x :: c) ++ [y] from rfl, valBE_snoc, Nat.pow_succ, ← Nat.mul_assoc]
        omega
  have h1 := key b
  have h2 : (256 : Nat) ^ b.length ≤ 256 ^ 7 := Nat.pow_le_pow_right (by omega) hb
  have h3 : (x.toNat + 1) * 256 ^ b.length ≤ 128 * 256 ^ 7 := Nat.mul_le_mul (by omega) h2
  have h4 : (128 : Nat) * 256 ^ 7 = 9223372036854775808 := by decide
  omega
theorem numT_lt {s r : List UInt8} {n : Nat} (h : numT s = (n, r, 0)) : n < 9223372036854775808 := by
  cases s with
  | nil => simp [numT] at h
  | cons k t =>
    rw [numT_cons] at h
    split at h
    · simp at h
    split at h
    · simp at h
    split at h
    · simp at h
    rename_i h1 h2 h3
    simp only [Prod.mk.injEq] at h
    rw [← h.1]
    have hl : (t.take k.toNat).length = k.toNat := by rw [List.length_take]; omega
    by_cases h8 : k.toNat = 8
    · cases t with
      | nil => simp at h2; omega
      | cons x u =>
        rw [h8, show (x :: u).take 8 = x :: u.take 7 from rfl]
        refine valBE_cons_lt x _ ?_ (by rw [List.length_take]; omega)
        simp at h3
        exact h3.2 h8
    · have h4 := valBE_lt (t.take k.toNat)
      rw [hl] at h4
      have : (256 : Nat) ^ k.toNat ≤ 256 ^ 7 := Nat.pow_le_pow_right (by omega) (by omega)
      have h5 : (256 : Nat) ^ 7 = 72057594037927936 := by decide
      omega
theorem numT_back {s r : List UInt8} {n : Nat} (h : numT s = (n, r, 0)) : s = numW n ++ r := by
  cases s with
  | nil => simp [numT] at h
  | cons k t =>
    rw [numT_cons] at h
    split at h
    · simp at h
    split at h
    · simp at h
    split at h
    · simp at h
    rename_i h1 h2 h3
    simp only [Prod.mk.injEq] at h
    obtain ⟨e1, e2, _⟩ := h
    have hl : (t.take k.toNat).length = k.toNat := by rw [List.length_take]; omega
    have hb : beB n = t.take k.toNat := by
      rw [← e1]
      refine beB_valBE _ fun x u e => ?_
      have hk : 0 < k.toNat := by rw [← hl, e]; simp
      intro hx
      apply h3
      left
      refine ⟨hk, ?_⟩
      cases t with
      | nil => simp at e
      | cons y v =>
        rw [show k.toNat = (k.toNat - 1) + 1 by omega, List.take_succ_cons] at e
        injection e with e _
        rw [List.getD_cons_zero, e, hx]
    rw [numW, hb, hl, ← e2]
    simp
theorem numT_of (n : Nat) (hn : n < 9223372036854775808) (r : List UInt8) : numT (numW n ++ r) = (n, r, 0) := by
  have hl := beB_len 8 n (by omega)
  have hk : (UInt8.ofNat (beB n).length).toNat = (beB n).length := by simp; omega
  rw [show numW n ++ r = UInt8.ofNat (beB n).length :: (beB n ++ r) from rfl]
  rw [numT_cons, hk, if_neg (by omega), if_neg (by simp)]
  have hh : ¬ ((0 < (beB n).length ∧ (beB n ++ r).getD 0 0 = 0) ∨ ((beB n).length = 8 ∧ 128 ≤ ((beB n ++ r).getD 0 0).toNat)) := by
    cases hb : beB n with
    | nil => simp
    | cons x t =>
      have hx := beB_head n x t hb
      simp only [List.cons_append, List.getD_cons_zero]
      rintro (⟨_, h⟩ | ⟨h8, h⟩)
      · exact hx h
      · have hv := valBE_beB n
        rw [hb] at hv
        have hlow : ∀ c : List UInt8, x.toNat * 256 ^ c.length ≤ valBE (x :: c) := by
          intro c
          induction hc : c.length generalizing c with
          | zero =>
            have : c = [] := List.eq_nil_of_length_eq_zero hc
            subst this
            simp [valBE]
          | succ m ih =>
            rcases snoc_cases c with rfl | ⟨d, y, rfl⟩
            · simp at hc
            · have hd : d.length = m := by simp at hc; exact hc
              have := ih d hd
              rw [show x :: (d ++ [y]) = (x :: d) ++ [y] from rfl, valBE_snoc, Nat.pow_succ, ← Nat.mul_assoc]
              omega
        have h7 : t.length = 7 := by simp at h8; exact h8
        have h1 := hlow t
        rw [hv, h7] at h1
        have h2 : 128 * 256 ^ 7 ≤ x.toNat * 256 ^ 7 := Nat.mul_le_mul_right _ h
        have h4 : (128 : Nat) * 256 ^ 7 = 9223372036854775808 := by decide
        omega
  rw [if_neg hh]
  simp [valBE_beB]
def txtT (s : List UInt8) (most : Nat) : List UInt8 × List UInt8 × Nat :=
  if (numT s).2.2 ≠ 0 then ([], [], (numT s).2.2)
  else if most < (numT s).1 then ([], [], 2) else if (numT s).2.1.length < (numT s).1 then ([], [], 20)
  else ((numT s).2.1.take (numT s).1, (numT s).2.1.drop (numT s).1, 0)
theorem txtT_back {s t r : List UInt8} {m : Nat} (h : txtT s m = (t, r, 0)) : s = textW t ++ r ∧ t.length ≤ m := by
  unfold txtT at h
  split at h
  · simp at h; exact absurd h.2.2 (by assumption)
  split at h
  · simp at h
  split at h
  · simp at h
  rename_i h1 h2 h3
  simp only [Prod.mk.injEq] at h
  obtain ⟨e1, e2, _⟩ := h
  have hb := numT_back (s := s) (n := (numT s).1) (r := (numT s).2.1) (by
    have : (numT s).2.2 = 0 := by omega
    rw [← this])
  have hl : t.length = (numT s).1 := by rw [← e1, List.length_take]; omega
  refine ⟨?_, by omega⟩
  rw [textW, hl]
  conv => lhs; rw [hb]
  rw [← e1, ← e2, List.append_assoc, List.take_append_drop]
theorem txtT_of (t r : List UInt8) (m : Nat) (hm : t.length ≤ m) (hl : t.length < 9223372036854775808) : txtT (textW t ++ r) m = (t, r, 0) := by
  unfold txtT textW
  rw [List.append_assoc, numT_of _ hl]
  simp only
  rw [if_neg (by simp), if_neg (by omega), if_neg (by simp)]
  simp
end Go.Proofs.YtefcmigbdfeaiaaDoor

namespace Go.Proofs.YtefcmigbdfeaiaaDoor
set_option linter.unusedVariables false
open Go.RowKit Go.Instr
attribute [local go_sem] ba_get ByteArray.mk_append_mk
theorem extract_drop (s : List UInt8) (c : Nat) : (ByteArray.mk s.toArray).extract c (ByteArray.mk s.toArray).size = ⟨(s.drop c).toArray⟩ := by
  apply ByteArray.ext
  rw [ByteArray.data_extract]
  show s.toArray.extract c s.toArray.size = _
  rw [List.extract_toArray]
  simp [List.take_of_length_le]
theorem extract_take (s : List UInt8) (c : Nat) : (ByteArray.mk s.toArray).extract 0 c = ⟨(s.take c).toArray⟩ := by
  apply ByteArray.ext
  rw [ByteArray.data_extract]
  show s.toArray.extract 0 c = _
  rw [List.extract_toArray]
  simp
theorem run_drop (s : List UInt8) (c : Nat) (h : c ≤ s.length) (w : World) : (Instr.slice 9 (.string ⟨s.toArray⟩) (some (.int .i64 (c : Int))) none none).run Tryd.prog w = .ok (.string ⟨(s.drop c).toArray⟩) w := by
  have := run_slice_string_l (P := Tryd.prog) (t := 9) (s := ⟨s.toArray⟩) (w := w) Tryd.underlying9 .i64 (c : Int) (by omega) (by show (c : Int) ≤ (s.toArray.size : Nat); simp; omega)
  rwa [show ((c : Int)).toNat = c by omega, extract_drop] at this
theorem run_take (s : List UInt8) (c : Nat) (h : c ≤ s.length) (w : World) : (Instr.slice 9 (.string ⟨s.toArray⟩) none (some (.int .i64 (c : Int))) none).run Tryd.prog w = .ok (.string ⟨(s.take c).toArray⟩) w := by
  have := run_slice_string_h (P := Tryd.prog) (t := 9) (s := ⟨s.toArray⟩) (w := w) Tryd.underlying9 .i64 (c : Int) (by omega) (by show (c : Int) ≤ (s.toArray.size : Nat); simp; omega)
  rwa [show ((c : Int)).toNat = c by omega, extract_take] at this
theorem run_tail (b : UInt8) (r : List UInt8) (w : World) : (Instr.slice 9 (.string ⟨(b :: r).toArray⟩) (some (.int .i64 1)) none none).run Tryd.prog w = .ok (.string ⟨r.toArray⟩) w := run_drop (b :: r) 1 (by simp) w
end Go.Proofs.YtefcmigbdfeaiaaDoor
