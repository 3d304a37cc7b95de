import Derived.Test.YtcjafcbekegmlaaGreatDoorJ34
import Derived.Test.YtcjafcbekegmlaaGreatDoorJ33
import Derived.Test.YtcjafcbekegmlaaGreatDoorJ31
set_option linter.unusedSimpArgs false
set_option linter.unusedVariables false
namespace Go.Proofs.YtcjafcbekegmlaaGreatDoor
set_option linter.unusedVariables false
open Go.RowKit Go.Instr
attribute [local go_sem] ba_get ByteArray.mk_append_mk
def bitK (K : List (List UInt8)) (i : Nat) : Nat := if (K.getD i []).isEmpty then 0 else 1
def hiTo (K : List (List UInt8)) : Nat → Nat
  | 0 => 0
  | i + 1 => if i < 8 then hiTo K i * 2 + bitK K i else hiTo K i
def loTo (K : List (List UInt8)) : Nat → Nat
  | 0 => 0
  | i + 1 => if i < 8 then loTo K i else loTo K i * 2 + bitK K i
theorem bitK_le (K : List (List UInt8)) (i : Nat) : bitK K i ≤ 1 := by unfold bitK; split <;> omega
theorem bit_pow (K : List (List UInt8)) (i n : Nat) : (if (K.getD i []).isEmpty then 0 else n) = bitK K i * n := by unfold bitK; split <;> simp
theorem hilo (K : List (List UInt8)) : bitsTo K 16 / 256 = hiTo K 16 ∧ bitsTo K 16 % 256 = loTo K 16 := by
  simp only [bitsTo, hiTo, loTo, bit_pow]
  have h := bitK_le K
  have h0 := h 0
  have h1 := h 1
  have h2 := h 2
  have h3 := h 3
  have h4 := h 4
  have h5 := h 5
  have h6 := h 6
  have h7 := h 7
  have h8 := h 8
  have h9 := h 9
  have h10 := h 10
  have h11 := h 11
  have h12 := h 12
  have h13 := h 13
  have h14 := h 14
  have h15 := h 15
  simp
  omega
theorem hiTo_lt (K : List (List UInt8)) : ∀ i, hiTo K i < 2 ^ (min i 8)
  | 0 => by simp [hiTo]
  | i + 1 => by
    have ih := hiTo_lt K i
    have hb := bitK_le K i
    simp only [hiTo]
    split
    · rw [show min (i + 1) 8 = min i 8 + 1 by omega, Nat.pow_succ]; omega
    · rw [show min (i + 1) 8 = min i 8 by omega]; exact ih
theorem loTo_lt (K : List (List UInt8)) : ∀ i, i ≤ 16 → loTo K i < 2 ^ (i - 8)
  | 0, _ => by simp [loTo]
  | i + 1, h => by
    have ih := loTo_lt K i (by omega)
    have hb := bitK_le K i
    simp only [loTo]
    split
    · rw [show i + 1 - 8 = i - 8 by omega]; exact ih
    · rw [show i + 1 - 8 = i - 8 + 1 by omega, Nat.pow_succ]; omega
theorem pow_le8 {n : Nat} (h : n ≤ 8) : 2 ^ n ≤ 256 := by
  have : 2 ^ n ≤ 2 ^ 8 := Nat.pow_le_pow_right (by omega) h
  omega
theorem kidsW_flat (K : List (List UInt8)) : (kidsW K).flatten = K.flatten := by
  induction K with
  | nil => rfl
  | cons a t ih =>
    unfold kidsW at ih ⊢
    rw [List.filter_cons]
    cases a <;> simp [ih]
set_option maxRecDepth 100000 in
set_option maxHeartbeats 1000000 in
theorem refwritten_loop (w0 : World) (B kk : Nat) (p v : List UInt8) (T : ByteArray) (K : List (List UInt8)) (hK : K.length = 16) (h32 : ∀ s ∈ K, s.length ≤ 32) (HB : Hid (Blk w0 B 107 (nodeV kk p v K).toArray))
    (Q : Exit → Act → World → Prop)
    (hQ : ∀ (s0 s2 s7 s8 s9 s10 s11 s12 s13 s14 s15 s16 s17 s18 s19 s20 s21 s22 s23 s24 s25 s26 s27 s28 s29 s30 s31 s32 s33 s34 s35 s36 s37 s38 s39 s40 s41 s42 s43 s44 s45 s46 s47 s48 s49 s50 s51 s52 s53 s54 s55 s56 s57 s58 s59 s60 s61 s62 s63 s64 s65 s66 s67 s68 s69 s70 s71 s72 s73 s74 s75 s76 s77 s78 s79 s80 s81 s82 s83 : Value), Q (.exit 0) { tmps := #[s0, .pointer (some ⟨B, 0, none⟩), s2, .string T, .int .i64 (hiTo K 16 : Int), .int .i64 (loTo K 16 : Int), .string ⟨K.flatten.toArray⟩, s7, s8, s9, s10, s11, s12, s13, s14, s15, s16, s17, s18, s19, s20, s21, s22, s23, s24, s25, s26, s27, s28, s29, s30, s31, s32, s33, s34, s35, s36, s37, s38, s39, s40, s41, s42, s43, s44, s45, s46, s47, s48, s49, s50, s51, s52, s53, s54, s55, s56, s57, s58, s59, s60, s61, s62, s63, s64, s65, s66, s67, s68, s69, s70, s71, s72, s73, s74, s75, s76, s77, s78, s79, s80, s81, s82, s83], defers := [] } w0)
    (s0 s2 s8 s9 s10 s11 s12 s13 s14 s15 s16 s17 s18 s19 s20 s21 s22 s23 s24 s25 s26 s27 s28 s29 s30 s31 s32 s33 s34 s35 s36 s37 s38 s39 s40 s41 s42 s43 s44 s45 s46 s47 s48 s49 s50 s51 s52 s53 s54 s55 s56 s57 s58 s59 s60 s61 s62 s63 s64 s65 s66 s67 s68 s69 s70 s71 s72 s73 s74 s75 s76 s77 s78 s79 s80 s81 s82 s83 : Value) :
    Code.wp Tryz.prog (.loop (loopAt Tryz.f132 0)) Q { tmps := #[s0, .pointer (some ⟨B, 0, none⟩), s2, .string T, .int .i64 0, .int .i64 0, .string ⟨#[]⟩, .int .i64 0, s8, s9, s10, s11, s12, s13, s14, s15, s16, s17, s18, s19, s20, s21, s22, s23, s24, s25, s26, s27, s28, s29, s30, s31, s32, s33, s34, s35, s36, s37, s38, s39, s40, s41, s42, s43, s44, s45, s46, s47, s48, s49, s50, s51, s52, s53, s54, s55, s56, s57, s58, s59, s60, s61, s62, s63, s64, s65, s66, s67, s68, s69, s70, s71, s72, s73, s74, s75, s76, s77, s78, s79, s80, s81, s82, s83], defers := [] } w0 := by
  have HQ := Lib.hid hQ
  clear hQ
  refine wp_loop_ghost_k (fun k a wr => ∀ Φ : Act → Prop, (∀ (s0 s2 s8 s9 s10 s11 s12 s13 s14 s15 s16 s17 s18 s19 s20 s21 s22 s23 s24 s25 s26 s27 s28 s29 s30 s31 s32 s33 s34 s35 s36 s37 s38 s39 s40 s41 s42 s43 s44 s45 s46 s47 s48 s49 s50 s51 s52 s53 s54 s55 s56 s57 s58 s59 s60 s61 s62 s63 s64 s65 s66 s67 s68 s69 s70 s71 s72 s73 s74 s75 s76 s77 s78 s79 s80 s81 s82 s83 : Value) (i h l : Nat) (S : List UInt8), (i + k = 16 ∧ h = hiTo K i ∧ l = loTo K i ∧ S = (K.take i).flatten ∧ wr = w0) → Φ { tmps := #[s0, .pointer (some ⟨B, 0, none⟩), s2, .string T, .int .i64 (h : Int), .int .i64 (l : Int), .string ⟨S.toArray⟩, .int .i64 (i : Int), s8, s9, s10, s11, s12, s13, s14, s15, s16, s17, s18, s19, s20, s21, s22, s23, s24, s25, s26, s27, s28, s29, s30, s31, s32, s33, s34, s35, s36, s37, s38, s39, s40, s41, s42, s43, s44, s45, s46, s47, s48, s49, s50, s51, s52, s53, s54, s55, s56, s57, s58, s59, s60, s61, s62, s63, s64, s65, s66, s67, s68, s69, s70, s71, s72, s73, s74, s75, s76, s77, s78, s79, s80, s81, s82, s83], defers := [] }) → Φ a) (16) ?_ ?_
  · refine fun Φ hΦ => hΦ _ _ _ _ _ _ _ _ _ _ _ _ _ _ _ _ _ _ _ _ _ _ _ _ _ _ _ _ _ _ _ _ _ _ _ _ _ _ _ _ _ _ _ _ _ _ _ _ _ _ _ _ _ _ _ _ _ _ _ _ _ _ _ _ _ _ _ _ _ _ _ _ _ _ _ _ _ _ (0) (0) (0) ([]) ?_
    exact ⟨by omega, rfl, rfl, rfl, rfl⟩
  · intro k1 a1 wr1 hI1 J1 K1 hJ1 hK1
    refine hI1 (fun a => Code.wp _ _ _ a _) ?_
    clear hI1 a1
    intro s0 s1 s2 s3 s4 s5 s6 s7 s8 s9 s10 s11 s12 s13 s14 s15 s16 s17 s18 s19 s20 s21 s22 s23 s24 s25 s26 s27 s28 s29 s30 s31 s32 s33 s34 s35 s36 s37 s38 s39 s40 s41 s42 s43 s44 s45 s46 s47 s48 s49 s50 s51 s52 s53 s54 s55 s56 s57 s58 s59 s60 s61 s62 s63 s64 s65 s66 s67 s68 s69 s70 s71 s72 s73 s74 s75 s76 s77 i h l S hrel
    show Code.wp _ _ _ _ _
    conv => arg 2; whnf
    obtain ⟨h1, h2, h3, h4, rfl⟩ := hrel
    by_cases hi : i < 16
    · have hi1 : (i : Int) < 16 := by omega
      obtain ⟨_, _, _, RK, _⟩ := NodeAt.of (C := []) (by rw [List.append_nil]; exact HB.out)
      have hKi : K[i]? = some (K.getD i []) := by rw [List.getD_eq_getElem?_getD, List.getElem?_eq_getElem (show i < K.length by omega)]; rfl
      have ec : wr1.cell? ⟨B, 3 + i, none⟩ = some (.string ⟨(K.getD i []).toArray⟩) := RK i _ (strv_getD (by omega))
      have hl := Lib.hid (show S.length ≤ 1000 by
        have := flatten_len (n := 32) (K.take i) (fun s hs => h32 s (List.mem_of_mem_take hs))
        rw [h4]; rw [List.length_take] at this; omega)
      have hs32 : (K.getD i []).length ≤ 32 := h32 _ (List.mem_of_getElem? hKi)
      have HFl : Hid ((K.take (i + 1)).flatten = S ++ K.getD i []) := Lib.hid (by
        rw [List.take_add_one, hKi, List.flatten_append, h4]; simp)
      have hh := hiTo_lt K i
      have hl2 := loTo_lt K i (by omega)
      have hp1 := pow_le8 (n := min i 8) (by omega)
      have hp2 := pow_le8 (n := i - 8) (by omega)
      rw [← h2] at hh
      rw [← h3] at hl2
      have hh : h ≤ 256 := by omega
      have hll : l ≤ 256 := by omega
      have HI := Lib.hid (And.intro h1 (And.intro h2 h3))
      have HBt : Hid (bitK K i = if (K.getD i []).isEmpty then 0 else 1) := Lib.hid rfl
      have hsl := hl.out
      clear RK h1 h2 h3 h4 hKi hl2 hp1 hp2 h32
      generalize K.getD i [] = s at *
      cases s with
      | nil =>
        replace HBt : Hid (bitK K i = 0) := HBt
        have HS : Hid (S = (K.take (i + 1)).flatten) := Lib.hid (by rw [HFl.out, List.append_nil])
        by_cases h8 : i < 8
        · have h8i : (i : Int) < 8 := by omega
          have eh := Lib.hid (show hiTo K (i + 1) = h * 2 + 0 by rw [hiTo, if_pos h8, ← HI.out.2.1, HBt.out])
          have el := Lib.hid (show loTo K (i + 1) = l by rw [loTo, if_pos h8, ← HI.out.2.2])
          clear h8
          go_wp2
          (try rw [show (h : Int) * 2 + 1 = ((h * 2 + 1 : Nat) : Int) by omega])
          (try rw [show (h : Int) * 2 = ((h * 2 + 0 : Nat) : Int) by omega])
          refine Handed.intro (16 - (i + 1)) ?_ (hJ1 _ _ _ (fun Φ hΦ => hΦ _ _ _ _ _ _ _ _ _ _ _ _ _ _ _ _ _ _ _ _ _ _ _ _ _ _ _ _ _ _ _ _ _ _ _ _ _ _ _ _ _ _ _ _ _ _ _ _ _ _ _ _ _ _ _ _ _ _ _ _ _ _ _ _ _ _ _ _ _ _ _ _ _ _ _ _ _ _ (i + 1) (h * 2 + 0) (l) (S) ?_))
          · have := HI.out.1; omega
          · exact ⟨by have := HI.out.1; omega, eh.out.symm, el.out.symm, HS.out, rfl⟩
        · have h8i : ((i : Int) < 8) = False := by simp; omega
          have eh := Lib.hid (show hiTo K (i + 1) = h by rw [hiTo, if_neg h8, ← HI.out.2.1])
          have el := Lib.hid (show loTo K (i + 1) = l * 2 + 0 by rw [loTo, if_neg h8, ← HI.out.2.2, HBt.out])
          clear h8
          go_wp2
          (try rw [show (l : Int) * 2 + 1 = ((l * 2 + 1 : Nat) : Int) by omega])
          (try rw [show (l : Int) * 2 = ((l * 2 + 0 : Nat) : Int) by omega])
          refine Handed.intro (16 - (i + 1)) ?_ (hJ1 _ _ _ (fun Φ hΦ => hΦ _ _ _ _ _ _ _ _ _ _ _ _ _ _ _ _ _ _ _ _ _ _ _ _ _ _ _ _ _ _ _ _ _ _ _ _ _ _ _ _ _ _ _ _ _ _ _ _ _ _ _ _ _ _ _ _ _ _ _ _ _ _ _ _ _ _ _ _ _ _ _ _ _ _ _ _ _ _ (i + 1) (h) (l * 2 + 0) (S) ?_))
          · have := HI.out.1; omega
          · exact ⟨by have := HI.out.1; omega, eh.out.symm, el.out.symm, HS.out, rfl⟩
      | cons a t =>
        replace HBt : Hid (bitK K i = 1) := HBt
        have HS : Hid (S ++ (a :: t) = (K.take (i + 1)).flatten) := Lib.hid (by rw [HFl.out])
        have ne1 : ((a :: t).toArray = #[]) = False := by simp
        have se : (a :: t).isEmpty = false := rfl
        clear HFl
        generalize hs : (a :: t) = s at *
        have hsum : S.length + s.length ≤ 9223372036854775807 := by omega
        by_cases h8 : i < 8
        · have h8i : (i : Int) < 8 := by omega
          have eh := Lib.hid (show hiTo K (i + 1) = h * 2 + 1 by rw [hiTo, if_pos h8, ← HI.out.2.1, HBt.out])
          have el := Lib.hid (show loTo K (i + 1) = l by rw [loTo, if_pos h8, ← HI.out.2.2])
          clear h8
          go_wp2
          (try rw [show (h : Int) * 2 + 1 = ((h * 2 + 1 : Nat) : Int) by omega])
          (try rw [show (h : Int) * 2 = ((h * 2 + 0 : Nat) : Int) by omega])
          refine Handed.intro (16 - (i + 1)) ?_ (hJ1 _ _ _ (fun Φ hΦ => hΦ _ _ _ _ _ _ _ _ _ _ _ _ _ _ _ _ _ _ _ _ _ _ _ _ _ _ _ _ _ _ _ _ _ _ _ _ _ _ _ _ _ _ _ _ _ _ _ _ _ _ _ _ _ _ _ _ _ _ _ _ _ _ _ _ _ _ _ _ _ _ _ _ _ _ _ _ _ _ (i + 1) (h * 2 + 1) (l) (S ++ s) ?_))
          · have := HI.out.1; omega
          · exact ⟨by have := HI.out.1; omega, eh.out.symm, el.out.symm, HS.out, rfl⟩
        · have h8i : ((i : Int) < 8) = False := by simp; omega
          have eh := Lib.hid (show hiTo K (i + 1) = h by rw [hiTo, if_neg h8, ← HI.out.2.1])
          have el := Lib.hid (show loTo K (i + 1) = l * 2 + 1 by rw [loTo, if_neg h8, ← HI.out.2.2, HBt.out])
          clear h8
          go_wp2
          (try rw [show (l : Int) * 2 + 1 = ((l * 2 + 1 : Nat) : Int) by omega])
          (try rw [show (l : Int) * 2 = ((l * 2 + 0 : Nat) : Int) by omega])
          refine Handed.intro (16 - (i + 1)) ?_ (hJ1 _ _ _ (fun Φ hΦ => hΦ _ _ _ _ _ _ _ _ _ _ _ _ _ _ _ _ _ _ _ _ _ _ _ _ _ _ _ _ _ _ _ _ _ _ _ _ _ _ _ _ _ _ _ _ _ _ _ _ _ _ _ _ _ _ _ _ _ _ _ _ _ _ _ _ _ _ _ _ _ _ _ _ _ _ _ _ _ _ (i + 1) (h) (l * 2 + 1) (S ++ s) ?_))
          · have := HI.out.1; omega
          · exact ⟨by have := HI.out.1; omega, eh.out.symm, el.out.symm, HS.out, rfl⟩
    · have e16 : i = 16 := by omega
      subst e16
      have H2 := Lib.hid (And.intro h2 (And.intro h3 h4))
      rw [List.take_of_length_le (by omega)] at h4
      subst h2
      subst h3
      subst h4
      clear h1 H2
      go_wp2
      exact HQ.out _ _ _ _ _ _ _ _ _ _ _ _ _ _ _ _ _ _ _ _ _ _ _ _ _ _ _ _ _ _ _ _ _ _ _ _ _ _ _ _ _ _ _ _ _ _ _ _ _ _ _ _ _ _ _ _ _ _ _ _ _ _ _ _ _ _ _ _ _ _ _ _ _ _ _ _ _ _ _
end Go.Proofs.YtcjafcbekegmlaaGreatDoor

namespace Go.Proofs.YtcjafcbekegmlaaGreatDoor
set_option linter.unusedVariables false
open Go.RowKit Go.Instr
attribute [local go_sem] ba_get ByteArray.mk_append_mk
set_option maxRecDepth 100000 in
set_option maxHeartbeats 4000000 in
theorem ref08_written3 (w : World) (v : List UInt8) (K : List (List UInt8)) (hK : K.length = 16) (hf : fineN 3 [] v K = true) :
    Calls Tryz.prog 132 #[.agg (nodeV 3 [] v K).toArray] w (Ret w (.string ⟨(nodeText 3 [] v K).toArray⟩)) := by
  obtain ⟨_, _, _, hv, hs⟩ := fineN_parts hf
  have h32 : ∀ s ∈ K, s.length ≤ 32 := fun s hsK => by
    by_cases he : s.isEmpty
    · rw [List.isEmpty_iff.1 he]; simp
    · exact kidsW_32 hs s (by unfold kidsW; exact List.mem_filter.2 ⟨hsK, by simp at he; simp [he]⟩)
  have hx : nodeText 3 [] v K = (3 :: UInt8.ofNat (hiTo K 16 : Int).toNat :: [UInt8.ofNat (loTo K 16 : Int).toNat]) ++ (K.flatten ++ textW v) := by
    unfold nodeText
    rw [if_pos rfl, kidsW_flat]
    obtain ⟨e1, e2⟩ := hilo K
    rw [Int.toNat_natCast, Int.toNat_natCast, ← e1, ← e2, ofNat_mod256]
    rfl
  have HP : Hid (∀ s w', nodeText 3 [] v K = s → Below w.heap.size w w' → Ret w (.string ⟨(nodeText 3 [] v K).toArray⟩) (Ending.returned (.string ⟨s.toArray⟩)) w') := Lib.hid (fun b w' h h2 => by rw [h]; exact ⟨rfl, h2⟩)
  generalize Ret w (.string ⟨(nodeText 3 [] v K).toArray⟩) = P at HP ⊢
  rw [hx] at HP
  have HT := Lib.hid (fun W => ref02_Text v (by omega) W)
  have htl := textW_len v (by omega)
  have hfl := flatten_len (n := 32) K h32
  rw [hK] at hfl
  have g1 := hiTo_lt K 16
  have g2 := loTo_lt K 16 (by omega)
  have H32 := Lib.hid h32
  have hKl : K.flatten.length ≤ 600 := by omega
  have htl2 : (textW v).length ≤ 100 := by omega
  have g1 : (hiTo K 16 : Int) < 256 := by simp at g1; omega
  have g2 : (loTo K 16 : Int) < 256 := by simp at g2; omega
  have g1b : (0 : Int) ≤ (hiTo K 16 : Int) := by omega
  have g2b : (0 : Int) ≤ (loTo K 16 : Int) := by omega
  clear hs hx h32 htl hfl
  go_enter Tryz.func132, Tryz.ntmps132
  go_upto_region 1 with fail
  have F := Live.ha (Lib.hid (Live.start w)) (nodeV 3 [] v K).toArray 107
  generalize w.alloc (.cells (nodeV 3 [] v K).toArray 107) = W0 at F ⊢
  obtain ⟨q0, q1, q2, RK, _⟩ := NodeAt.of (C := []) (by rw [List.append_nil]; exact F.out.blk 0 rfl)
  have cv := conv1 W0 3 (by omega) (by omega)
  go_upto_region 2 with fail
  have F := Live.ha F #[.int .u8 3] 5
  clear cv q0 q1 q2 RK
  generalize W0.alloc (.cells #[.int .u8 3] 5) = W1 at F ⊢
  replace F : Hid (Live w W1 [(w.heap.size, 107, (nodeV 3 [] v K).toArray)]) := Lib.hid (F.out.drop 1)
  obtain ⟨q0, q1, q2, RK, _⟩ := NodeAt.of (C := []) (by rw [List.append_nil]; exact F.out.blk 0 rfl)
  go_upto_region 6 with fail
  refine refwritten_loop W1 w.heap.size 3 [] v _ K hK H32.out (Lib.hid (F.out.blk 0 rfl)) _ ?_ _ _ _ _ _ _ _ _ _ _ _ _ _ _ _ _ _ _ _ _ _ _ _ _ _ _ _ _ _ _ _ _ _ _ _ _ _ _ _ _ _ _ _ _ _ _ _ _ _ _ _ _ _ _ _ _ _ _ _ _ _ _ _ _ _ _ _ _ _ _ _ _ _ _ _ _ _ _
  intro s0 s2 s7 s8 s9 s10 s11 s12 s13 s14 s15 s16 s17 s18 s19 s20 s21 s22 s23 s24 s25 s26 s27 s28 s29 s30 s31 s32 s33 s34 s35 s36 s37 s38 s39 s40 s41 s42 s43 s44 s45 s46 s47 s48 s49 s50 s51 s52 s53 s54 s55 s56 s57 s58 s59 s60 s61 s62 s63 s64 s65 s66 s67 s68 s69 s70 s71 s72 s73 s74 s75 s76 s77 s78 s79 s80 s81 s82 s83
  go_upto_region 15 with fail
  generalize K.flatten = D at *
  generalize textW v = Y at *
  generalize (hiTo K 16 : Int) = hi at *
  generalize (loTo K 16 : Int) = lo at *
  have e1 : IntKind.u8.wrap hi = hi := IntWalk.u8_in _ (by omega)
  have e2 : IntKind.u8.wrap lo = lo := IntWalk.u8_in _ (by omega)
  have FA := Live.ha F #[.int .u8 hi, .int .u8 lo] 5
  have cd := conv2b (FA.out.blk 0 rfl).drew g1b g1 g2b g2
  have kA : (W1.alloc (.cells #[.int .u8 hi, .int .u8 lo] 5)).cell? ⟨w.heap.size, 2, none⟩ = some (.string ⟨v.toArray⟩) := FA.out.cell 1 2 rfl rfl
  have hn1 : (9223372036854775807 < 3 + D.length) = False := by simp; omega
  have hn2 : (9223372036854775807 < D.length + 1 + 1 + 1 + Y.length) = False := by simp; omega
  have hn3 : 3 + D.length + Y.length ≤ 9223372036854775807 := by omega
  go_region_law (refine step_call rfl 104 #[.string ⟨v.toArray⟩] (by go_simp) _ (HT.out _) ?_; rintro e w1 ⟨rfl, hb⟩; refine ⟨_, rfl, ?_⟩; (first | (have F := Live.hbd FA hb; have k2 : w1.cell? ⟨w.heap.size, 2, none⟩ = some (.string ⟨v.toArray⟩) := F.out.cell 1 2 rfl rfl; have cd1 := conv2b (F.out.blk 0 rfl) g1b g1 g2b g2) | (have F := Live.hbd F hb; have k2 : w1.cell? ⟨w.heap.size, 2, none⟩ = some (.string ⟨v.toArray⟩) := F.out.cell 0 2 rfl rfl; have F := Live.ha F #[.int .u8 hi, .int .u8 lo] 5; have cd1 := conv2b (F.out.blk 0 rfl) g1b g1 g2b g2)))
  all_goals go_wp2
  all_goals (first | exact HP.out _ _ rfl (by first | exact F.out.b | exact F.out.b.drew) | (go_ret; exact HP.out _ _ rfl (by first | exact F.out.b | exact F.out.b.drew)))
end Go.Proofs.YtcjafcbekegmlaaGreatDoor

namespace Go.Proofs.YtcjafcbekegmlaaGreatDoor
set_option linter.unusedVariables false
open Go.RowKit Go.Instr
attribute [local go_sem] ba_get ByteArray.mk_append_mk
set_option maxRecDepth 100000 in
set_option maxHeartbeats 4000000 in
theorem ref08_written1 (w : World) (p v : List UInt8) (K : List (List UInt8)) (hK : K.length = 16) (hf : fineN 1 p v K = true) :
    Calls Tryz.prog 132 #[.agg (nodeV 1 p v K).toArray] w (Ret w (.string ⟨(nodeText 1 p v K).toArray⟩)) := by
  obtain ⟨_, hfit, hp, hv, hs⟩ := fineN_parts hf
  have HP : Hid (∀ s w', nodeText 1 p v K = s → Below w.heap.size w w' → Ret w (.string ⟨(nodeText 1 p v K).toArray⟩) (Ending.returned (.string ⟨s.toArray⟩)) w') := Lib.hid (fun b w' h h2 => by rw [h]; exact ⟨rfl, h2⟩)
  generalize Ret w (.string ⟨(nodeText 1 p v K).toArray⟩) = P at HP ⊢
  rw [show nodeText 1 p v K = 1 :: (textW (Nib.packed p true) ++ textW v) from rfl] at HP
  have hpl := Nib.packed_length p true
  have HPk := Lib.hid (fun W => refnib_Pack p true W (by omega))
  rw [show Nib.pack p true = (Nib.packed p true, 0) by unfold Nib.pack; rw [hfit]; rfl] at HPk
  have HT1 := Lib.hid (fun W => ref02_Text (Nib.packed p true) (by omega) W)
  have HT2 := Lib.hid (fun W => ref02_Text v (by omega) W)
  have l1 := textW_len (Nib.packed p true) (by omega)
  have l2 := textW_len v (by omega)
  have l1 : (textW (Nib.packed p true)).length ≤ 1000 := by omega
  have l2 : (textW v).length ≤ 1000 := by omega
  clear hf hs hpl hfit
  generalize textW (Nib.packed p true) = X at *
  generalize textW v = Y at *
  generalize Nib.packed p true = pk at *
  have m1 : 1 + X.length ≤ 9223372036854775807 := by omega
  have m2 : 1 + X.length + Y.length ≤ 9223372036854775807 := by omega
  have m3 : X.length + 1 + Y.length ≤ 9223372036854775807 := by omega
  go_enter Tryz.func132, Tryz.ntmps132
  go_upto_region 1 with fail
  have F := Live.ha (Lib.hid (Live.start w)) (nodeV 1 p v K).toArray 107
  generalize w.alloc (.cells (nodeV 1 p v K).toArray 107) = W0 at F ⊢
  obtain ⟨q0, q1, q2, RK, _⟩ := NodeAt.of (C := []) (by rw [List.append_nil]; exact F.out.blk 0 rfl)
  have cv := conv1 W0 1 (by omega) (by omega)
  go_upto_region 2 with fail
  have F := Live.ha F #[.int .u8 1] 5
  clear cv q0 q1 q2 RK
  generalize W0.alloc (.cells #[.int .u8 1] 5) = W1 at F ⊢
  replace F : Hid (Live w W1 [(w.heap.size, 107, (nodeV 1 p v K).toArray)]) := Lib.hid (F.out.drop 1)
  obtain ⟨q0, q1, q2, RK, _⟩ := NodeAt.of (C := []) (by rw [List.append_nil]; exact F.out.blk 0 rfl)
  go_wp2_with fail
  refine (HPk.out _).mono ?_
  rintro e w1 ⟨rfl, hb⟩
  (first | have F := Live.hb F hb | have F := Live.hbd F hb); clear hb
  clear q0 q1 q2 RK
  obtain ⟨q0, q1, q2, RK, _⟩ := NodeAt.of (C := []) (by rw [List.append_nil]; exact F.out.blk 0 rfl)
  go_wp2_with fail
  refine (HT1.out _).mono ?_
  rintro e w2 ⟨rfl, hb⟩
  (first | have F := Live.hb F hb | have F := Live.hbd F hb); clear hb
  clear q0 q1 q2 RK
  obtain ⟨q0, q1, q2, RK, _⟩ := NodeAt.of (C := []) (by rw [List.append_nil]; exact F.out.blk 0 rfl)
  go_wp2_with fail
  refine (HT2.out _).mono ?_
  rintro e w3 ⟨rfl, hb⟩
  (first | have F := Live.hb F hb | have F := Live.hbd F hb); clear hb
  go_wp2
  exact HP.out _ _ rfl F.out.b
set_option maxRecDepth 100000 in
set_option maxHeartbeats 4000000 in
theorem ref08_written2 (w : World) (p v : List UInt8) (K : List (List UInt8)) (hK : K.length = 16) (hf : fineN 2 p v K = true) :
    Calls Tryz.prog 132 #[.agg (nodeV 2 p v K).toArray] w (Ret w (.string ⟨(nodeText 2 p v K).toArray⟩)) := by
  obtain ⟨_, hfit, hp, hv, hs⟩ := fineN_parts hf
  have hk0 := (fine_ext hf).1
  have HP : Hid (∀ s w', nodeText 2 p v K = s → Below w.heap.size w w' → Ret w (.string ⟨(nodeText 2 p v K).toArray⟩) (Ending.returned (.string ⟨s.toArray⟩)) w') := Lib.hid (fun b w' h h2 => by rw [h]; exact ⟨rfl, h2⟩)
  generalize Ret w (.string ⟨(nodeText 2 p v K).toArray⟩) = P at HP ⊢
  rw [show nodeText 2 p v K = 2 :: (textW (Nib.packed p false) ++ K.getD 0 []) from rfl] at HP
  have hpl := Nib.packed_length p false
  have HPk := Lib.hid (fun W => refnib_Pack p false W (by omega))
  rw [show Nib.pack p false = (Nib.packed p false, 0) by unfold Nib.pack; rw [hfit]; rfl] at HPk
  have HT1 := Lib.hid (fun W => ref02_Text (Nib.packed p false) (by omega) W)
  have l1 := textW_len (Nib.packed p false) (by omega)
  have l1 : (textW (Nib.packed p false)).length ≤ 1000 := by omega
  have HK0 := Lib.hid (strv_getD (K := K) (i := 0) (by omega))
  clear hf hs hpl hfit
  generalize textW (Nib.packed p false) = X at *
  generalize Nib.packed p false = pk at *
  generalize K.getD 0 [] = k0 at *
  have m1 : 1 + X.length ≤ 9223372036854775807 := by omega
  have m2 : 1 + X.length + k0.length ≤ 9223372036854775807 := by omega
  have m3 : X.length + 1 + k0.length ≤ 9223372036854775807 := by omega
  clear hk0
  go_enter Tryz.func132, Tryz.ntmps132
  go_upto_region 1 with fail
  have F := Live.ha (Lib.hid (Live.start w)) (nodeV 2 p v K).toArray 107
  generalize w.alloc (.cells (nodeV 2 p v K).toArray 107) = W0 at F ⊢
  obtain ⟨q0, q1, q2, RK, _⟩ := NodeAt.of (C := []) (by rw [List.append_nil]; exact F.out.blk 0 rfl)
  have cv := conv1 W0 2 (by omega) (by omega)
  go_upto_region 2 with fail
  have F := Live.ha F #[.int .u8 2] 5
  clear cv q0 q1 q2 RK
  generalize W0.alloc (.cells #[.int .u8 2] 5) = W1 at F ⊢
  replace F : Hid (Live w W1 [(w.heap.size, 107, (nodeV 2 p v K).toArray)]) := Lib.hid (F.out.drop 1)
  obtain ⟨q0, q1, q2, RK, _⟩ := NodeAt.of (C := []) (by rw [List.append_nil]; exact F.out.blk 0 rfl)
  go_wp2_with fail
  refine (HPk.out _).mono ?_
  rintro e w1 ⟨rfl, hb⟩
  (first | have F := Live.hb F hb | have F := Live.hbd F hb); clear hb
  clear q0 q1 q2 RK
  obtain ⟨q0, q1, q2, RK, _⟩ := NodeAt.of (C := []) (by rw [List.append_nil]; exact F.out.blk 0 rfl)
  go_wp2_with fail
  refine (HT1.out _).mono ?_
  rintro e w2 ⟨rfl, hb⟩
  (first | have F := Live.hb F hb | have F := Live.hbd F hb); clear hb
  clear q0 q1 q2 RK
  obtain ⟨q0, q1, q2, RK, _⟩ := NodeAt.of (C := []) (by rw [List.append_nil]; exact F.out.blk 0 rfl)
  have q3 : w2.cell? ⟨w.heap.size, 3, none⟩ = some (.string ⟨k0.toArray⟩) := RK 0 _ HK0.out
  clear RK
  go_wp2
  exact HP.out _ _ rfl F.out.b
theorem ref08_Written (w : World) (k : Nat) (p v : List UInt8) (K : List (List UInt8)) (hK : K.length = 16) (hf : fineN k p v K = true) :
    Calls Tryz.prog 132 #[.agg (nodeV k p v K).toArray] w (Ret w (.string ⟨(nodeText k p v K).toArray⟩)) := by
  obtain ⟨h1 | h1 | h1, _⟩ := id (fineN_parts hf)
  · subst h1; exact ref08_written1 w p v K hK hf
  · subst h1; exact ref08_written2 w p v K hK hf
  · subst h1
    have hp : p = [] := by simp [fineN] at hf; exact hf.1.1.1
    subst hp
    exact ref08_written3 w v K hK hf
set_option maxRecDepth 100000 in
set_option maxHeartbeats 4000000 in
theorem ref08_Digest (w : World) (k : Nat) (p v : List UInt8) (K : List (List UInt8)) (hK : K.length = 16) (hf : fineN k p v K = true) :
    Calls Tryz.prog 137 #[.agg (nodeV k p v K).toArray] w (Ret w (.string ⟨(nodeSum k p v K).toArray⟩)) := by
  have HP : Hid (∀ w', Below w.heap.size w w' → Ret w (.string ⟨(nodeSum k p v K).toArray⟩) (Ending.returned (.string ⟨(nodeSum k p v K).toArray⟩)) w') := Lib.hid (fun w' h2 => ⟨rfl, h2⟩)
  generalize Ret w (.string ⟨(nodeSum k p v K).toArray⟩) = P at HP ⊢
  have HF := Lib.hid (fun W => ref08_Fine W k p v K hK (by have := (fineN_parts hf).2.2.1; omega))
  rw [fineR_eq k p v K hK, hf] at HF
  have HW := Lib.hid (fun W => ref08_Written W k p v K hK hf)
  have hl := nodeText_len hK hf
  have HT : Hid (∀ W, Calls Tryz.prog 93 #[.int .i64 1, .string ⟨(nodeText k p v K).toArray⟩] W (Ret W (.string ⟨(nodeSum k p v K).toArray⟩))) := Lib.hid (fun W => ref04_Tagged W 1 (by omega) _ (by omega))
  clear hl hf
  generalize nodeText k p v K = T at *
  generalize nodeSum k p v K = S at *
  go_enter Tryz.func137, Tryz.ntmps137
  go_upto_region 1 with fail
  have SZ : (Tryz.prog.info? 107).map (·.size) = some (nodeV k p v K).length := by rw [nodeV_size hK]; exact info_node
  have F := Live.ha (Lib.hid (Live.start w)) (nodeV k p v K).toArray 107
  generalize w.alloc (.cells (nodeV k p v K).toArray 107) = W0 at F ⊢
  obtain ⟨_, _, _, _, RA⟩ := NodeAt.of (C := []) (by rw [List.append_nil]; exact F.out.blk 0 rfl)
  go_wp2_with (first | (refine wpList_load_mid rfl 107 _ rfl w.heap.size 0 rfl _ _ RA Tryz.underlying107 rfl SZ ?_))
  refine (HF.out _).mono ?_
  rintro e w1 ⟨rfl, hb⟩
  (first | have F := Live.hb F hb | have F := Live.hbd F hb); clear hb
  clear RA
  obtain ⟨_, _, _, _, RA⟩ := NodeAt.of (C := []) (by rw [List.append_nil]; exact F.out.blk 0 rfl)
  go_wp2_with (first | (refine wpList_load_mid rfl 107 _ rfl w.heap.size 0 rfl _ _ RA Tryz.underlying107 rfl SZ ?_))
  refine (HW.out _).mono ?_
  rintro e w2 ⟨rfl, hb⟩
  (first | have F := Live.hb F hb | have F := Live.hbd F hb); clear hb
  clear RA
  obtain ⟨_, _, _, _, RA⟩ := NodeAt.of (C := []) (by rw [List.append_nil]; exact F.out.blk 0 rfl)
  go_wp2_with fail
  refine (HT.out _).mono ?_
  rintro e w3 ⟨rfl, hb⟩
  (first | have F := Live.hb F hb | have F := Live.hbd F hb); clear hb
  go_wp2
  exact HP.out _ F.out.b
end Go.Proofs.YtcjafcbekegmlaaGreatDoor
