/- The laws of layer 18 (skip): the walks of the chapter's examples and of the statements. -/
import Derived.Test.YtfdnoeoilanohaaSkip
import Derived.Test.YtfdnoeoilanohaaBook
namespace Go.Proofs.Ytfdnoeoilanohaa
set_option linter.unusedVariables false
open Go.RowKit

theorem ints_lit (w : World) (l : List Nat) (e : TypeId) : Reads (w.alloc (.cells (ints l).toArray e)) (w.heap.size + 1) 1 (some ⟨w.heap.size, 0, none⟩) l.length (ints l) := by
  refine ⟨by rw [ints_length, Nat.mul_one], fun _ => ⟨_, rfl, by simp, fun j u hu => ?_⟩⟩
  have ha : (⟨w.heap.size, 0, none⟩ : Addr).add j = ⟨w.heap.size, j, none⟩ := by unfold Addr.add; split <;> simp_all
  rw [ha, World.cell?_alloc_at _ _ _ _ rfl]
  simpa using hu

set_option maxHeartbeats 400000 in
theorem skip_works (w : World) : Calls Try.prog 8 #[] w fun e w' => e = .returned (.bool true) ∧ Below w.heap.size w w' := by
  go_enter Try.func8, Try.ntmps8
  go_wp2_with fail
  refine (skip_Route 12 3 _ (by omega) (by omega)).mono ?_
  rintro e w1 ⟨v1, rfl, hown1, hb1⟩
  obtain ⟨A1, c1, rfl, hr1, -, -⟩ := own_form hown1
  rw [show Skip.route 12 3 = [8, 4, 3] from by decide] at *
  go_wp2_with fail
  refine (skip_Links 12 _ (by omega) (by omega)).mono ?_
  rintro e w2 ⟨v2, rfl, hown2, hb2⟩
  obtain ⟨A2, c2, rfl, hr2, -, -⟩ := own_form hown2
  rw [show Skip.links 12 = [10, 8] from by decide] at *
  go_wp2_with fail
  refine (book_SameInts _ _ _ _ _ _ [10, 8] [10, 8] _ (hr2.alloc (Nat.le_refl _) _ |>.more (by simp)) ((ints_lit w2 [10, 8] _).more (by simp)) (by simp) (by simp)).mono ?_
  rintro e w3 ⟨rfl, hb3⟩
  go_wp2_with fail
  refine (skip_Links 7 _ (by omega) (by omega)).mono ?_
  rintro e w4 ⟨v4, rfl, hown4, hb4⟩
  obtain ⟨A4, c4, rfl, hr4, -, -⟩ := own_form hown4
  rw [show Skip.links 7 = [] from by decide] at *
  have hb14 : Below w1.heap.size w1 w4 := (hb2.trans (((Below.refl _ _).alloc hb2.size _).trans (hb3.mono (by have := hb2.size; simp; omega)))).trans (hb4.mono (by have := hb2.size; have := hb3.size; simp at this; omega))
  go_wp2_with fail
  refine (book_SameInts _ _ _ _ _ _ [8, 4, 3] [8, 4, 3] _ (((hr1.below hb14).more hb14.size).alloc (Nat.le_refl _) _ |>.more (by simp)) ((ints_lit w4 [8, 4, 3] _).more (by simp)) (by simp) (by simp)).mono ?_
  rintro e w5 ⟨rfl, hb5⟩
  go_wp2
  go_ret
  refine ⟨rfl, (hb1.trans (hb14.mono hb1.size)).trans (((Below.refl _ _).alloc ?_ _).trans (hb5.mono ?_))⟩
  · have := hb1.size; have := hb14.size; omega
  · have := hb1.size; have := hb14.size; simp; omega

set_option maxHeartbeats 400000 in
theorem skipRoute_bad (h low : Int) (w : World) (hbad : low < 0 ∨ h < low ∨ 1048576 < h) :
    Calls Try.prog 3 #[.int .i64 h, .int .i64 low] w fun e w' => e = .returned (.bool true) ∧ Below w.heap.size w w' := by
  by_cases h1 : low < 0
  · go_enter Try.func3, Try.ntmps3
    go_wp2_with fail
    refine (skip_works _).mono ?_
    rintro e w1 ⟨rfl, hb1⟩
    go_wp2_with fail
    refine (skip_Route_bad _ _ _ hbad).mono ?_
    rintro e w2 ⟨rfl, rfl⟩
    go_wp2
    go_ret
    exact ⟨rfl, hb1⟩
  · by_cases h2 : h < low
    · go_enter Try.func3, Try.ntmps3
      go_wp2_with fail
      refine (skip_works _).mono ?_
      rintro e w1 ⟨rfl, hb1⟩
      go_wp2_with fail
      refine (skip_Route_bad _ _ _ hbad).mono ?_
      rintro e w2 ⟨rfl, rfl⟩
      go_wp2
      go_ret
      exact ⟨rfl, hb1⟩
    · have h3 : 1048576 < h := by omega
      go_enter Try.func3, Try.ntmps3
      go_wp2_with fail
      refine (skip_works _).mono ?_
      rintro e w1 ⟨rfl, hb1⟩
      go_wp2_with fail
      refine (skip_Route_bad _ _ _ hbad).mono ?_
      rintro e w2 ⟨rfl, rfl⟩
      go_wp2
      go_ret
      exact ⟨rfl, hb1⟩

set_option maxHeartbeats 1000000 in
set_option maxRecDepth 100000 in
theorem skipRoute_good (h low : Nat) (w : World) (hl : low ≤ h) (hh : h ≤ 1048576) :
    Calls Try.prog 3 #[.int .i64 h, .int .i64 low] w fun e w' => e = .returned (.bool true) ∧ Below w.heap.size w w' := by
  go_enter Try.func3, Try.ntmps3
  go_wp2_with fail
  refine (skip_works _).mono ?_
  rintro e w1 ⟨rfl, hb1⟩
  go_wp2_with fail
  refine (skip_Route h low _ hl hh).mono ?_
  rintro e w2 ⟨v, rfl, hown, hb2⟩
  obtain ⟨A, c, rfl, hr, hc, -⟩ := own_form hown
  have hlen := Skip.routeF_len h h low
  change (Skip.route h low).length ≤ h at hlen
  have hbb : Below w.heap.size w w2 := hb1.trans (hb2.mono hb1.size)
  go_wp2_with fail
  refine wp_loop_ghost_k (fun k a wr => ∀ Φ : Act → Prop, (∀ (s2 s3 s4 s5 s6 s8 s9 s10 s11 s12 s13 s14 s15 s16 s17 s18 s19 s20 s21 s22 s23 s24 s25 s26 s27 s28 s29 s30 s31 s32 s33 s34 s35 s36 s37 s38 s39 s40 s41 s42 s43 s47 s48 s49 s50 s51 s52 s53 s54 s55 s56 s57 s58 s59 s60 s61 s62 s63 s64 s65 s66 s67 s68 s69 s70 s71 s72 s73 s74 s75 s76 s77 s78 s79 s80 s81 s82 s83 s84 : Value) (h' i f : Nat), (i + k = (Skip.route h low).length ∧ low ≤ h' ∧ h' ≤ h ∧ h' ≤ f ∧ Skip.routeF f h' low = (Skip.route h low).drop i ∧ Below w2.heap.size w2 wr) → Φ { tmps := #[.int .i64 h, .int .i64 low, s2, s3, s4, s5, s6, .int .i64 h', s8, s9, s10, s11, s12, s13, s14, s15, s16, s17, s18, s19, s20, s21, s22, s23, s24, s25, s26, s27, s28, s29, s30, s31, s32, s33, s34, s35, s36, s37, s38, s39, s40, s41, s42, s43, .slice A (Skip.route h low).length c, .int .i64 (Skip.route h low).length, .int .i64 i, s47, s48, s49, s50, s51, s52, s53, s54, s55, s56, s57, s58, s59, s60, s61, s62, s63, s64, s65, s66, s67, s68, s69, s70, s71, s72, s73, s74, s75, s76, s77, s78, s79, s80, s81, s82, s83, s84], defers := [] }) → Φ a) ((Skip.route h low).length) ?_ ?_
  · refine fun Φ hΦ => hΦ _ _ _ _ _ _ _ _ _ _ _ _ _ _ _ _ _ _ _ _ _ _ _ _ _ _ _ _ _ _ _ _ _ _ _ _ _ _ _ _ _ _ _ _ _ _ _ _ _ _ _ _ _ _ _ _ _ _ _ _ _ _ _ _ _ _ _ _ _ _ _ _ _ _ _ _ _ _ _ (h) (0) (h) ?_
    exact ⟨by omega, hl, Nat.le_refl _, Nat.le_refl _, rfl, Below.refl _ _⟩
  · intro k1 a1 wr1 hI1 J1 K1 hJ1 hK1
    refine hI1 (fun a => Code.wp _ _ _ a _) ?_
    clear hI1 a1
    intro s0 s1 s2 s3 s4 s5 s6 s7 s8 s9 s10 s11 s12 s13 s14 s15 s16 s17 s18 s19 s20 s21 s22 s23 s24 s25 s26 s27 s28 s29 s30 s31 s32 s33 s34 s35 s36 s37 s38 s39 s40 s41 s42 s43 s44 s45 s46 s47 s48 s49 s50 s51 s52 s53 s54 s55 s56 s57 s58 s59 s60 s61 s62 s63 s64 s65 s66 s67 s68 s69 s70 s71 s72 s73 s74 s75 s76 s77 s78 h' i f hrel
    show Code.wp _ _ _ _ _
    obtain ⟨g1, g2, g3, g4, g5, hw⟩ := hrel
    by_cases hi : i < (Skip.route h low).length
    · rw [List.drop_eq_getElem_cons hi] at g5
      obtain ⟨hlt, hx, f', hf', hff⟩ := Skip.route_rest g5
      have hff := hff g4
      have hnx := Skip.next_lt h' low hlt
      have hnl := Skip.next_link h' low
      obtain ⟨b1, o1, rfl, hl1, hc1⟩ := hr.form (by omega) (by omega)
      have q1 := (hw.cell (p := ⟨b1, o1 + i, none⟩) hl1).trans (hc1 i (by rw [ints_length]; omega))
      simp only [ints, List.getElem_map, hx] at q1
      rw [hx] at hff hf'
      have HF := Lib.hid hf'
      clear hf' hc1 g5 hx
      have hsz := hw.size
      go_wp2_with fail
      refine (skip_Links h' _ (by omega) (by omega)).mono ?_
      rintro e w3 ⟨v3, rfl, hown3, hb3⟩
      obtain ⟨A3, c3, rfl, hr3, -, -⟩ := own_form hown3
      have hll := Skip.linksF_len 22 h' 2
      change (Skip.links h').length ≤ 22 at hll
      have HL := Lib.hid hnl
      clear hnl q1
      have hwb : Below w2.heap.size w2 w3 := hw.trans (hb3.mono hsz)
      go_wp2_with fail
      refine wp_loop_ghost_k (fun k a wr => ∀ Φ : Act → Prop, (∀ (s2 s3 s4 s5 s6 s8 s11 s12 s13 s14 s15 s16 s17 s18 s19 s20 s21 s22 s23 s24 s25 s26 s27 s28 s29 s30 s31 s32 s33 s34 s35 s36 s37 s38 s39 s40 s41 s42 s43 s47 s48 s49 s50 s51 s52 s53 s54 s58 s59 s60 s61 s62 s63 s64 s65 s66 s67 s68 s69 s70 s71 s72 s73 s74 s75 s76 s77 s78 s79 s80 s81 s82 s83 s84 : Value) (j : Nat) (q : Bool), (j + k = (Skip.links h').length ∧ (q = true ↔ (Skip.next h' low = h' - 1 ∨ Skip.next h' low ∈ (Skip.links h').take j)) ∧ wr = w3) → Φ { tmps := #[.int .i64 h, .int .i64 low, s2, s3, s4, s5, s6, .int .i64 h', s8, .int .i64 (Skip.next h' low), .bool q, s11, s12, s13, s14, s15, s16, s17, s18, s19, s20, s21, s22, s23, s24, s25, s26, s27, s28, s29, s30, s31, s32, s33, s34, s35, s36, s37, s38, s39, s40, s41, s42, s43, .slice (some ⟨b1, o1, none⟩) (Skip.route h low).length c, .int .i64 (Skip.route h low).length, .int .i64 i, s47, s48, s49, s50, s51, s52, s53, s54, .slice A3 (Skip.links h').length c3, .int .i64 (Skip.links h').length, .int .i64 j, s58, s59, s60, s61, s62, s63, s64, s65, s66, s67, s68, s69, s70, s71, s72, s73, s74, s75, s76, s77, s78, s79, s80, s81, s82, s83, s84], defers := [] }) → Φ a) ((Skip.links h').length) ?_ ?_
      · refine fun Φ hΦ => hΦ _ _ _ _ _ _ _ _ _ _ _ _ _ _ _ _ _ _ _ _ _ _ _ _ _ _ _ _ _ _ _ _ _ _ _ _ _ _ _ _ _ _ _ _ _ _ _ _ _ _ _ _ _ _ _ _ _ _ _ _ _ _ _ _ _ _ _ _ _ _ _ _ _ _ (0) (_) ?_
        exact ⟨by omega, by simp; omega, rfl⟩
      · intro k2 a2 wr2 hI2 J2 K2 hJ2 hK2
        refine hI2 (fun a => Code.wp _ _ _ a _) ?_
        clear hI2 a2
        intro s0 s1 s2 s3 s4 s5 s6 s7 s8 s9 s10 s11 s12 s13 s14 s15 s16 s17 s18 s19 s20 s21 s22 s23 s24 s25 s26 s27 s28 s29 s30 s31 s32 s33 s34 s35 s36 s37 s38 s39 s40 s41 s42 s43 s44 s45 s46 s47 s48 s49 s50 s51 s52 s53 s54 s55 s56 s57 s58 s59 s60 s61 s62 s63 s64 s65 s66 s67 s68 s69 s70 s71 s72 s73 j q hrel
        show Code.wp _ _ _ _ _
        obtain ⟨j1, j2, rfl⟩ := hrel
        have H2 := Lib.hid j2
        clear j2
        by_cases hj : j < (Skip.links h').length
        · obtain ⟨b3, o3, rfl, hl3, hc3⟩ := hr3.form (by omega) (by omega)
          have q3 := hc3 j (by rw [ints_length]; omega)
          simp only [ints, List.getElem_map] at q3
          clear hc3
          have H4 : ∀ r : Bool, (r = true ↔ (q = true ∨ (Skip.links h')[j] = Skip.next h' low)) → (r = true ↔ (Skip.next h' low = h' - 1 ∨ Skip.next h' low ∈ (Skip.links h').take (j + 1))) := by
            intro r hr
            rw [List.take_succ_eq_append_getElem hj, hr, H2.out]
            simp only [List.mem_append, List.mem_singleton, or_assoc, eq_comm]
          have H5 := Lib.hid H4
          clear H4 H2
          cases q
          · go_wp2
            refine Handed.intro ((Skip.links h').length - (j + 1)) ?_ (hJ2 _ _ _ (fun Φ hΦ => hΦ _ _ _ _ _ _ _ _ _ _ _ _ _ _ _ _ _ _ _ _ _ _ _ _ _ _ _ _ _ _ _ _ _ _ _ _ _ _ _ _ _ _ _ _ _ _ _ _ _ _ _ _ _ _ _ _ _ _ _ _ _ _ _ _ _ _ _ _ _ _ _ _ _ _ (j + 1) (_) ?_))
            · omega
            · exact ⟨by omega, H5.out _ (by simp; omega), rfl⟩
          · go_wp2
            refine Handed.intro ((Skip.links h').length - (j + 1)) ?_ (hJ2 _ _ _ (fun Φ hΦ => hΦ _ _ _ _ _ _ _ _ _ _ _ _ _ _ _ _ _ _ _ _ _ _ _ _ _ _ _ _ _ _ _ _ _ _ _ _ _ _ _ _ _ _ _ _ _ _ _ _ _ _ _ _ _ _ _ _ _ _ _ _ _ _ _ _ _ _ _ _ _ _ _ _ _ _ (j + 1) (_) ?_))
            · omega
            · exact ⟨by omega, H5.out _ (by simp), rfl⟩
        · have hq : q = true := by
            rw [H2.out, List.take_of_length_le (by omega)]
            exact HL.out
          subst hq
          clear H2
          go_wp2
          refine Handed.intro ((Skip.route h low).length - (i + 1)) ?_ (hJ1 _ _ _ (fun Φ hΦ => hΦ _ _ _ _ _ _ _ _ _ _ _ _ _ _ _ _ _ _ _ _ _ _ _ _ _ _ _ _ _ _ _ _ _ _ _ _ _ _ _ _ _ _ _ _ _ _ _ _ _ _ _ _ _ _ _ _ _ _ _ _ _ _ _ _ _ _ _ _ _ _ _ _ _ _ _ _ _ _ _ (Skip.next h' low) (i + 1) (f') ?_))
          · omega
          · exact ⟨by omega, by omega, by omega, by omega, HF.out, hwb⟩
    · have hh' : h' ≤ low := by
        rw [List.drop_of_length_le (by omega)] at g5
        exact Skip.route_nil g4 g5
      have hq : ((h' : Int) == (low : Int)) = true := by rw [beq_iff_eq]; omega
      clear g5
      go_wp2
      go_ret
      exact ⟨rfl, hbb.trans (hw.mono hbb.size)⟩

theorem skipRoute_walk (h low : Int) (_ : (Lit.int .i64 h).wf = true) (_ : (Lit.int .i64 low).wf = true) (w : World) :
    Calls Try.prog 3 #[.int .i64 h, .int .i64 low] w fun e w' => e = .returned (.bool true) ∧ Below w.heap.size w w' := by
  by_cases hb : low < 0 ∨ h < low ∨ 1048576 < h
  · exact skipRoute_bad h low w hb
  · obtain ⟨a, rfl⟩ := Int.eq_ofNat_of_zero_le (show 0 ≤ h by omega)
    obtain ⟨b, rfl⟩ := Int.eq_ofNat_of_zero_le (show 0 ≤ low by omega)
    exact skipRoute_good a b w (by omega) (by omega)
end Go.Proofs.Ytfdnoeoilanohaa
