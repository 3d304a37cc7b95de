/- The walks of layer 18 (skip), second part: all arguments, and the document's answer. -/
import Derived.Test.YtfdnoeoilanohaaSkip
import Derived.Test.YtfdnoeoilanohaaBook
namespace Go.Proofs.Ytfdnoeoilanohaa
set_option linter.unusedVariables false
open Go.RowKit

def linksV (h : Int) : List Nat := if 1 ≤ h ∧ h ≤ 1048576 then Skip.links h.toNat else []
def nextV (h low : Int) : Nat × Nat := if 0 ≤ low ∧ low < h ∧ h ≤ 1048576 then (Skip.next h.toNat low.toNat, 0) else (0, 1)
def routeV (h low : Int) : List Nat × Nat := if 0 ≤ low ∧ low ≤ h ∧ h ≤ 1048576 then (Skip.route h.toNat low.toNat, 0) else ([], 1)

set_option maxHeartbeats 400000 in
theorem skip_Links_bad (h : Int) (w : World) (hb : h < 1 ∨ 1048576 < h) :
    Calls Try.prog 10 #[.int .i64 h] w fun e w' => e = .returned (.slice none 0 0) ∧ w = w' := by
  by_cases h1 : h < 1
  · go_enter Try.func10, Try.ntmps10
    go_wp2
    go_step3
    go_wp2
    rw [Exit.noGoto_ret]
    go_ret
    exact ⟨rfl, rfl⟩
  · have h2 : 1048576 < h := by omega
    go_enter Try.func10, Try.ntmps10
    go_wp2
    go_step3
    go_wp2
    rw [Exit.noGoto_ret]
    go_ret
    exact ⟨rfl, rfl⟩
theorem skip_Links_all (h : Int) (w : World) :
    Calls Try.prog 10 #[.int .i64 h] w fun e w' => ∃ v, e = .returned v ∧ w'.ownsRow w.heap.size 3 1 v (linksV h).length (ints (linksV h)) ∧ Below w.heap.size w w' := by
  by_cases hc : 1 ≤ h ∧ h ≤ 1048576
  · obtain ⟨n, rfl⟩ := Int.eq_ofNat_of_zero_le (show 0 ≤ h by omega)
    rw [show linksV (n : Int) = Skip.links n from by unfold linksV; rw [if_pos hc]; rfl]
    exact skip_Links n w (by omega) (by omega)
  · rw [show linksV h = [] from by unfold linksV; rw [if_neg hc]]
    refine (skip_Links_bad h w (by omega)).mono ?_
    rintro e w' ⟨rfl, rfl⟩
    exact ⟨_, rfl, World.ownsRow_nil _ _ _ _, Below.refl _ _⟩
theorem skip_Route_all (h low : Int) (w : World) :
    Calls Try.prog 9 #[.int .i64 h, .int .i64 low] w fun e w' => ∃ v, e = .returned (.tuple #[v, .int .i64 (routeV h low).2]) ∧ w'.ownsRow w.heap.size 3 1 v (routeV h low).1.length (ints (routeV h low).1) ∧ Below w.heap.size w w' := by
  by_cases hc : 0 ≤ low ∧ low ≤ h ∧ h ≤ 1048576
  · obtain ⟨n, rfl⟩ := Int.eq_ofNat_of_zero_le (show 0 ≤ h by omega)
    obtain ⟨m, rfl⟩ := Int.eq_ofNat_of_zero_le (show 0 ≤ low by omega)
    rw [show routeV (n : Int) (m : Int) = (Skip.route n m, 0) from by unfold routeV; rw [if_pos hc]; rfl]
    exact skip_Route n m w (by omega) (by omega)
  · rw [show routeV h low = ([], 1) from by unfold routeV; rw [if_neg hc]]
    refine (skip_Route_bad h low w (by omega)).mono ?_
    rintro e w' ⟨rfl, rfl⟩
    exact ⟨_, rfl, World.ownsRow_nil _ _ _ _, Below.refl _ _⟩

set_option maxHeartbeats 400000 in
theorem skip_Next_all (h low : Int) (w : World) :
    Calls Try.prog 12 #[.int .i64 h, .int .i64 low] w fun e w' => e = .returned (.tuple #[.int .i64 (nextV h low).1, .int .i64 (nextV h low).2]) ∧ w = w' := by
  by_cases hc : 0 ≤ low ∧ low < h ∧ h ≤ 1048576
  · obtain ⟨n, rfl⟩ := Int.eq_ofNat_of_zero_le (show 0 ≤ h by omega)
    obtain ⟨m, rfl⟩ := Int.eq_ofNat_of_zero_le (show 0 ≤ low by omega)
    rw [show nextV (n : Int) (m : Int) = (Skip.next n m, 0) from by unfold nextV; rw [if_pos hc]; rfl]
    obtain ⟨c1, c2, c3⟩ := hc
    go_enter Try.func12, Try.ntmps12
    go_wp2_with fail
    refine (skip_next n m _ (by omega) (by omega)).mono ?_
    rintro e w1 ⟨rfl, rfl⟩
    go_wp2
    go_ret2
    exact ⟨rfl, rfl⟩
  · rw [show nextV h low = (0, 1) from by unfold nextV; rw [if_neg hc]]
    by_cases h1 : low < 0
    · go_enter Try.func12, Try.ntmps12
      go_wp2
      go_ret2
      exact ⟨rfl, rfl⟩
    · by_cases h2 : h ≤ low
      · go_enter Try.func12, Try.ntmps12
        go_wp2
        go_ret2
        exact ⟨rfl, rfl⟩
      · have h3 : 1048576 < h := by omega
        go_enter Try.func12, Try.ntmps12
        go_wp2
        go_ret2
        exact ⟨rfl, rfl⟩

set_option maxHeartbeats 400000 in
theorem refskip_Links (h : Nat) (w : World) (hl : 1 ≤ h) (hh : h ≤ 1048576) :
    Calls Try.prog 11 #[.int .i64 h] w fun e w' => ∃ v, e = .returned v ∧ w'.ownsRow w.heap.size 3 1 v (Skip.links h).length (ints (Skip.links h)) ∧ Below w.heap.size w w' := by
  have HR := Lib.hid (Skip.refL_all h hl hh)
  go_enter Try.func11, Try.ntmps11
  go_wp2
  refine wp_loop_ghost_k (fun k a wr => ∀ Φ : Act → Prop, (∀ (s1 s2 s5 s6 s7 s8 s9 s10 s11 s12 s13 s14 s15 s16 s17 s18 s19 s20 s21 s22 s23 s24 s25 s26 s27 s28 s29 : Value) (i : Nat) (acc : List Nat) (o : Value), (i + k = 21 ∧ 1 ≤ i ∧ acc.length + 1 ≤ i ∧ wr.ownsRow w.heap.size 3 1 o acc.length (ints acc) ∧ Below w.heap.size w wr ∧ acc ++ Skip.refL k h i = Skip.links h) → Φ { tmps := #[.int .i64 h, s1, s2, o, .int .i64 i, s5, s6, s7, s8, s9, s10, s11, s12, s13, s14, s15, s16, s17, s18, s19, s20, s21, s22, s23, s24, s25, s26, s27, s28, s29], defers := [] }) → Φ a) (20) ?_ ?_
  · refine fun Φ hΦ => hΦ _ _ _ _ _ _ _ _ _ _ _ _ _ _ _ _ _ _ _ _ _ _ _ _ _ _ _ (1) ([]) (_) ?_
    exact ⟨rfl, by omega, by simp, World.ownsRow_nil _ _ _ _, Below.refl _ _, HR.out⟩
  · intro k1 a1 wr1 hI1 J1 K1 hJ1 hK1
    refine hI1 (fun a => Code.wp _ _ _ a _) ?_
    clear hI1 a1
    intro s0 s1 s2 s3 s4 s5 s6 s7 s8 s9 s10 s11 s12 s13 s14 s15 s16 s17 s18 s19 s20 s21 s22 s23 s24 s25 s26 i acc o hrel
    show Code.wp _ _ _ _ _
    obtain ⟨h1, h2, h3, hown, hb, hacc⟩ := hrel
    have HA := Lib.hid hacc
    clear hacc
    have hsz := hb.size
    by_cases hi : i ≤ 20
    · obtain ⟨p, hp⟩ : ∃ p, p = 2 ^ i := ⟨_, rfl⟩
      have hp1 : p ≤ 1048576 := by
        rw [hp]
        have := Nat.pow_le_pow_right (n := 2) (by omega) hi
        simpa using this
      have hp2 : 2 ≤ p := by
        rw [hp]
        have := Nat.pow_le_pow_right (n := 2) (by omega) h2
        simpa using this
      have q1 : wrap64 ((2 : Int) ^ i) = (p : Int) := by
        have e : ((2 : Int) ^ i) = ((2 ^ i : Nat) : Int) := by simp
        rw [e, ← hp]
        exact IntWalk.wrap64_in _ (by omega)
      obtain ⟨k, rfl⟩ : ∃ k, k1 = k + 1 := ⟨k1 - 1, by omega⟩
      have HL : Hid (∀ l : List Nat, l = (if h % p = 0 then [h - p] else []) → acc ++ l ++ Skip.refL k h (i + 1) = Skip.links h) := Lib.hid (by
        intro l hl
        rw [← HA.out, hl, Skip.refL, ← hp]
        split <;> simp)
      have HP := Lib.hid hp
      clear hp HA
      by_cases hc : h % p = 0
      · have hq : ((h : Int) % (p : Int) == 0) = true := by rw [beq_iff_eq]; omega
        have hle : p ≤ h := Nat.le_of_dvd (by omega) (Nat.dvd_of_mod_eq_zero hc)
        have HE := Lib.hid (HL.out [h - p] (by rw [if_pos hc]))
        have E2 : Hid (((h : Int) - p) = ((h - p : Nat) : Int)) := Lib.hid (by omega)
        clear hc HL
        go_wp2_with (at_builtin; refine wpList_append_new wr1 3 [.int .i64 ((h : Int) - p)] rfl _ _ 23 rfl w.heap.size 1 8 _ info_int Try.underlying23 rfl (by decide) _ _ _ rfl hown 1 1 rfl rfl (by simp [Value.oneCell']) (by simp only [maxLen]; omega) (by omega) w.heap.size w hb (Nat.le_refl _) hsz ?_; intro v1 w1 hown1 hb1 _ _ _)
        refine Handed.intro (k) ?_ (hJ1 _ _ _ (fun Φ hΦ => hΦ _ _ _ _ _ _ _ _ _ _ _ _ _ _ _ _ _ _ _ _ _ _ _ _ _ _ _ (i + 1) (acc ++ [h - p]) (v1) ?_))
        · omega
        · exact ⟨by omega, by omega, by simp; omega, by rw [E2.out] at hown1; simpa [ints_snoc] using hown1, hb1, HE.out⟩
      · have hq : ((h : Int) % (p : Int) == 0) = false := by rw [beq_eq_false_iff_ne]; omega
        have HE := Lib.hid (HL.out [] (by rw [if_neg hc]))
        clear hc HL
        go_wp2
        refine Handed.intro (k) ?_ (hJ1 _ _ _ (fun Φ hΦ => hΦ _ _ _ _ _ _ _ _ _ _ _ _ _ _ _ _ _ _ _ _ _ _ _ _ _ _ _ (i + 1) (acc) (o) ?_))
        · omega
        · exact ⟨by omega, by omega, by omega, hown, hb, by simpa using HE.out⟩
    · have HB : Hid (acc = Skip.links h) := Lib.hid (by
        have e : k1 = 0 := by omega
        subst e
        simpa [Skip.refL] using HA.out)
      clear HA
      go_wp2
      go_ret
      rw [← HB.out]
      exact ⟨_, rfl, hown, hb⟩

theorem refskip_Links_all (h : Int) (w : World) :
    Calls Try.prog 11 #[.int .i64 h] w fun e w' => ∃ v, e = .returned v ∧ w'.ownsRow w.heap.size 3 1 v (linksV h).length (ints (linksV h)) ∧ Below w.heap.size w w' := by
  by_cases hc : 1 ≤ h ∧ h ≤ 1048576
  · obtain ⟨n, rfl⟩ := Int.eq_ofNat_of_zero_le (show 0 ≤ h by omega)
    rw [show linksV (n : Int) = Skip.links n from by unfold linksV; rw [if_pos hc]; rfl]
    exact refskip_Links n w (by omega) (by omega)
  · rw [show linksV h = [] from by unfold linksV; rw [if_neg hc]]
    by_cases h1 : h < 1
    · go_enter Try.func11, Try.ntmps11
      go_wp2
      go_ret
      exact ⟨_, rfl, World.ownsRow_nil _ _ _ _, Below.refl _ _⟩
    · have h2 : 1048576 < h := by omega
      go_enter Try.func11, Try.ntmps11
      go_wp2
      go_ret
      exact ⟨_, rfl, World.ownsRow_nil _ _ _ _, Below.refl _ _⟩

set_option maxHeartbeats 400000 in
theorem refskip_Next (h low : Nat) (w : World) (hl : low < h) (hh : h ≤ 1048576) :
    Calls Try.prog 13 #[.int .i64 h, .int .i64 low] w fun e w' => e = .returned (.tuple #[.int .i64 (Skip.next h low), .int .i64 0]) ∧ Below w.heap.size w w' := by
  have HN := Lib.hid (Skip.pick_next h low hl hh)
  have hll := Skip.linksF_len 22 h 2
  change (Skip.links h).length ≤ 22 at hll
  have E1 : ((h : Int) - 1) = ((h - 1 : Nat) : Int) := by omega
  have HE1 := Lib.hid E1
  clear E1
  go_enter Try.func13, Try.ntmps13
  go_wp2_with fail
  refine (refskip_Links h _ (by omega) hh).mono ?_
  rintro e w1 ⟨v, rfl, hown, hb1⟩
  obtain ⟨A, c, rfl, hr, hc, -⟩ := own_form hown
  go_wp2_with fail
  refine wp_loop_ghost_k (fun k a wr => ∀ Φ : Act → Prop, (∀ (s2 s3 s4 s5 s9 s10 s11 s12 s13 s14 s15 s16 s17 s18 s19 s20 s21 s22 s23 s24 s25 s26 s27 s28 s29 s30 s31 s32 s33 s34 s35 s36 s37 s38 s39 s40 s41 s42 s43 s44 s45 s46 s47 s48 : Value) (i : Nat) (x : Int) (n : Nat), (i + k = (Skip.links h).length ∧ x = (n : Int) ∧ Skip.pickF low ((Skip.links h).drop i) n = Skip.next h low ∧ wr = w1) → Φ { tmps := #[.int .i64 h, .int .i64 low, s2, s3, s4, s5, .int .i64 x, .slice A (Skip.links h).length c, .int .i64 i, s9, s10, s11, s12, s13, s14, s15, s16, s17, s18, s19, s20, s21, s22, s23, s24, s25, s26, s27, s28, s29, s30, s31, s32, s33, s34, s35, s36, s37, s38, s39, s40, s41, s42, s43, s44, s45, s46, s47, s48], defers := [] }) → Φ a) ((Skip.links h).length) ?_ ?_
  · refine fun Φ hΦ => hΦ _ _ _ _ _ _ _ _ _ _ _ _ _ _ _ _ _ _ _ _ _ _ _ _ _ _ _ _ _ _ _ _ _ _ _ _ _ _ _ _ _ _ _ _ (0) (_) (h - 1) ?_
    exact ⟨by omega, HE1.out, HN.out, rfl⟩
  · intro k1 a1 wr1 hI1 J1 K1 hJ1 hK1
    refine hI1 (fun a => Code.wp _ _ _ a _) ?_
    clear hI1 a1
    intro s0 s1 s2 s3 s4 s5 s6 s7 s8 s9 s10 s11 s12 s13 s14 s15 s16 s17 s18 s19 s20 s21 s22 s23 s24 s25 s26 s27 s28 s29 s30 s31 s32 s33 s34 s35 s36 s37 s38 s39 s40 s41 s42 s43 i x n hrel
    show Code.wp _ _ _ _ _
    obtain ⟨h1, rfl, h3, rfl⟩ := hrel
    have H3 := Lib.hid h3
    clear h3
    by_cases hi : i < (Skip.links h).length
    · obtain ⟨b1, o1, rfl, hl1, hc1⟩ := hr.form (by omega) (by omega)
      have q1 := hc1 i (by rw [ints_length]; omega)
      simp only [ints, List.getElem_map] at q1
      have HD : Hid (Skip.pickF low ((Skip.links h).drop (i + 1)) (if low ≤ (Skip.links h)[i] ∧ (Skip.links h)[i] < n then (Skip.links h)[i] else n) = Skip.next h low) := Lib.hid (by
        rw [← H3.out, List.drop_eq_getElem_cons hi]; rfl)
      generalize (Skip.links h)[i] = y at *
      clear hc1 H3
      by_cases c1 : low ≤ y
      · by_cases c2 : y < n
        · rw [if_pos ⟨c1, c2⟩] at HD
          go_wp2
          refine Handed.intro ((Skip.links h).length - (i + 1)) ?_ (hJ1 _ _ _ (fun Φ hΦ => hΦ _ _ _ _ _ _ _ _ _ _ _ _ _ _ _ _ _ _ _ _ _ _ _ _ _ _ _ _ _ _ _ _ _ _ _ _ _ _ _ _ _ _ _ _ (i + 1) (_) (y) ?_))
          · omega
          · exact ⟨by omega, rfl, HD.out, rfl⟩
        · rw [if_neg (fun q => c2 q.2)] at HD
          go_wp2
          refine Handed.intro ((Skip.links h).length - (i + 1)) ?_ (hJ1 _ _ _ (fun Φ hΦ => hΦ _ _ _ _ _ _ _ _ _ _ _ _ _ _ _ _ _ _ _ _ _ _ _ _ _ _ _ _ _ _ _ _ _ _ _ _ _ _ _ _ _ _ _ _ (i + 1) (_) (n) ?_))
          · omega
          · exact ⟨by omega, rfl, HD.out, rfl⟩
      · rw [if_neg (fun q => c1 q.1)] at HD
        go_wp2
        refine Handed.intro ((Skip.links h).length - (i + 1)) ?_ (hJ1 _ _ _ (fun Φ hΦ => hΦ _ _ _ _ _ _ _ _ _ _ _ _ _ _ _ _ _ _ _ _ _ _ _ _ _ _ _ _ _ _ _ _ _ _ _ _ _ _ _ _ _ _ _ _ (i + 1) (_) (n) ?_))
        · omega
        · exact ⟨by omega, rfl, HD.out, rfl⟩
    · have HB : Hid (n = Skip.next h low) := Lib.hid (by
        have := H3.out
        rwa [List.drop_of_length_le (by omega)] at this)
      clear H3
      go_wp2
      go_ret2
      exact ⟨by rw [← HB.out]; rfl, hb1⟩
theorem refskip_Next_all (h low : Int) (w : World) :
    Calls Try.prog 13 #[.int .i64 h, .int .i64 low] w fun e w' => e = .returned (.tuple #[.int .i64 (nextV h low).1, .int .i64 (nextV h low).2]) ∧ Below w.heap.size w w' := by
  by_cases hc : 0 ≤ low ∧ low < h ∧ h ≤ 1048576
  · obtain ⟨n, rfl⟩ := Int.eq_ofNat_of_zero_le (show 0 ≤ h by omega)
    obtain ⟨m, rfl⟩ := Int.eq_ofNat_of_zero_le (show 0 ≤ low by omega)
    rw [show nextV (n : Int) (m : Int) = (Skip.next n m, 0) from by unfold nextV; rw [if_pos hc]; rfl]
    exact refskip_Next n m w (by omega) (by omega)
  · rw [show nextV h low = (0, 1) from by unfold nextV; rw [if_neg hc]]
    by_cases h1 : low < 0
    · go_enter Try.func13, Try.ntmps13
      go_wp2
      go_ret2
      exact ⟨rfl, Below.refl _ _⟩
    · by_cases h2 : h ≤ low
      · go_enter Try.func13, Try.ntmps13
        go_wp2
        go_ret2
        exact ⟨rfl, Below.refl _ _⟩
      · have h3 : 1048576 < h := by omega
        go_enter Try.func13, Try.ntmps13
        go_wp2
        go_ret2
        exact ⟨rfl, Below.refl _ _⟩

set_option maxHeartbeats 400000 in
theorem refskip_Route (h low : Nat) (w : World) (hl : low ≤ h) (hh : h ≤ 1048576) :
    Calls Try.prog 14 #[.int .i64 h, .int .i64 low] w fun e w' => ∃ v, e = .returned (.tuple #[v, .int .i64 0]) ∧ w'.ownsRow w.heap.size 3 1 v (Skip.route h low).length (ints (Skip.route h low)) ∧ Below w.heap.size w w' := by
  have h42 := Skip.route_40 h low hl hh
  go_enter Try.func14, Try.ntmps14
  go_wp2_with fail
  refine wp_loop_ghost_k (fun k a wr => ∀ Φ : Act → Prop, (∀ (s2 s3 s4 s5 s9 s10 s11 s12 s13 s14 s15 s16 s17 s18 s19 s20 s21 s22 s23 s24 s25 s26 s27 s28 s29 s30 s31 s32 s33 s34 s35 s36 s37 s38 s39 s40 s41 s42 s43 : Value) (h' i : Nat) (acc : List Nat) (o : Value), (low ≤ h' ∧ h' ≤ h ∧ i = acc.length ∧ (Skip.route h' low).length = k ∧ i + k = (Skip.route h low).length ∧ wr.ownsRow w.heap.size 3 1 o acc.length (ints acc) ∧ Below w.heap.size w wr ∧ acc ++ Skip.route h' low = Skip.route h low) → Φ { tmps := #[.int .i64 h, .int .i64 low, s2, s3, s4, s5, o, .int .i64 h', .int .i64 i, s9, s10, s11, s12, s13, s14, s15, s16, s17, s18, s19, s20, s21, s22, s23, s24, s25, s26, s27, s28, s29, s30, s31, s32, s33, s34, s35, s36, s37, s38, s39, s40, s41, s42, s43], defers := [] }) → Φ a) ((Skip.route h low).length) ?_ ?_
  · refine fun Φ hΦ => hΦ _ _ _ _ _ _ _ _ _ _ _ _ _ _ _ _ _ _ _ _ _ _ _ _ _ _ _ _ _ _ _ _ _ _ _ _ _ _ _ (h) (0) ([]) (_) ?_
    exact ⟨hl, Nat.le_refl _, rfl, rfl, by omega, World.ownsRow_nil _ _ _ _, Below.refl _ _, rfl⟩
  · intro k1 a1 wr1 hI1 J1 K1 hJ1 hK1
    refine hI1 (fun a => Code.wp _ _ _ a _) ?_
    clear hI1 a1
    intro s0 s1 s2 s3 s4 s5 s6 s7 s8 s9 s10 s11 s12 s13 s14 s15 s16 s17 s18 s19 s20 s21 s22 s23 s24 s25 s26 s27 s28 s29 s30 s31 s32 s33 s34 s35 s36 s37 s38 h' i acc o hrel
    show Code.wp _ _ _ _ _
    obtain ⟨h1, h2, h3, h4, h5, hown, hb, hacc⟩ := hrel
    have HA := Lib.hid hacc
    clear hacc
    have hsz := hb.size
    by_cases hlt : low < h'
    · have hnx := Skip.next_lt h' low hlt
      rw [Skip.route_cons hlt, List.length_cons] at h4
      have HB : Hid (acc ++ [Skip.next h' low] ++ Skip.route (Skip.next h' low) low = Skip.route h low) := Lib.hid (by
        rw [← HA.out, Skip.route_cons hlt]; simp)
      have HI := Lib.hid h3
      have H4 := Lib.hid h4
      have hi100 : i < 100 := by omega
      clear HA h3 h4
      go_wp2_with fail
      refine (refskip_Next h' low _ hlt (by omega)).mono ?_
      rintro e w1 ⟨rfl, hb1⟩
      have hbn := hb.nxt hb1
      have hownn := own_below hown hb1
      go_wp2_with (at_builtin; refine wpList_append_new w1 3 [.int .i64 (Skip.next h' low : Nat)] rfl _ _ 23 rfl w.heap.size 1 8 _ info_int Try.underlying23 rfl (by decide) _ _ _ rfl hownn 1 1 rfl rfl (by simp [Value.oneCell']) (by simp only [maxLen]; have := HI.out; omega) (by have := HI.out; omega) w.heap.size w hbn (Nat.le_refl _) hbn.size ?_; intro v1 w1 hown1 hb1 _ _ _)
      have g3 := HI.out
      have g4 := H4.out
      refine Handed.intro ((Skip.route (Skip.next h' low) low).length) ?_ (hJ1 _ _ _ (fun Φ hΦ => hΦ _ _ _ _ _ _ _ _ _ _ _ _ _ _ _ _ _ _ _ _ _ _ _ _ _ _ _ _ _ _ _ _ _ _ _ _ _ _ _ (Skip.next h' low) (i + 1) (acc ++ [Skip.next h' low]) (v1) ?_))
      · omega
      · exact ⟨by omega, by omega, by simp [g3], rfl, by omega, by simpa [ints_snoc] using hown1, hb1, HB.out⟩
    · have HB : Hid (acc = Skip.route h low) := Lib.hid (by rw [← HA.out, Skip.route_self hlt]; simp)
      have hi100 : i < 100 := by omega
      clear HA h3 h4
      go_wp2
      go_ret2
      rw [← HB.out]
      exact ⟨_, rfl, hown, hb⟩
theorem refskip_Route_all (h low : Int) (w : World) :
    Calls Try.prog 14 #[.int .i64 h, .int .i64 low] w fun e w' => ∃ v, e = .returned (.tuple #[v, .int .i64 (routeV h low).2]) ∧ w'.ownsRow w.heap.size 3 1 v (routeV h low).1.length (ints (routeV h low).1) ∧ Below w.heap.size w w' := by
  by_cases hc : 0 ≤ low ∧ low ≤ h ∧ h ≤ 1048576
  · obtain ⟨n, rfl⟩ := Int.eq_ofNat_of_zero_le (show 0 ≤ h by omega)
    obtain ⟨m, rfl⟩ := Int.eq_ofNat_of_zero_le (show 0 ≤ low by omega)
    rw [show routeV (n : Int) (m : Int) = (Skip.route n m, 0) from by unfold routeV; rw [if_pos hc]; rfl]
    exact refskip_Route n m w (by omega) (by omega)
  · rw [show routeV h low = ([], 1) from by unfold routeV; rw [if_neg hc]]
    by_cases h1 : low < 0
    · go_enter Try.func14, Try.ntmps14
      go_wp2
      go_ret2
      exact ⟨_, rfl, World.ownsRow_nil _ _ _ _, Below.refl _ _⟩
    · by_cases h2 : h < low
      · go_enter Try.func14, Try.ntmps14
        go_wp2
        go_ret2
        exact ⟨_, rfl, World.ownsRow_nil _ _ _ _, Below.refl _ _⟩
      · have h3 : 1048576 < h := by omega
        go_enter Try.func14, Try.ntmps14
        go_wp2
        go_ret2
        exact ⟨_, rfl, World.ownsRow_nil _ _ _ _, Below.refl _ _⟩
end Go.Proofs.Ytfdnoeoilanohaa
