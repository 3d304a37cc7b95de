import Derived.Test.YtefcmigbdfeaiaaDoorK01
import Derived.Test.YtefcmigbdfeaiaaDoorK06
set_option linter.unusedSimpArgs false
set_option linter.unusedVariables false
namespace Go.Proofs.YtefcmigbdfeaiaaDoor
set_option linter.unusedVariables false
open Go.RowKit
attribute [local go_sem] ba_get ByteArray.mk_append_mk
set_option maxRecDepth 100000 in
set_option maxHeartbeats 400000 in
theorem nib_Of (s : List UInt8) (w : World) (hs : s.length ≤ 2000) :
    Calls Tryd.prog 56 #[.string ⟨s.toArray⟩] w fun e w' => e = .returned (.string ⟨(Nib.of s).toArray⟩) ∧ Below w.heap.size w w' := by
  go_enter Tryd.func56, Tryd.ntmps56
  obtain ⟨i0, hi0, hz0, hz1, hz2⟩ := info_parts info_byte
  go_wp2_with (at_make; refine wpList_make_own _ rfl _ _ 127 rfl w.heap.size 5 i0 _ 1 Tryd.underlying127 hi0 hz0 hz1 .i64 .i64 _ (2 * s.length) rfl rfl (by omega) (by rw [hz2]; omega) (by simp only [maxLen]; omega) (Nat.le_refl _) ?_; intro w1 hown1 hg1)
  have hb1 : Below w.heap.size w w1 := (Below.refl _ _).grown hg1 (Nat.le_refl _) (by simp)
  refine wp_loop_ghost_k (fun k a wr => ∀ Φ : Act → Prop, (∀ (s1 s2 s4 s5 s6 s7 s8 s9 s12 s13 s14 s15 s16 s17 s18 s19 s20 s21 s22 s23 s24 s25 s26 s27 : Value) (i : Nat) (v : Value) (t : List UInt8), (i + k = s.length ∧ t.length = 2 * i ∧ t = Nib.of (s.take i) ∧ wr.ownsRow w.heap.size 5 1 v (2 * i) (bvals t) ∧ Below w.heap.size w wr) → Φ { tmps := #[.string ⟨s.toArray⟩, s1, s2, v, s4, s5, s6, s7, s8, s9, .int .i64 s.length, .int .i64 i, s12, s13, s14, s15, s16, s17, s18, s19, s20, s21, s22, s23, s24, s25, s26, s27], defers := [] }) → Φ a) (s.length) ?_ ?_
  · refine fun Φ hΦ => hΦ _ _ _ _ _ _ _ _ _ _ _ _ _ _ _ _ _ _ _ _ _ _ _ _ (0) (_) ([]) ?_
    exact ⟨by omega, rfl, rfl, hown1, hb1⟩
  · intro k1 a1 wr1 hI1 J1 K1 hJ1 hK1
    refine hI1 (fun a => Code.wp _ _ _ a _) ?_
    clear hI1 a1
    intro s0 s1 s2 s3 s4 s5 s6 s7 s8 s9 s10 s11 s12 s13 s14 s15 s16 s17 s18 s19 s20 s21 s22 s23 i v t hrel
    show Code.wp _ _ _ _ _
    obtain ⟨h1, h2, h3, hown, hb⟩ := hrel
    have H3 := Lib.hid h3
    clear h3
    by_cases hi : i < s.length
    · have hlt := s[i].toNat_lt
      have hq : IntKind.u8.wrap ((s[i].toNat : Int) / 16) = (s[i].toNat : Int) / 16 := IntWalk.u8_in _ (by omega)
      have HE : Hid (t ++ [s[i] / 16, s[i] % 16] = Nib.of (s.take (i + 1))) := Lib.hid (by
        rw [List.take_succ_eq_append_getElem hi, Nib.of_snoc, H3.out])
      have hand := u8_and15 s[i]
      clear H3
      go_wp2
      go_region_law (refine step_append_new wr1 5 [.int .u8 ((s[i].toNat : Int) / 16), .int .u8 ((s[i].toNat : Int) % 16)] rfl _ _ 127 rfl w.heap.size 1 1 _ info_byte Tryd.underlying127 rfl (by decide) v _ _ rfl hown 2 2 rfl rfl (by simp [Value.oneCell']) (by simp only [maxLen]; omega) (by omega) w.heap.size w hb (Nat.le_refl _) hb.size ?_; intro v1 w1 hown1 hb1 _ _ _)
      all_goals go_wp2
      all_goals (refine Handed.intro (s.length - (i + 1)) ?_ (hJ1 _ _ _ (fun Φ hΦ => hΦ _ _ _ _ _ _ _ _ _ _ _ _ _ _ _ _ _ _ _ _ _ _ _ _ (i + 1) (v1) (t ++ [s[i] / 16, s[i] % 16]) ?_)))
      any_goals omega
      all_goals exact ⟨by omega, by simp; omega, HE.out, by simpa [bvals, UInt8.toNat_div, UInt8.toNat_mod, Nat.mul_add] using hown1, hb1⟩
    · obtain ⟨A, c, rfl, hr, -, -⟩ := own_form hown
      have hconv := conv_reads _ _ _ _ c t hr
      have E2 : Hid (t = Nib.of s) := Lib.hid (by rw [H3.out, List.take_of_length_le (by omega)])
      clear H3
      go_wp2
      go_ret
      exact ⟨ret_string (by rw [E2.out]), hb⟩
set_option maxRecDepth 100000 in
set_option maxHeartbeats 400000 in
theorem nib_Fit (s : List UInt8) (w : World) (hs : s.length ≤ 1048576) :
    Calls Tryd.prog 86 #[.string ⟨s.toArray⟩] w fun e w' => e = .returned (.bool (Nib.fit s)) ∧ w = w' := by
  go_enter Tryd.func86, Tryd.ntmps86
  go_wp2
  refine wp_loop_ghost_k (fun k a wr => ∀ Φ : Act → Prop, (∀ (s1 s2 s3 s4 s7 s8 s9 s10 s11 s12 s13 : Value) (i : Nat), (i + k = s.length ∧ Nib.fit (s.take i) = true ∧ wr = w) → Φ { tmps := #[.string ⟨s.toArray⟩, s1, s2, s3, s4, .int .i64 s.length, .int .i64 i, s7, s8, s9, s10, s11, s12, s13], defers := [] }) → Φ a) (s.length) ?_ ?_
  · refine fun Φ hΦ => hΦ _ _ _ _ _ _ _ _ _ _ _ (0) ?_
    exact ⟨by omega, rfl, rfl⟩
  · intro k1 a1 wr1 hI1 J1 K1 hJ1 hK1
    refine hI1 (fun a => Code.wp _ _ _ a _) ?_
    clear hI1 a1
    intro s0 s1 s2 s3 s4 s5 s6 s7 s8 s9 s10 i hrel
    show Code.wp _ _ _ _ _
    obtain ⟨h1, h2, rfl⟩ := hrel
    have H2 := Lib.hid h2
    clear h2
    by_cases hi : i < s.length
    · have hlt := s[i].toNat_lt
      by_cases hc : s[i] ≤ 15
      · have hq : (s[i].toNat : Int) ≤ 15 := by rw [UInt8.le_iff_toNat_le] at hc; simp at hc; omega
        have HE : Hid (Nib.fit (s.take (i + 1)) = true) := Lib.hid (by rw [Nib.fit_take _ _ hi, H2.out]; simpa using hc)
        clear hc H2
        go_wp2
        refine Handed.intro (s.length - (i + 1)) ?_ (hJ1 _ _ _ (fun Φ hΦ => hΦ _ _ _ _ _ _ _ _ _ _ _ (i + 1) ?_))
        · omega
        · exact ⟨by omega, HE.out, rfl⟩
      · have hq : 15 < (s[i].toNat : Int) := by rw [UInt8.le_iff_toNat_le] at hc; simp at hc; omega
        have HE : Hid (Nib.fit s = false) := Lib.hid (Nib.fit_false hi hc)
        clear hc H2
        go_wp2
        go_ret
        exact ⟨by rw [HE.out]; rfl, rfl⟩
    · have HE : Hid (Nib.fit s = true) := Lib.hid (by have := H2.out; rwa [List.take_of_length_le (by omega)] at this)
      clear H2
      go_wp2
      go_ret
      exact ⟨by rw [HE.out]; rfl, rfl⟩
set_option maxRecDepth 100000 in
set_option maxHeartbeats 400000 in
theorem nib_Common (x y : List UInt8) (w : World) (hx : x.length ≤ 1048576) (hy : y.length ≤ 1048576) :
    Calls Tryd.prog 58 #[.string ⟨x.toArray⟩, .string ⟨y.toArray⟩] w fun e w' => e = .returned (.int .i64 (Nib.common x y)) ∧ Below w.heap.size w w' := by
  go_enter Tryd.func58, Tryd.ntmps58
  go_wp2
  refine wp_loop_ghost_k (fun k a wr => ∀ Φ : Act → Prop, (∀ (s2 s3 s4 s6 s7 s8 s9 s10 s11 s12 s13 s14 s15 s16 s17 s18 s19 s20 s21 s22 s23 s24 s25 s26 s27 : Value) (i : Nat), (i + k = x.length ∧ i ≤ Nib.common x y ∧ Below w.heap.size w wr) → Φ { tmps := #[.string ⟨x.toArray⟩, .string ⟨y.toArray⟩, s2, s3, s4, .int .i64 i, s6, s7, s8, s9, s10, s11, s12, s13, s14, s15, s16, s17, s18, s19, s20, s21, s22, s23, s24, s25, s26, s27], defers := [] }) → Φ a) (x.length) ?_ ?_
  · refine fun Φ hΦ => hΦ _ _ _ _ _ _ _ _ _ _ _ _ _ _ _ _ _ _ _ _ _ _ _ _ _ (0) ?_
    exact ⟨by omega, by omega, Below.refl _ _⟩
  · intro k1 a1 wr1 hI1 J1 K1 hJ1 hK1
    refine hI1 (fun a => Code.wp _ _ _ a _) ?_
    clear hI1 a1
    intro s0 s1 s2 s3 s4 s5 s6 s7 s8 s9 s10 s11 s12 s13 s14 s15 s16 s17 s18 s19 s20 s21 s22 s23 s24 i hrel
    show Code.wp _ _ _ _ _
    obtain ⟨h1, h2, hb⟩ := hrel
    have hcl := Nib.common_le x y
    have fin : ∀ j, j = i → ¬ (i + 1 ≤ Nib.common x y) → Ending.returned (.int .i64 ((j : Nat) : Int)) = .returned (.int .i64 ((Nib.common x y : Nat) : Int)) := fun j e h => ret_int (by omega)
    have Fin := Lib.hid fin
    clear fin
    by_cases hi : i < x.length
    · by_cases hj : i < y.length
      · have hst := Nib.common_step h2 hi hj
        by_cases hc : x[i] = y[i]
        · have hq : ((x[i].toNat : Int) == (y[i].toNat : Int)) = true := by rw [hc]; simp
          have h3 := hst.2 hc
          clear hst hc
          go_wp2
          go_quiet (fail)
          go_wp2
          refine Handed.intro (x.length - (i + 1)) ?_ (hJ1 _ _ _ (fun Φ hΦ => hΦ _ _ _ _ _ _ _ _ _ _ _ _ _ _ _ _ _ _ _ _ _ _ _ _ _ (i + 1) ?_))
          · omega
          · exact ⟨by omega, h3, below_drewN hb _⟩
        · have hq : ((x[i].toNat : Int) == (y[i].toNat : Int)) = false := by
            rw [beq_eq_false_iff_ne]; intro e; exact hc (UInt8.toNat_inj.1 (by omega))
          have h3 := mt hst.1 hc
          have F := Lib.hid (Fin.out i rfl h3)
          clear hst hc h3 Fin
          go_wp2
          go_quiet (fail)
          go_wp2
          go_ret
          exact ⟨F.out, below_drewN hb _⟩
      · have F := Lib.hid (Fin.out i rfl (by omega))
        have hq : decide ((i : Int) < (y.length : Int)) = false := by simp; omega
        clear Fin
        go_wp2
        go_quiet (fail)
        go_wp2
        go_ret
        exact ⟨F.out, below_drewN hb _⟩
    · have F := Lib.hid (Fin.out i rfl (by omega))
      have hq : decide ((i : Int) < (x.length : Int)) = false := by simp; omega
      clear Fin
      go_wp2
      go_quiet (fail)
      go_wp2
      go_ret
      exact ⟨F.out, below_drewN hb _⟩
set_option maxRecDepth 100000 in
set_option maxHeartbeats 400000 in
theorem nib_joined (s : List UInt8) (w : World) (hs : s.length ≤ 1048576) (hf : Nib.fit s = true) :
    Calls Tryd.prog 87 #[.string ⟨s.toArray⟩] w fun e w' => e = .returned (.string ⟨(Nib.joined s).toArray⟩) ∧ Below w.heap.size w w' := by
  obtain ⟨i0, hi0, hz0, hz1, hz2⟩ := info_parts info_byte
  have hfit : ∀ i, (h : i < s.length) → s[i] ≤ 15 := fun i h => by
    unfold Nib.fit at hf; rw [List.all_eq_true] at hf; simpa using hf s[i] (List.getElem_mem h)
  have HF := Lib.hid hfit
  clear hfit hf
  go_enter Tryd.func87, Tryd.ntmps87
  go_wp2_with (at_make; refine wpList_make_own _ rfl _ _ 127 rfl w.heap.size 5 i0 _ 1 Tryd.underlying127 hi0 hz0 hz1 .i64 .i64 _ (s.length / 2) rfl rfl (by omega) (by rw [hz2]; omega) (by simp only [maxLen]; omega) (Nat.le_refl _) ?_; intro w1 hown1 hg1)
  have hb1 : Below w.heap.size w w1 := (Below.refl _ _).grown hg1 (Nat.le_refl _) (by simp)
  refine wp_loop_ghost_k (fun k a wr => ∀ Φ : Act → Prop, (∀ (s1 s2 s4 s5 s6 s7 s8 s9 s10 s13 s14 s15 s16 s17 s18 s19 s20 s21 s22 s23 s24 s25 s26 s27 s28 s29 s30 s31 : Value) (i : Nat) (v : Value) (t : List UInt8), (i + k = s.length / 2 ∧ t.length = i ∧ t = Nib.joined (s.take (2 * i)) ∧ wr.ownsRow w.heap.size 5 1 v i (bvals t) ∧ Below w.heap.size w wr) → Φ { tmps := #[.string ⟨s.toArray⟩, s1, s2, v, s4, s5, s6, s7, s8, s9, s10, .int .i64 (s.length / 2 : Nat), .int .i64 i, s13, s14, s15, s16, s17, s18, s19, s20, s21, s22, s23, s24, s25, s26, s27, s28, s29, s30, s31], defers := [] }) → Φ a) (s.length / 2) ?_ ?_
  · refine fun Φ hΦ => hΦ _ _ _ _ _ _ _ _ _ _ _ _ _ _ _ _ _ _ _ _ _ _ _ _ _ _ _ _ (0) (_) ([]) ?_
    exact ⟨by omega, rfl, rfl, hown1, hb1⟩
  · intro k1 a1 wr1 hI1 J1 K1 hJ1 hK1
    refine hI1 (fun a => Code.wp _ _ _ a _) ?_
    clear hI1 a1
    intro s0 s1 s2 s3 s4 s5 s6 s7 s8 s9 s10 s11 s12 s13 s14 s15 s16 s17 s18 s19 s20 s21 s22 s23 s24 s25 s26 s27 i v t hrel
    show Code.wp _ _ _ _ _
    obtain ⟨h1, h2, h3, hown, hb⟩ := hrel
    have H3 := Lib.hid h3
    clear h3
    by_cases hi : i < s.length / 2
    · have h4 : 2 * i + 1 < s.length := by omega
      obtain ⟨bb, hbb⟩ : ∃ bb, bb = s[2 * i] * 16 + s[2 * i + 1] := ⟨_, rfl⟩
      have q9 := u8_pack s[2 * i] s[2 * i + 1] (HF.out _ _) (HF.out _ _)
      rw [← hbb] at q9
      have HE : Hid (t ++ [bb] = Nib.joined (s.take (2 * (i + 1)))) := Lib.hid (by have := Nib.joined_take s i h4; rw [← H3.out, ← hbb] at this; exact this.symm)
      clear hbb
      clear H3
      go_wp2
      have q1 : IntKind.i64.wrap (2 * (i : Int)) = 2 * (i : Int) := IntWalk.i64_in _ (by omega)
      have q2 : IntKind.i64.wrap (2 * (i : Int) + 1) = 2 * (i : Int) + 1 := IntWalk.i64_in _ (by omega)
      have q3 : (2 * (i : Int)).toNat = 2 * i := by omega
      have q4 : (2 * (i : Int) + 1).toNat = 2 * i + 1 := by omega
      have q5 : 2 * (i : Int) < (s.length : Int) := by omega
      have q6 : 2 * (i : Int) + 1 < (s.length : Int) := by omega
      have q7 : 0 ≤ 2 * (i : Int) := by omega
      have q8 : 0 ≤ 2 * (i : Int) + 1 := by omega
      go_region_law (refine step_append_new wr1 5 [.int .u8 (bb.toNat : Int)] rfl _ _ 127 rfl w.heap.size 1 1 _ info_byte Tryd.underlying127 rfl (by decide) v _ _ rfl hown 1 1 rfl rfl (by simp [Value.oneCell']) (by simp only [maxLen]; omega) (by omega) w.heap.size w hb (Nat.le_refl _) hb.size ?_; intro v1 w1 hown1 hb1 _ _ _)
      all_goals go_wp2
      all_goals (refine Handed.intro (s.length / 2 - (i + 1)) ?_ (hJ1 _ _ _ (fun Φ hΦ => hΦ _ _ _ _ _ _ _ _ _ _ _ _ _ _ _ _ _ _ _ _ _ _ _ _ _ _ _ _ (i + 1) (v1) (t ++ [bb]) ?_)))
      any_goals omega
      all_goals exact ⟨by omega, by simp; omega, HE.out, by simpa [bvals] using hown1, hb1⟩
    · obtain ⟨A, c, rfl, hr, -, -⟩ := own_form hown
      have hconv := conv_reads _ _ _ _ c t hr
      have E2 : Hid (t = Nib.joined s) := Lib.hid (by
        rw [H3.out]
        have e : i = s.length / 2 := by omega
        rw [e]; exact Nib.joined_half s)
      clear H3
      go_wp2
      go_ret
      exact ⟨ret_string (by rw [E2.out]), hb⟩
end Go.Proofs.YtefcmigbdfeaiaaDoor

namespace Go.Proofs.YtefcmigbdfeaiaaDoor
set_option linter.unusedVariables false
open Go.RowKit
attribute [local go_sem] ba_get ByteArray.mk_append_mk ByteArray.extract_mk
set_option maxHeartbeats 400000 in
theorem nib_Pack_bad (s : List UInt8) (leaf : Bool) (w : World) (hs : s.length ≤ 1048576) (hf : Nib.fit s = false) :
    Calls Tryd.prog 136 #[.string ⟨s.toArray⟩, .bool leaf] w fun e w' => e = .returned (.tuple #[.string ⟨#[]⟩, .int .i64 3]) ∧ Below w.heap.size w w' := by
  have HF := Lib.hid hf
  clear hf
  go_enter Tryd.func136, Tryd.ntmps136
  go_wp2_with fail
  refine (nib_Fit s _ hs).mono ?_
  rintro e w1 ⟨rfl, rfl⟩
  rw [HF.out]
  go_wp2
  go_ret2
  exact ⟨rfl, Below.refl _ _⟩
set_option maxHeartbeats 400000 in
theorem nib_Pack_even (s : List UInt8) (leaf : Bool) (w : World) (hs : s.length ≤ 1048576) (hf : Nib.fit s = true) (hp : s.length % 2 = 0) :
    Calls Tryd.prog 136 #[.string ⟨s.toArray⟩, .bool leaf] w fun e w' => e = .returned (.tuple #[.string ⟨((if leaf then 32 else 0) :: Nib.joined s).toArray⟩, .int .i64 0]) ∧ Below w.heap.size w w' := by
  have HF := Lib.hid hf
  clear hf
  have hq : (((s.length : Nat) : Int) % 2 == 1) = false := by rw [beq_eq_false_iff_ne]; omega
  have hjl := Nib.joined_length s
  have HJ : (Nib.joined s).length ≤ 1048576 := by omega
  clear hjl
  cases leaf
  · go_enter Tryd.func136, Tryd.ntmps136
    go_wp2_with fail
    refine (nib_Fit s _ hs).mono ?_
    rintro e w1 ⟨rfl, rfl⟩
    rw [HF.out]
    have hc1 := fun W => conv1 W 0 (by omega) (by omega)
    have hc2 := fun W => conv1d W 0 (by omega) (by omega)
    have hc3 := fun w1 => conv1_below w w1 0 (by omega) (by omega)
    go_wp2_with fail
    go_region_with (go_at_call 87; refine (nib_joined s _ hs HF.out).mono ?_; rintro e w1 ⟨rfl, hb⟩; try simp only [World.size_drew, World.size_alloc] at hb; have hbw : Below w.heap.size w w1 := (by first | exact hb | exact hb.start | exact ((Below.refl _ _).alloc (Nat.le_refl _) _).drew.trans (hb.mono (by simp))); have hsz1 := hbw.size)
    all_goals go_wp2
    all_goals go_ret2
    all_goals exact ⟨rfl, by go_grown⟩
  · go_enter Tryd.func136, Tryd.ntmps136
    go_wp2_with fail
    refine (nib_Fit s _ hs).mono ?_
    rintro e w1 ⟨rfl, rfl⟩
    rw [HF.out]
    have hc1 := fun W => conv1 W 32 (by omega) (by omega)
    have hc2 := fun W => conv1d W 32 (by omega) (by omega)
    have hc3 := fun w1 => conv1_below w w1 32 (by omega) (by omega)
    go_wp2_with fail
    go_region_with (go_at_call 87; refine (nib_joined s _ hs HF.out).mono ?_; rintro e w1 ⟨rfl, hb⟩; try simp only [World.size_drew, World.size_alloc] at hb; have hbw : Below w.heap.size w w1 := (by first | exact hb | exact hb.start | exact ((Below.refl _ _).alloc (Nat.le_refl _) _).drew.trans (hb.mono (by simp))); have hsz1 := hbw.size)
    all_goals go_wp2
    all_goals go_ret2
    all_goals exact ⟨rfl, by go_grown⟩
set_option maxHeartbeats 400000 in
theorem nib_Pack_odd (a : UInt8) (s : List UInt8) (leaf : Bool) (w : World) (hs : s.length ≤ 1048575) (hf : Nib.fit (a :: s) = true) (hp : (a :: s).length % 2 = 1) :
    Calls Tryd.prog 136 #[.string ⟨(a :: s).toArray⟩, .bool leaf] w fun e w' => e = .returned (.tuple #[.string ⟨((if leaf then 48 + a else 16 + a) :: Nib.joined s).toArray⟩, .int .i64 0]) ∧ Below w.heap.size w w' := by
  have ha : a ≤ 15 := by unfold Nib.fit at hf; simp at hf; exact hf.1
  have hf2 : Nib.fit s = true := by unfold Nib.fit at hf ⊢; simp at hf ⊢; exact hf.2
  have HF := Lib.hid hf
  have HF2 := Lib.hid hf2
  clear hf hf2
  have hp' : (s.length + 1) % 2 = 1 := by simpa using hp
  have hq : ((((s.length : Nat) : Int) + 1) % 2 == 1) = true := by rw [beq_iff_eq]; omega
  have hjl := Nib.joined_length s
  have HJ : (Nib.joined s).length ≤ 1048576 := by omega
  obtain ⟨o1, o2, o3⟩ := u8_or16 a ha
  have ha' : a.toNat ≤ 15 := by rw [UInt8.le_iff_toNat_le] at ha; simpa using ha
  have HS : (a :: s).length ≤ 1048576 := by simp; omega
  have e16 : UInt8.ofNat (16 + a.toNat) = 16 + a := by simp
  have e48 : UInt8.ofNat (48 + a.toNat) = 48 + a := by simp
  have E := Lib.hid (And.intro e16 e48)
  clear hjl hp hp' ha e16 e48
  generalize hb16 : (16 + a.toNat : Nat) = b16 at o1 o2 o3
  generalize hb48 : (48 + a.toNat : Nat) = b48 at o3
  have h16 : b16 < 256 := by omega
  have h48 : b48 < 256 := by omega
  have B := Lib.hid (And.intro hb16 hb48)
  clear hb16 hb48
  cases leaf
  · go_enter Tryd.func136, Tryd.ntmps136
    go_wp2_with fail
    refine (nib_Fit (a :: s) _ HS).mono ?_
    rintro e w1 ⟨rfl, rfl⟩
    rw [HF.out]
    have hc1 := fun W => conv1 W (b16 : Int) (by omega) (by omega)
    have hc2 := fun W => conv1d W (b16 : Int) (by omega) (by omega)
    have hc3 := fun w1 => conv1_below w w1 (b16 : Int) (by omega) (by omega)
    go_wp2_with fail
    go_region_with (go_at_call 87; refine (nib_joined s _ (by omega) HF2.out).mono ?_; rintro e w1 ⟨rfl, hb⟩; try simp only [World.size_drew, World.size_alloc] at hb; have hbw : Below w.heap.size w w1 := (by first | exact hb | exact hb.start | exact ((Below.refl _ _).alloc (Nat.le_refl _) _).drew.trans (hb.mono (by simp))); have hsz1 := hbw.size)
    all_goals go_wp2
    all_goals go_ret2
    all_goals have e1 : UInt8.ofNat b16 = 16 + a := by rw [← B.out.1]; exact E.out.1
    all_goals exact ⟨by rw [e1]; rfl, by go_grown⟩
  · go_enter Tryd.func136, Tryd.ntmps136
    go_wp2_with fail
    refine (nib_Fit (a :: s) _ HS).mono ?_
    rintro e w1 ⟨rfl, rfl⟩
    rw [HF.out]
    have hc1 := fun W => conv1 W (b48 : Int) (by omega) (by omega)
    have hc2 := fun W => conv1d W (b48 : Int) (by omega) (by omega)
    have hc3 := fun w1 => conv1_below w w1 (b48 : Int) (by omega) (by omega)
    go_wp2_with fail
    go_region_with (go_at_call 87; refine (nib_joined s _ (by omega) HF2.out).mono ?_; rintro e w1 ⟨rfl, hb⟩; try simp only [World.size_drew, World.size_alloc] at hb; have hbw : Below w.heap.size w w1 := (by first | exact hb | exact hb.start | exact ((Below.refl _ _).alloc (Nat.le_refl _) _).drew.trans (hb.mono (by simp))); have hsz1 := hbw.size)
    all_goals go_wp2
    all_goals go_ret2
    all_goals have e1 : UInt8.ofNat b48 = 48 + a := by rw [← B.out.2]; exact E.out.2
    all_goals exact ⟨by rw [e1]; rfl, by go_grown⟩
theorem nib_Pack (s : List UInt8) (leaf : Bool) (w : World) (hs : s.length ≤ 1048575) :
    Calls Tryd.prog 136 #[.string ⟨s.toArray⟩, .bool leaf] w fun e w' => e = .returned (.tuple #[.string ⟨(Nib.pack s leaf).1.toArray⟩, .int .i64 (Nib.pack s leaf).2]) ∧ Below w.heap.size w w' := by
  by_cases hf : Nib.fit s = true
  · by_cases hp : s.length % 2 = 1
    · obtain ⟨a, r, rfl⟩ : ∃ a r, s = a :: r := by
        cases s with
        | nil => simp at hp
        | cons a r => exact ⟨a, r, rfl⟩
      have e : Nib.pack (a :: r) leaf = ((if leaf then 48 + a else 16 + a) :: Nib.joined r, 0) := by
        unfold Nib.pack; rw [if_pos hf, Nib.packed_odd hp]
      rw [e]
      exact nib_Pack_odd a r leaf w (by simp at hs; omega) hf hp
    · have e : Nib.pack s leaf = ((if leaf then 32 else 0) :: Nib.joined s, 0) := by
        unfold Nib.pack; rw [if_pos hf, Nib.packed_even (by omega)]
      rw [e]
      exact nib_Pack_even s leaf w (by omega) hf (by omega)
  · have e : Nib.pack s leaf = ([], 3) := by unfold Nib.pack; rw [if_neg hf]
    rw [e]
    exact nib_Pack_bad s leaf w (by omega) (by simpa using hf)
end Go.Proofs.YtefcmigbdfeaiaaDoor

namespace Go.Proofs.YtefcmigbdfeaiaaDoor
set_option linter.unusedVariables false
open Go.RowKit
attribute [local go_sem] ba_get ByteArray.mk_append_mk ByteArray.extract_mk
theorem nib_Unpack_nil (w : World) :
    Calls Tryd.prog 140 #[.string ⟨#[]⟩] w fun e w' => e = .returned (.tuple #[.string ⟨#[]⟩, .bool false, .int .i64 3]) ∧ Below w.heap.size w w' := by
  go_enter Tryd.func140, Tryd.ntmps140
  go_wp2
  go_ret3
  exact ⟨rfl, Below.refl _ _⟩
set_option maxHeartbeats 400000 in
theorem nib_Unpack_cons (b : UInt8) (r : List UInt8) (w : World) (hs : r.length ≤ 2000) :
    Calls Tryd.prog 140 #[.string ⟨(b :: r).toArray⟩] w fun e w' => e = .returned (.tuple #[.string ⟨(Nib.unpack (b :: r)).1.toArray⟩, .bool (Nib.unpack (b :: r)).2.1, .int .i64 (Nib.unpack (b :: r)).2.2]) ∧ Below w.heap.size w w' := by
  have hlt := b.toNat_lt
  have h15 := u8_and15 b
  obtain ⟨a1, a2⟩ := u8_and12 b
  have hq : IntKind.u8.wrap ((b.toNat : Int) / 16) = (b.toNat : Int) / 16 := IntWalk.u8_in _ (by omega)
  have hol := Nib.of_length r
  have HO : (Nib.of r).length ≤ 4000 := by omega
  have hc := fun W => conv1 W ((b.toNat : Int) % 16) (by omega) (by omega)
  clear hol
  obtain ⟨m1, hm1⟩ : ∃ m1, m1 = b.toNat / 16 % 2 := ⟨_, rfl⟩
  obtain ⟨m2, hm2⟩ : ∃ m2, m2 = b.toNat / 16 / 2 % 2 * 2 := ⟨_, rfl⟩
  rw [← hm1] at a1
  rw [← hm2] at a2
  rw [Nib.unpack_cons]
  by_cases h1 : 3 < b.toNat / 16
  · have hk : 3 < (b.toNat : Int) / 16 := by omega
    rw [if_pos (.inl h1)]
    clear h1 hm1 hm2
    go_enter Tryd.func140, Tryd.ntmps140
    go_wp2
    go_quiet (fail)
    go_wp2
    go_ret3
    exact ⟨rfl, below_drewN (Below.refl _ _) _⟩
  · have hk : ¬ 3 < (b.toNat : Int) / 16 := by omega
    have ho2 : (((m2 : Nat) : Int) != 0) = decide (2 ≤ b.toNat / 16) := by
      by_cases h : 2 ≤ b.toNat / 16
      · rw [decide_eq_true h, bne_iff_ne]; omega
      · rw [decide_eq_false h]; simp; omega
    by_cases h2 : b.toNat / 16 % 2 = 1
    · rw [if_neg (by omega), if_pos h2]
      have ho1 : (((m1 : Nat) : Int) != 0) = true := by rw [bne_iff_ne]; omega
      have O2 := Lib.hid ho2
      clear h1 h2 hm1 hm2 ho2
      go_enter Tryd.func140, Tryd.ntmps140
      go_wp2
      go_quiet (fail)
      go_wp2_with fail
      refine (nib_Of r _ hs).mono ?_
      rintro e w1 ⟨rfl, hb⟩
      go_wp2
      go_ret3
      rw [← O2.out]
      exact ⟨rfl, ((hb.trans ((Below.refl _ _).alloc hb.size _)).start_drewN)⟩
    · have ho1 : (((m1 : Nat) : Int) != 0) = false := by simp; omega
      have O2 := Lib.hid ho2
      by_cases h3 : b.toNat % 16 = 0
      · rw [if_neg (by omega), if_neg h2]
        have hz : (((b.toNat : Int) % 16) != 0) = false := by simp; omega
        clear h1 h2 hm1 hm2 ho2 h3
        go_enter Tryd.func140, Tryd.ntmps140
        go_wp2
        go_quiet (fail)
        go_wp2_with fail
        refine (nib_Of r _ hs).mono ?_
        rintro e w1 ⟨rfl, hb⟩
        go_wp2
        go_ret3
        rw [← O2.out]
        exact ⟨rfl, hb.start_drewN⟩
      · rw [if_pos (.inr ⟨by omega, h3⟩)]
        have hz : (((b.toNat : Int) % 16) != 0) = true := by rw [bne_iff_ne]; omega
        clear h1 h2 hm1 hm2 ho2 h3
        go_enter Tryd.func140, Tryd.ntmps140
        go_wp2
        go_quiet (fail)
        go_wp2
        go_ret3
        exact ⟨rfl, below_drewN (Below.refl _ _) _⟩
theorem nib_Unpack (s : List UInt8) (w : World) (hs : s.length ≤ 2001) :
    Calls Tryd.prog 140 #[.string ⟨s.toArray⟩] w fun e w' => e = .returned (.tuple #[.string ⟨(Nib.unpack s).1.toArray⟩, .bool (Nib.unpack s).2.1, .int .i64 (Nib.unpack s).2.2]) ∧ Below w.heap.size w w' := by
  cases s with
  | nil => exact nib_Unpack_nil w
  | cons b r => exact nib_Unpack_cons b r w (by simp at hs; omega)
end Go.Proofs.YtefcmigbdfeaiaaDoor

namespace Go.Proofs.YtefcmigbdfeaiaaDoor
set_option linter.unusedVariables false
open Go.RowKit Go.Instr
attribute [local go_sem] ba_get ByteArray.mk_append_mk
def pathOk (p : List UInt8) (least : Nat) : Bool := Nib.fit p && decide (least ≤ p.length ∧ p.length ≤ 16)
set_option maxRecDepth 100000 in
theorem node_path (p : List UInt8) (least : Nat) (hl : least ≤ 1) (hp : p.length ≤ 1048576) (w : World) :
    Calls Tryd.prog 141 #[.string ⟨p.toArray⟩, .int .i64 (least : Int)] w fun e w' => e = .returned (.bool (pathOk p least)) ∧ w = w' := by
  have HF := nib_Fit p w hp
  have HP : Hid (∀ b w', pathOk p least = b → w = w' → (fun e w' => e = Ending.returned (.bool (pathOk p least)) ∧ w = w') (Ending.returned (.bool b)) w') := Lib.hid (fun b w' e hb => ⟨by rw [e], hb⟩)
  generalize (fun e w' => e = Ending.returned (.bool (pathOk p least)) ∧ w = w') = P at HP ⊢
  unfold pathOk at HP
  cases hf : Nib.fit p with
  | false =>
    rw [hf] at HF HP
    go_enter Tryd.func141, Tryd.ntmps141
    go_wp2_with fail
    refine HF.mono ?_
    rintro e w1 ⟨rfl, rfl⟩
    go_wp2
    exact HP.out _ _ (by simp) rfl
  | true =>
    rw [hf] at HF HP
    by_cases h1 : least ≤ p.length
    · have h1' : (least : Int) ≤ p.length := by omega
      by_cases h2 : p.length ≤ 16
      · have h2' : (p.length : Int) ≤ 16 := by omega
        go_enter Tryd.func141, Tryd.ntmps141
        go_wp2_with fail
        refine HF.mono ?_
        rintro e w1 ⟨rfl, rfl⟩
        go_wp2
        exact HP.out _ _ (by simp [h1, h2]) rfl
      · have h2' : ((p.length : Int) ≤ 16) = False := by simp; omega
        go_enter Tryd.func141, Tryd.ntmps141
        go_wp2_with fail
        refine HF.mono ?_
        rintro e w1 ⟨rfl, rfl⟩
        go_wp2
        exact HP.out _ _ (by simp [h2]) rfl
    · have h1' : ((least : Int) ≤ p.length) = False := by simp; omega
      go_enter Tryd.func141, Tryd.ntmps141
      go_wp2_with fail
      refine HF.mono ?_
      rintro e w1 ⟨rfl, rfl⟩
      go_wp2
      exact HP.out _ _ (by simp [h1]) rfl
def strv (l : List (List UInt8)) : List Value := l.map fun s => .string ⟨s.toArray⟩
theorem strv_length (l : List (List UInt8)) : (strv l).length = l.length := by simp [strv]
theorem strv_at {l : List (List UInt8)} {i : Nat} (h : i < l.length) : (strv l)[i]? = some (.string ⟨l[i].toArray⟩) := by
  simp [strv, h]
def sumsOk (l : List (List UInt8)) : Bool := l.all fun s => decide (s.length = 32)
set_option maxRecDepth 100000 in
theorem node_sums (l : List (List UInt8)) (hl : l.length ≤ 1000) (w : World) (A : Option Addr) (c : Nat) (HR : Reads w w.heap.size 1 A l.length (strv l)) :
    Calls Tryd.prog 142 #[.slice A l.length c] w fun e w' => e = .returned (.bool (sumsOk l)) ∧ w = w' := by
  go_enter Tryd.func142, Tryd.ntmps142
  go_wp2
  refine wp_loop_ghost_k (fun k a wr => ∀ Φ : Act → Prop, (∀ (s0 s1 s2 s3 s4 s8 s9 s10 s11 s12 s13 s14 : Value) (i : Nat), (i + k = l.length ∧ sumsOk (l.take i) = true ∧ wr = w) → Φ { tmps := #[s0, s1, s2, s3, s4, .slice A l.length c, .int .i64 l.length, .int .i64 i, s8, s9, s10, s11, s12, s13, s14], defers := [] }) → Φ a) (l.length) ?_ ?_
  · refine fun Φ hΦ => hΦ _ _ _ _ _ _ _ _ _ _ _ _ (0) ?_
    exact ⟨by omega, rfl, rfl⟩
  · intro k1 a1 wr1 hI1 J1 K1 hJ1 hK1
    refine hI1 (fun a => Code.wp _ _ _ a _) ?_
    clear hI1 a1
    intro s0 s1 s2 s3 s4 s5 s6 s7 s8 s9 s10 s11 i hrel
    show Code.wp _ _ _ _ _
    obtain ⟨h1, h2, rfl⟩ := hrel
    by_cases hi : i < l.length
    · obtain ⟨ad, rfl, hbl, hcell⟩ := HR.2 (by omega)
      have q0 := hcell i _ (strv_at hi)
      have hi1 : (i : Int) < l.length := by omega
      have hs : sumsOk (l.take (i + 1)) = decide (l[i].length = 32) := by
        rw [List.take_succ_eq_append_getElem hi]
        unfold sumsOk at *
        rw [List.all_append, h2]
        simp
      have hf : decide (l[i].length = 32) = false → sumsOk l = false := fun h => by
        rw [Bool.eq_false_iff]
        intro hc
        unfold sumsOk at hc
        rw [List.all_eq_true] at hc
        have := hc _ (List.getElem_mem hi)
        rw [h] at this
        cases this
      clear hcell HR
      generalize l[i] = s at *
      by_cases h32 : s.length = 32
      · have e32 : ((s.length : Int) = 32) = True := by simp; omega
        have T := Lib.hid (show sumsOk (l.take (i + 1)) = true from hs.trans (by simp [h32]))
        clear hs hf
        go_wp2
        refine Handed.intro (l.length - (i + 1)) ?_ (hJ1 _ _ _ (fun Φ hΦ => hΦ _ _ _ _ _ _ _ _ _ _ _ _ (i + 1) ?_))
        · omega
        · exact ⟨by omega, T.out, rfl⟩
      · have e32 : ((s.length : Int) = 32) = False := by simp; omega
        have T := Lib.hid (hf (by simp [h32]))
        clear hs hf
        go_wp2
        go_ret
        exact ⟨ret_bool T.out.symm, rfl⟩
    · have e : l.take i = l := List.take_of_length_le (by omega)
      have hi2 : ((i : Int) < l.length) = False := by simp; omega
      rw [e] at h2
      have E2 := Lib.hid h2
      clear h2 e
      go_wp2
      go_ret
      exact ⟨ret_bool E2.out.symm, rfl⟩
end Go.Proofs.YtefcmigbdfeaiaaDoor
