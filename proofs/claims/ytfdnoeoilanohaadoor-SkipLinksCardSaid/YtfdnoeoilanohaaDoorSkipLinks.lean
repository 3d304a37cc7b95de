/- The walk of SkipLinks: for every height the law returns true. What is assumed of memory: that the library's table of trailing zeros is laid (the row's own condition). -/
import Derived.Test.YtfdnoeoilanohaaDoorSkipLaw
import Derived.Test.YtfdnoeoilanohaaDoorSkip2
namespace Go.Proofs.YtfdnoeoilanohaaDoor
set_option linter.unusedVariables false
open Go.RowKit

/-- the table of math/bits -/
def tz64 : List Int := [0, 1, 56, 2, 57, 49, 28, 3, 61, 58, 42, 50, 38, 29, 17, 4, 62, 47, 59, 36, 45, 43, 51, 22, 53, 39, 33, 30, 24, 18, 12, 5, 63, 55, 48, 27, 60, 41, 37, 16, 46, 35, 44, 21, 52, 32, 23, 11, 54, 26, 40, 15, 34, 20, 31, 10, 25, 14, 19, 9, 13, 8, 7, 6]
theorem tz_at : ∀ v : Fin 21, (2 ^ v.val * 285870213051353865 % 18446744073709551616 / 288230376151711744 < 64) ∧ tz64.getD (2 ^ v.val * 285870213051353865 % 18446744073709551616 / 288230376151711744) 0 = (v.val : Int) := by decide +kernel
theorem u64_and_nat (a b : Nat) (ha : a < 18446744073709551616) (hb : b < 18446744073709551616) : bits .and .u64 (a : Int) (b : Int) = ((a &&& b : Nat) : Int) := by
  have hx : a &&& b < 2 ^ 64 := Nat.and_lt_two_pow _ (by omega)
  show IntKind.u64.wrap ((BitVec.ofInt 64 (a : Int) &&& BitVec.ofInt 64 (b : Int)).toNat : Int) = _
  rw [BitVec.toNat_and, BitVec.ofInt_natCast, BitVec.ofInt_natCast, BitVec.toNat_ofNat, BitVec.toNat_ofNat, Nat.mod_eq_of_lt (by omega), Nat.mod_eq_of_lt (by omega), IntKind.wrap_u64]
  omega

set_option maxHeartbeats 400000 in
theorem bits_TrailingZeros64 (h v c : Nat) (w : World) (he : h = c * 2 ^ v) (hc : c % 2 = 1) (hv : v < 21) (hh : h ≤ 1048576) (ht : ∀ i, i < 64 → w.cell? ⟨1, i, none⟩ = some (.int .u8 (tz64.getD i 0))) :
    Calls Tryd.prog 10 #[.int .u64 h] w fun e w' => e = .returned (.int .i64 v) ∧ w = w' := by
  have hpos : 0 < h := by rw [he]; exact Nat.mul_pos (by omega) (Nat.two_pow_pos v)
  obtain ⟨t1, t2⟩ := tz_at ⟨v, hv⟩
  simp only at t1 t2
  have hlow := Skip.low_bit 64 v c hc (by rw [← he]; omega)
  rw [← he] at hlow
  obtain ⟨p, hp⟩ : ∃ p, p = 2 ^ v := ⟨_, rfl⟩
  obtain ⟨j, hj⟩ : ∃ j, j = 2 ^ v * 285870213051353865 % 18446744073709551616 / 288230376151711744 := ⟨_, rfl⟩
  rw [← hj] at t1 t2
  have hcell := ht j t1
  rw [t2] at hcell
  have hneg : IntKind.u64.wrap (-(h : Int)) = ((18446744073709551616 - h : Nat) : Int) := by rw [IntKind.wrap_u64]; omega
  obtain ⟨m, hm⟩ : ∃ m, m = 18446744073709551616 - h := ⟨_, rfl⟩
  have hand : bits .and .u64 (h : Int) (m : Int) = (p : Int) := by
    rw [u64_and_nat h m (by omega) (by omega), hm, hp, ← hlow]
  rw [← hm] at hneg
  have hmul : IntKind.u64.wrap ((p : Int) * 285870213051353865) / 288230376151711744 = (j : Int) := by
    rw [IntKind.wrap_u64, hj, ← hp]; omega
  have hq : ((h : Int) == 0) = false := by rw [beq_eq_false_iff_ne]; omega
  have hj2 : (j : Int) < 64 := by omega
  clear hm hp hj t2 hlow ht he hc
  go_enter Tryd.func10, Tryd.ntmps10
  go_wp2
  go_ret
  exact ⟨rfl, rfl⟩

theorem bits_TrailingZeros (h v c : Nat) (w : World) (he : h = c * 2 ^ v) (hc : c % 2 = 1) (hv : v < 21) (hh : h ≤ 1048576) (ht : ∀ i, i < 64 → w.cell? ⟨1, i, none⟩ = some (.int .u8 (tz64.getD i 0))) :
    Calls Tryd.prog 6 #[.int .u64 h] w fun e w' => e = .returned (.int .i64 v) ∧ w = w' := by
  have HE := Lib.hid he
  have HT := Lib.hid ht
  clear he ht
  go_enter Tryd.func6, Tryd.ntmps6
  go_wp2_with fail
  refine (bits_TrailingZeros64 h v c _ HE.out hc hv hh HT.out).mono ?_
  rintro e w1 ⟨rfl, rfl⟩
  go_wp2
  go_ret
  exact ⟨rfl, rfl⟩

set_option maxHeartbeats 400000 in
theorem skipLinks_bad (h : Int) (w : World) (hb : h < 1 ∨ 1048576 < h) :
    Calls Tryd.prog 3 #[.int .i64 h] w fun e w' => e = .returned (.bool true) ∧ Below w.heap.size w w' := by
  by_cases h1 : h < 1
  · go_enter Tryd.func3, Tryd.ntmps3
    go_wp2_with fail
    refine (skip_works _).mono ?_
    rintro e w1 ⟨rfl, hb1⟩
    go_wp2_with fail
    refine (skip_Links_bad h _ hb).mono ?_
    rintro e w1 ⟨rfl, rfl⟩
    go_wp2
    go_ret
    exact ⟨rfl, hb1⟩
  · have h2 : 1048576 < h := by omega
    go_enter Tryd.func3, Tryd.ntmps3
    go_wp2_with fail
    refine (skip_works _).mono ?_
    rintro e w1 ⟨rfl, hb1⟩
    go_wp2_with fail
    refine (skip_Links_bad h _ hb).mono ?_
    rintro e w1 ⟨rfl, rfl⟩
    go_wp2
    go_ret
    exact ⟨rfl, hb1⟩

set_option maxHeartbeats 400000 in
theorem skipLinks_good (h : Nat) (w : World) (hl : 1 ≤ h) (hh : h ≤ 1048576) (hw : 1 < w.heap.size) (ht : ∀ i, i < 64 → w.cell? ⟨1, i, none⟩ = some (.int .u8 (tz64.getD i 0))) :
    Calls Tryd.prog 3 #[.int .i64 h] w fun e w' => e = .returned (.bool true) ∧ Below w.heap.size w w' := by
  obtain ⟨v, c, he, hc, hv⟩ := Skip.val_exists 21 h hl (by rw [show (2 : Nat) ^ 21 = 2097152 from by decide]; omega)
  have hlen := Skip.links_length h v c he hc hv
  have HE := Lib.hid (And.intro he hc)
  have HT := Lib.hid ht
  have HL := Lib.hid hlen
  clear he hc ht
  go_enter Tryd.func3, Tryd.ntmps3
  go_wp2_with fail
  refine (skip_works _).mono ?_
  rintro e w1 ⟨rfl, hb1⟩
  go_wp2_with fail
  refine (skip_Links h _ hl hh).mono ?_
  rintro e w2 ⟨x, rfl, hown, hb2⟩
  obtain ⟨A, cp, rfl, hr, -, -⟩ := own_form hown
  have hbb := hb1.nxt hb2
  rw [hlen] at hr hown ⊢
  clear hlen
  go_wp2_with fail
  refine wp_loop_ghost_k (fun k a wr => ∀ Φ : Act → Prop, (∀ (s1 s2 s5 s6 s7 s8 s9 s10 s11 s12 s13 s14 s15 s16 s17 s18 s19 s23 s24 s25 s26 s27 s28 s29 s30 s31 s32 s33 s34 s35 s36 s37 s38 s39 s40 s41 s42 s43 : Value) (i p : Nat), (i + k = v ∧ p = 2 ^ (i + 1) ∧ wr = w2) → Φ { tmps := #[.int .i64 h, s1, s2, .slice A v cp, .int .i64 p, s5, s6, s7, s8, s9, s10, s11, s12, s13, s14, s15, s16, s17, s18, s19, .slice A v cp, .int .i64 v, .int .i64 i, s23, s24, s25, s26, s27, s28, s29, s30, s31, s32, s33, s34, s35, s36, s37, s38, s39, s40, s41, s42, s43], defers := [] }) → Φ a) (v) ?_ ?_
  · refine fun Φ hΦ => hΦ _ _ _ _ _ _ _ _ _ _ _ _ _ _ _ _ _ _ _ _ _ _ _ _ _ _ _ _ _ _ _ _ _ _ _ _ _ _ (0) (2) ?_
    exact ⟨by omega, rfl, rfl⟩
  · intro k1 a1 wr1 hI1 J1 K1 hJ1 hK1
    refine hI1 (fun a => Code.wp _ _ _ a _) ?_
    clear hI1 a1
    intro s0 s1 s2 s3 s4 s5 s6 s7 s8 s9 s10 s11 s12 s13 s14 s15 s16 s17 s18 s19 s20 s21 s22 s23 s24 s25 s26 s27 s28 s29 s30 s31 s32 s33 s34 s35 s36 s37 i p hrel
    show Code.wp _ _ _ _ _
    obtain ⟨h1, h2, rfl⟩ := hrel
    by_cases hi : i < v
    · have hll := HL.out
      obtain ⟨g1, g2⟩ := Skip.links_get h i (by omega)
      obtain ⟨b1, o1, rfl, hl1, hc1⟩ := hr.form (by omega) (by omega)
      have q1 := hc1 i (by rw [ints_length]; omega)
      simp only [ints, List.getElem_map] at q1
      rw [g2, ← h2] at q1
      rw [← h2] at g1
      have hle : p ≤ h := Nat.le_of_dvd (by omega) g1
      have hp2 : p * 2 = 2 ^ (i + 1 + 1) := by rw [h2]; rfl
      have hq : (((h : Int) - ((h - p : Nat) : Int)) != (p : Int)) = false := by simp; omega
      have H2 := Lib.hid hp2
      clear hll g1 g2 hc1 h2 hp2
      go_wp2
      refine Handed.intro (v - (i + 1)) ?_ (hJ1 _ _ _ (fun Φ hΦ => hΦ _ _ _ _ _ _ _ _ _ _ _ _ _ _ _ _ _ _ _ _ _ _ _ _ _ _ _ _ _ _ _ _ _ _ _ _ _ _ (i + 1) (p * 2) ?_))
      · omega
      · exact ⟨by omega, H2.out, rfl⟩
    · have ht2 : ∀ i, i < 64 → wr1.cell? ⟨1, i, none⟩ = some (.int .u8 (tz64.getD i 0)) := fun i hi => (hbb.cell (p := ⟨1, i, none⟩) hw).trans (HT.out i hi)
      have H2 := Lib.hid ht2
      have hq : IntKind.u64.wrap (h : Int) = (h : Int) := IntWalk.u64_in _ (by omega)
      clear h2 ht2
      go_wp2_with fail
      refine (bits_TrailingZeros h v c _ HE.out.1 HE.out.2 hv hh H2.out).mono ?_
      rintro e w3 ⟨rfl, rfl⟩
      go_wp2
      go_ret
      exact ⟨rfl, hbb⟩
end Go.Proofs.YtfdnoeoilanohaaDoor
