/- The walk of SkipShort: for every two heights and every place the law returns true. No condition. -/
import Derived.Test.YtfdnoeoilanohabSkip2
import Derived.Test.YtfdnoeoilanohabSkipLaw
import Derived.Test.YtfdnoeoilanohabShelf
namespace Go.Proofs.Ytfdnoeoilanohab
set_option linter.unusedVariables false
open Go.RowKit

theorem bitLen_bound (n : Nat) : ∀ x, x < 2 ^ n → n ≤ 63 → x < 2 ^ Lib.bitLen x := by
  induction n with
  | zero => intro x hx _; simp at hx; subst hx; decide
  | succ n ih =>
    intro x hx hn
    by_cases h0 : x = 0
    · subst h0; decide
    · have hlt : x < 2 ^ 64 := Nat.lt_of_lt_of_le hx (Nat.pow_le_pow_right (by omega) (by omega))
      rw [Lib.bitLen_half x h0 hlt]
      have := ih (x / 2) (by rw [Nat.pow_succ] at hx; omega) (by omega)
      rw [Nat.add_comm, Nat.pow_succ]
      omega

set_option maxHeartbeats 400000 in
theorem skipShort_bad (h low a : Int) (w : World) (hc : ¬ (0 ≤ low ∧ low ≤ h ∧ h ≤ 1048576)) :
    Calls Try.prog 3 #[.int .i64 h, .int .i64 low, .int .i64 a] w fun e w' => e = .returned (.bool true) ∧ Below w.heap.size w w' := by
  have HC := Lib.hid hc
  clear hc
  go_enter Try.func3, Try.ntmps3
  go_wp2_with fail
  refine (skip_works _).mono ?_
  rintro e w1 ⟨rfl, hb1⟩
  go_wp2_with fail
  refine (skip_Route_bad h low _ (by have := HC.out; omega)).mono ?_
  rintro e w2 ⟨rfl, rfl⟩
  go_wp2
  go_ret
  exact ⟨rfl, hb1⟩

set_option maxHeartbeats 800000 in
theorem skipShort_good (h low : Nat) (a : Int) (w : World) (hl : low ≤ h) (hh : h ≤ 1048576) (h0 : -9223372036854775808 ≤ a) (h1 : a ≤ 9223372036854775807) :
    Calls Try.prog 3 #[.int .i64 h, .int .i64 low, .int .i64 a] w fun e w' => e = .returned (.bool true) ∧ Below w.heap.size w w' := by
  have HA := Lib.hid (And.intro h0 h1)
  clear h0 h1
  obtain ⟨d, hd⟩ : ∃ d, d = h - low := ⟨_, rfl⟩
  have hb := bitLen_bound 30 d (by rw [show (2 : Nat) ^ 30 = 1073741824 from by decide]; omega) (by omega)
  have hs := Skip.route_short h low (Lib.bitLen d) hl hh (by rw [← hd]; exact hb)
  have h42 := Skip.route_40 h low hl hh
  have hL : Lib.bitLen d ≤ 64 := by
    have : ∀ f x, Lib.bitLenAux f x ≤ f := by
      intro f
      induction f with
      | zero => intro x; simp [Lib.bitLenAux]
      | succ f ih =>
        intro x
        unfold Lib.bitLenAux
        split
        · omega
        · have := ih (x / 2); omega
    exact this 64 d
  have q1 : IntKind.i64.wrap ((h : Int) - low) = (d : Int) := by rw [IntWalk.i64_in _ (by omega)]; omega
  have q2 : ((h : Int) - low) = (d : Int) := by omega
  have q3 : IntKind.u64.wrap (d : Int) = (d : Int) := IntWalk.u64_in _ (by omega)
  have hdb : d ≤ 1048576 := by omega
  have HD := Lib.hid hd
  clear hd hb
  by_cases hz : (Skip.route h low).length = 0
  · have he : h = low := by
      rcases Nat.lt_or_ge low h with g | g
      · rw [Skip.route_cons g] at hz; simp at hz
      · omega
    have hq : (((Skip.route h low).length : Int) == 0) = true := by rw [beq_iff_eq]; omega
    have hq2 : ((h : Int) == (low : Int)) = true := by rw [beq_iff_eq]; omega
    clear he
    go_enter Try.func3, Try.ntmps3
    go_wp2_with fail
    refine (skip_works _).mono ?_
    rintro e w1 ⟨rfl, hb1⟩
    go_wp2_with fail
    refine (skip_Route h low _ hl hh).mono ?_
    rintro e w2 ⟨v, rfl, own2, hb2⟩
    obtain ⟨A2, c2, rfl, -, hc2, -⟩ := own_form own2
    have hbb2 := hb1.nxt hb2
    go_wp2_with fail
    refine (Try.bits_Len (d : Int) _ (by omega) (by omega)).mono ?_
    rintro e w3 ⟨rfl, rfl⟩
    rw [Int.toNat_natCast]
    go_wp2
    go_ret
    exact ⟨rfl, hbb2⟩
  · have hq : (((Skip.route h low).length : Int) == 0) = false := by rw [beq_eq_false_iff_ne]; omega
    go_enter Try.func3, Try.ntmps3
    go_wp2_with fail
    refine (skip_works _).mono ?_
    rintro e w1 ⟨rfl, hb1⟩
    go_wp2_with fail
    refine (skip_Route h low _ hl hh).mono ?_
    rintro e w2 ⟨v, rfl, own2, hb2⟩
    obtain ⟨A2, c2, rfl, -, hc2, -⟩ := own_form own2
    have hbb2 := hb1.nxt hb2
    go_wp2_with fail
    refine (Try.bits_Len (d : Int) _ (by omega) (by omega)).mono ?_
    rintro e w3 ⟨rfl, rfl⟩
    rw [Int.toNat_natCast]
    go_wp2_with fail
    refine (book_Below a _ _ HA.out.1 HA.out.2 (by omega) (by omega)).mono ?_
    rintro e w3 ⟨k, hk, rfl, rfl⟩
    obtain ⟨d1, d2, d3⟩ := Skip.route_drop k h low hl hk
    have hr := Reads.of_own own2
    obtain ⟨b1, o1, rfl, hl1, hc1⟩ := hr.form (by omega) (by omega)
    have g1 := hc1 k (by rw [ints_length]; omega)
    simp only [ints, List.getElem_map] at g1
    have D3 := Lib.hid d3
    generalize hx : (Skip.route h low)[k] = x at *
    have HX := Lib.hid hx
    clear hx hc1 d3
    go_wp2_with fail
    refine (skip_Route x low _ d1 (by omega)).mono ?_
    rintro e w4 ⟨v, rfl, own4, hb4⟩
    obtain ⟨A4, c4, rfl, -, hc4, -⟩ := own_form own4
    have own2 := own_below own2 hb4
    have hbb4 := hbb2.nxt hb4
    have hcut := (Reads.of_own own2).cut (k := k + 1) (cap := c2) hk (by omega)
    have ed : (ints (Skip.route h low)).drop ((k + 1) * 1) = ints (Skip.route x low) := by rw [D3.out, Nat.mul_one]; simp [ints]
    rw [ed] at hcut
    clear ed
    have hrl : (Skip.route x low).length ≤ 1048576 := by rw [D3.out, List.length_drop]; omega
    have hnl : (Skip.route h low).length - (k + 1) ≤ 1048576 := by omega
    have HCON := fun c d => book_SameInts A4 (some ⟨b1, o1, none⟩) (Skip.route x low).length 0 c d (Skip.route x low) (Skip.route x low) w4 (Reads.of_own own4)
    have HCON2 := fun c d => book_SameInts A4 (some ⟨b1, o1 + (k + 1), none⟩) (Skip.route x low).length ((Skip.route h low).length - (k + 1)) c d (Skip.route x low) (Skip.route x low) w4 (Reads.of_own own4)
    have HC1 := Lib.hid HCON
    have HC2 := Lib.hid HCON2
    clear HCON HCON2
    by_cases hcc : c2 = k + 1
    · subst hcc
      rw [if_pos rfl] at hcut
      have e0 : (Skip.route h low).length - (k + 1) = 0 := by omega
      rw [e0] at hcut hnl
      clear e0
      go_wp2_with fail
      refine (HC1.out _ _ hcut hrl hnl).mono ?_
      rintro e w5 ⟨rfl, hb5⟩
      go_wp2
      go_ret
      exact ⟨rfl, hbb4.nxt hb5⟩
    · rw [if_neg hcc] at hcut
      have ea : Option.map (fun y : Addr => y.add ((k + 1) * 1)) (some ⟨b1, o1, none⟩) = some ⟨b1, o1 + (k + 1), none⟩ := by simp [Addr.add]
      rw [ea] at hcut
      clear ea
      go_wp2_with fail
      refine (HC2.out _ _ hcut hrl hnl).mono ?_
      rintro e w5 ⟨rfl, hb5⟩
      go_wp2
      go_ret
      exact ⟨rfl, hbb4.nxt hb5⟩

theorem skipShort_walk (h low a : Int) (_ : (Lit.int .i64 h).wf = true) (_ : (Lit.int .i64 low).wf = true) (ha : (Lit.int .i64 a).wf = true) (w : World) :
    Calls Try.prog 3 #[.int .i64 h, .int .i64 low, .int .i64 a] w fun e w' => e = .returned (.bool true) ∧ Below w.heap.size w w' := by
  have hb := bounds_i64 ha
  by_cases hc : 0 ≤ low ∧ low ≤ h ∧ h ≤ 1048576
  · obtain ⟨n, rfl⟩ := Int.eq_ofNat_of_zero_le (show 0 ≤ h by omega)
    obtain ⟨m, rfl⟩ := Int.eq_ofNat_of_zero_le (show 0 ≤ low by omega)
    exact skipShort_good n m a w (by omega) (by omega) hb.1 hb.2
  · exact skipShort_bad h low a w hc
end Go.Proofs.Ytfdnoeoilanohab
