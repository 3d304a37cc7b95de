/- The walks of layer 18 (skip). -/
import Derived.Test.YtfdnoeoilanohaaDoorSkipPlain
import Derived.Test.YtfdnoeoilanohaaDoorBase
namespace Go.Proofs.YtfdnoeoilanohaaDoor
set_option linter.unusedVariables false
open Go.RowKit
set_option maxHeartbeats 400000 in
theorem skip_next (h low : Nat) (w : World) (hl : low < h) (hh : h ≤ 1048576) :
    Calls Tryd.prog 11 #[.int .i64 h, .int .i64 low] w fun e w' => e = .returned (.int .i64 (Skip.next h low)) ∧ w = w' := by
  go_enter Tryd.func11, Tryd.ntmps11
  go_wp2
  go_loop [5, 6] (fun a s => ∃ f st at_ : Nat, f ≤ 22 ∧ a = .int .i64 at_ ∧ s = .int .i64 st ∧ 2 ≤ st ∧ st ≤ 2097152 ∧ 4194304 ≤ st * 2 ^ (f - 1) ∧ 1 ≤ f ∧ Skip.nxt f h low st at_ = Skip.next h low) (fun _ s => (4194304 - (intOf s).toNat))
  case atStart => exact ⟨22, 2, h - 1, by omega, by rw [show ((h : Int) - 1) = ((h - 1 : Nat) : Int) from by omega], rfl, by omega, by omega, by decide, by omega, rfl⟩
  case round =>
    obtain ⟨f, st, at_, hf, rfl, rfl, h2, h3, h4, h5, hn⟩ := hrel
    have Hn := Lib.hid hn
    clear hn
    obtain ⟨g, rfl⟩ : ∃ g, f = g + 1 := ⟨f - 1, by omega⟩
    by_cases hc : h % st = 0
    · by_cases hd : st ≤ h - low
      · have H1 : Hid (Skip.nxt g h low (st * 2) (h - st) = Skip.next h low) := Lib.hid (by rw [← Hn.out]; exact (Skip.nxt_yes hc hd).symm)
        have hg : 1 ≤ g := by
          rcases Nat.eq_zero_or_pos g with h0 | h0
          · subst h0; simp at h4; omega
          · exact h0
        have h6 : 4194304 ≤ (st * 2) * 2 ^ (g - 1) := by
          obtain ⟨k, rfl⟩ : ∃ k, g = k + 1 := ⟨g - 1, by omega⟩
          simp only [Nat.add_sub_cancel] at h4 ⊢
          rw [Nat.pow_succ] at h4
          rw [Nat.mul_assoc, Nat.mul_comm 2]; exact h4
        have hb : ((h : Int) % (st : Int) == 0) = true := by rw [beq_iff_eq]; omega
        clear h4 Hn
        go_wp2
        go_round
        case rel => exact ⟨g, st * 2, h - st, by omega, by rw [show ((h : Int) - st) = ((h - st : Nat) : Int) from by omega], by go_num, by omega, by omega, h6, hg, H1.out⟩
        case measure => simp [intOf]; omega
      · have H1 : Hid (at_ = Skip.next h low) := Lib.hid (by rw [← Hn.out]; exact (Skip.nxt_no (fun ⟨_, x⟩ => hd x)).symm)
        have hb : ((h : Int) % (st : Int) == 0) = true := by rw [beq_iff_eq]; omega
        clear h4 Hn
        go_wp2
        go_ret
        exact ⟨ret_int (by rw [H1.out]), rfl⟩
    · have H1 : Hid (at_ = Skip.next h low) := Lib.hid (by rw [← Hn.out]; exact (Skip.nxt_no (fun ⟨x, _⟩ => hc x)).symm)
      have hb : ((h : Int) % (st : Int) == 0) = false := by rw [beq_eq_false_iff_ne]; omega
      clear h4 Hn
      go_wp2
      go_ret
      exact ⟨ret_int (by rw [H1.out]), rfl⟩

set_option maxHeartbeats 400000 in
theorem skip_Route (h low : Nat) (w : World) (hl : low ≤ h) (hh : h ≤ 1048576) :
    Calls Tryd.prog 7 #[.int .i64 h, .int .i64 low] w fun e w' => ∃ v, e = .returned (.tuple #[v, .int .i64 0]) ∧ w'.ownsRow w.heap.size 3 1 v (Skip.route h low).length (ints (Skip.route h low)) ∧ Below w.heap.size w w' := by
  obtain ⟨i0, hi0, hz0, hz1, hz2⟩ := info_parts info_int
  go_enter Tryd.func7, Tryd.ntmps7
  go_wp2
  refine wp_loop_ghost_k (fun k a wr => ∀ Φ : Act → Prop, (∀ (s2 s3 s4 s5 s8 s9 s10 s11 s12 s13 s14 s15 s16 s17 s18 s19 s20 s21 s22 s23 s24 s25 s26 s27 s28 s29 s30 : Value) (h' : Nat) (acc : List Nat) (o : Value), (low ≤ h' ∧ h' ≤ k ∧ k ≤ h ∧ acc.length ≤ h - k ∧ wr.ownsRow w.heap.size 3 1 o acc.length (ints acc) ∧ Below w.heap.size w wr ∧ acc ++ Skip.routeF k h' low = Skip.route h low) → Φ { tmps := #[.int .i64 h, .int .i64 low, s2, s3, s4, s5, o, .int .i64 h', s8, s9, s10, s11, s12, s13, s14, s15, s16, s17, s18, s19, s20, s21, s22, s23, s24, s25, s26, s27, s28, s29, s30], defers := [] }) → Φ a) (h) ?_ ?_
  · refine fun Φ hΦ => hΦ _ _ _ _ _ _ _ _ _ _ _ _ _ _ _ _ _ _ _ _ _ _ _ _ _ _ _ (h) ([]) (_) ?_
    exact ⟨hl, Nat.le_refl _, Nat.le_refl _, by simp, World.ownsRow_nil _ _ _ _, Below.refl _ _, rfl⟩
  · intro k1 a1 wr1 hI1 J1 K1 hJ1 hK1
    refine hI1 (fun a => Code.wp _ _ _ a _) ?_
    clear hI1 a1
    intro s0 s1 s2 s3 s4 s5 s6 s7 s8 s9 s10 s11 s12 s13 s14 s15 s16 s17 s18 s19 s20 s21 s22 s23 s24 s25 s26 h' acc o hrel
    show Code.wp _ _ _ _ _
    obtain ⟨h1, h2, h3, h4, hown, hb, hacc⟩ := hrel
    have HA := Lib.hid hacc
    clear hacc
    have hsz := hb.size
    by_cases hlt : low < h'
    · obtain ⟨f, rfl⟩ : ∃ f, k1 = f + 1 := ⟨k1 - 1, by omega⟩
      have hnx := Skip.next_lt h' low hlt
      have HB : Hid (acc ++ [Skip.next h' low] ++ Skip.routeF f (Skip.next h' low) low = Skip.route h low) := Lib.hid (by
        rw [← HA.out, Skip.routeF_yes hlt]; simp)
      clear HA
      go_wp2_with fail
      refine (skip_next h' low _ hlt (by omega)).mono ?_
      rintro e w1 ⟨rfl, rfl⟩
      go_wp2_with (at_builtin; refine wpList_append_new wr1 3 [.int .i64 (Skip.next h' low : Nat)] rfl _ _ 23 rfl w.heap.size 1 8 _ info_int Tryd.underlying23 rfl (by decide) _ _ _ rfl hown 1 1 rfl rfl (by simp [Value.oneCell']) (by simp only [maxLen]; omega) (by omega) w.heap.size w hb (Nat.le_refl _) hsz ?_; intro v1 w1 hown1 hb1 _ _ _)
      refine Handed.intro (f) ?_ (hJ1 _ _ _ (fun Φ hΦ => hΦ _ _ _ _ _ _ _ _ _ _ _ _ _ _ _ _ _ _ _ _ _ _ _ _ _ _ _ (Skip.next h' low) (acc ++ [Skip.next h' low]) (_) ?_))
      · omega
      · exact ⟨hnx.1, by omega, by omega, by simp; omega, by simpa [ints_snoc] using hown1, hb1, HB.out⟩
    · have HB : Hid (acc = Skip.route h low) := Lib.hid (by rw [← HA.out, Skip.routeF_no hlt]; simp)
      clear HA
      go_wp2
      go_ret2
      rw [← HB.out]
      exact ⟨_, rfl, hown, hb⟩

set_option maxHeartbeats 400000 in
set_option maxRecDepth 100000 in
theorem skip_Links (h : Nat) (w : World) (hl : 1 ≤ h) (hh : h ≤ 1048576) :
    Calls Tryd.prog 5 #[.int .i64 h] w fun e w' => ∃ v, e = .returned v ∧ w'.ownsRow w.heap.size 3 1 v (Skip.links h).length (ints (Skip.links h)) ∧ Below w.heap.size w w' := by
  go_enter Tryd.func5, Tryd.ntmps5
  go_wp2
  refine wp_scope_ghost 0 (fun k a wr => ∀ Φ : Act → Prop, (∀ (s1 s5 s6 s7 s8 s9 s10 s11 s12 s13 s14 s15 s16 s17 s18 s19 s20 s21 s22 s23 : Value) (st : Nat) (acc : List Nat) (o : Value), (2 ≤ st ∧ st ≤ 2097152 ∧ 4194304 ≤ st * 2 ^ (k - 1) ∧ 1 ≤ k ∧ acc.length + k ≤ 22 ∧ wr.ownsRow w.heap.size 3 1 o acc.length (ints acc) ∧ Below w.heap.size w wr ∧ acc ++ Skip.linksF k h st = Skip.links h) → Φ { tmps := #[.int .i64 h, s1, .slice none 0 0, o, .int .i64 st, s5, s6, s7, s8, s9, s10, s11, s12, s13, s14, s15, s16, s17, s18, s19, s20, s21, s22, s23], defers := [] }) → Φ a) rfl ?_ ?_
  · intro K1 hK1
    go_wp2_with fail
    go_step3
    by_cases hc : h % 2 = 0
    · have hb : ((h : Int) % 2 == 0) = true := by rw [beq_iff_eq]; omega
      have H1 : Hid ([h - 2] ++ Skip.linksF 21 h 4 = Skip.links h) := Lib.hid (by unfold Skip.links; rw [Skip.linksF_yes hc]; rfl)
      have e2 : ((h : Int) - 2) = ((h - 2 : Nat) : Int) := by omega
      have E2 := Lib.hid e2
      clear e2
      have hnil := World.ownsRow_nil w w.heap.size 3 1
      go_wp2_with (at_builtin; refine wpList_append_new w 3 [.int .i64 ((h : Int) - 2)] rfl _ _ 23 rfl w.heap.size 1 8 _ info_int Tryd.underlying23 rfl (by decide) _ _ _ rfl hnil 1 1 rfl rfl (by simp [Value.oneCell']) (by simp only [maxLen]; omega) (by omega) w.heap.size w (Below.refl _ _) (Nat.le_refl _) (Nat.le_refl _) ?_; intro v1 w1 hown1 hb1 _ _ _)
      go_step3
      refine ⟨rfl, hK1 (21) _ _ (fun Φ hΦ => hΦ _ _ _ _ _ _ _ _ _ _ _ _ _ _ _ _ _ _ _ _ (4) ([h - 2]) (v1) ?_)⟩
      exact ⟨by omega, by omega, by decide, by omega, by simp, by rw [E2.out] at hown1; simpa [ints] using hown1, hb1, H1.out⟩
    · have hb : ((h : Int) % 2 == 0) = false := by rw [beq_eq_false_iff_ne]; omega
      have H1 : Hid ([] = Skip.links h) := Lib.hid (by unfold Skip.links; rw [Skip.linksF_no hc])
      go_wp2
      simp only [Exit.jump]
      go_ret
      rw [← H1.out]
      exact ⟨_, rfl, World.ownsRow_nil _ _ _ _, Below.refl _ _⟩
  · intro k1 a1 wr1 hI1 K1 hK1
    refine hI1 (fun a => Code.wp _ _ _ a _) ?_
    clear hI1 a1
    intro s0 s1 s2 s3 s4 s5 s6 s7 s8 s9 s10 s11 s12 s13 s14 s15 s16 s17 s18 s19 st acc o hrel
    show Code.wp _ _ _ _ _
    obtain ⟨h1, h2, h3, h4, h5, hown, hb, hacc⟩ := hrel
    have HA := Lib.hid hacc
    clear hacc
    have hsz := hb.size
    obtain ⟨f, rfl⟩ : ∃ f, k1 = f + 1 := ⟨k1 - 1, by omega⟩
    by_cases hc : h % st = 0
    · have hb : ((h : Int) % (st : Int) == 0) = true := by rw [beq_iff_eq]; omega
      have hle : st ≤ h := Nat.le_of_dvd (by omega) (Nat.dvd_of_mod_eq_zero hc)
      have hg : 1 ≤ f := by
        rcases Nat.eq_zero_or_pos f with h0 | h0
        · subst h0; simp at h3; omega
        · exact h0
      have h6 : 4194304 ≤ (st * 2) * 2 ^ (f - 1) := by
        obtain ⟨k, rfl⟩ : ∃ k, f = k + 1 := ⟨f - 1, by omega⟩
        simp only [Nat.add_sub_cancel] at h3 ⊢
        rw [Nat.pow_succ] at h3
        rw [Nat.mul_assoc, Nat.mul_comm 2]; exact h3
      have H1 : Hid (acc ++ [h - st] ++ Skip.linksF f h (st * 2) = Skip.links h) := Lib.hid (by rw [← HA.out, Skip.linksF_yes hc]; simp)
      have e2 : ((h : Int) - st) = ((h - st : Nat) : Int) := by omega
      have E2 := Lib.hid e2
      clear e2 h3 HA
      go_wp2_with (at_builtin; refine wpList_append_new wr1 3 [.int .i64 ((h : Int) - st)] rfl _ _ 23 rfl w.heap.size 1 8 _ info_int Tryd.underlying23 rfl (by decide) _ _ _ rfl hown 1 1 rfl rfl (by simp [Value.oneCell']) (by simp only [maxLen]; omega) (by omega) w.heap.size w ‹_› (Nat.le_refl _) hsz ?_; intro v1 w1 hown1 hb1 _ _ _)
      go_step3
      refine ⟨rfl, hK1 (f) _ _ ?_ (fun Φ hΦ => hΦ _ _ _ _ _ _ _ _ _ _ _ _ _ _ _ _ _ _ _ _ (st * 2) (acc ++ [h - st]) (v1) ?_)⟩
      · omega
      · exact ⟨by omega, by omega, h6, by omega, by simp; omega, by rw [E2.out] at hown1; simpa [ints_snoc] using hown1, hb1, H1.out⟩
    · have hb : ((h : Int) % (st : Int) == 0) = false := by rw [beq_eq_false_iff_ne]; omega
      have H1 : Hid (acc = Skip.links h) := Lib.hid (by rw [← HA.out, Skip.linksF_no hc]; simp)
      clear h3 HA
      go_wp2
      simp only [Exit.jump]
      go_ret
      rw [← H1.out]
      exact ⟨_, rfl, hown, ‹_›⟩

set_option maxHeartbeats 400000 in
theorem skip_Route_bad (h low : Int) (w : World) (hbad : low < 0 ∨ h < low ∨ 1048576 < h) :
    Calls Tryd.prog 7 #[.int .i64 h, .int .i64 low] w fun e w' => e = .returned (.tuple #[.slice none 0 0, .int .i64 1]) ∧ w = w' := by
  by_cases h1 : low < 0
  · go_enter Tryd.func7, Tryd.ntmps7
    go_wp2
    go_ret2
    exact ⟨rfl, rfl⟩
  · by_cases h2 : h < low
    · go_enter Tryd.func7, Tryd.ntmps7
      go_wp2
      go_ret2
      exact ⟨rfl, rfl⟩
    · have h3 : 1048576 < h := by omega
      go_enter Tryd.func7, Tryd.ntmps7
      go_wp2
      go_ret2
      exact ⟨rfl, rfl⟩
end Go.Proofs.YtfdnoeoilanohaaDoor
