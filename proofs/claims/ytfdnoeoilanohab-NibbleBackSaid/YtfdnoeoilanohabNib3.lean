/- The walks of layer 1 (nibble), third part: Unpack. -/
import Derived.Test.YtfdnoeoilanohabNib2
namespace Go.Proofs.Ytfdnoeoilanohab
open Go.RowKit
attribute [local go_sem] ba_get ByteArray.mk_append_mk ByteArray.extract_mk


theorem nib_Unpack_nil (w : World) :
    Calls Try.prog 14 #[.string ⟨#[]⟩] w fun e w' => e = .returned (.tuple #[.string ⟨#[]⟩, .bool false, .int .i64 3]) ∧ Below w.heap.size w w' := by
  go_enter Try.func14, Try.ntmps14
  go_wp2
  go_ret3
  exact ⟨rfl, Below.refl _ _⟩

set_option maxHeartbeats 400000 in
theorem nib_Unpack_cons (b : UInt8) (r : List UInt8) (w : World) (hs : r.length ≤ 2000) :
    Calls Try.prog 14 #[.string ⟨(b :: r).toArray⟩] w fun e w' => e = .returned (.tuple #[.string ⟨(Nib.unpack (b :: r)).1.toArray⟩, .bool (Nib.unpack (b :: r)).2.1, .int .i64 (Nib.unpack (b :: r)).2.2]) ∧ Below w.heap.size w w' := by
  have hlt := b.toNat_lt
  have h15 := u8_and15 b
  obtain ⟨a1, a2⟩ := u8_and12 b
  have hq : IntKind.u8.wrap ((b.toNat : Int) / 16) = (b.toNat : Int) / 16 := IntWalk.u8_in _ (by omega)
  have hol := Nib.of_length r
  have HO : (Nib.of r).length ≤ 4000 := by omega
  have hc := fun W => conv1 W ((b.toNat : Int) % 16) (by omega) (by omega)
  clear hol
  obtain ⟨m1, hm1⟩ : ∃ m1, m1 = b.toNat / 16 % 2 := ⟨_, rfl⟩
  obtain ⟨m2, hm2⟩ : ∃ m2, m2 = b.toNat / 16 / 2 % 2 * 2 := ⟨_, rfl⟩
  rw [← hm1] at a1
  rw [← hm2] at a2
  rw [Nib.unpack_cons]
  by_cases h1 : 3 < b.toNat / 16
  · have hk : 3 < (b.toNat : Int) / 16 := by omega
    rw [if_pos (.inl h1)]
    clear h1 hm1 hm2
    go_enter Try.func14, Try.ntmps14
    go_wp2
    go_quiet (fail)
    go_wp2
    go_ret3
    exact ⟨rfl, below_drewN (Below.refl _ _) _⟩
  · have hk : ¬ 3 < (b.toNat : Int) / 16 := by omega
    have ho2 : (((m2 : Nat) : Int) != 0) = decide (2 ≤ b.toNat / 16) := by
      by_cases h : 2 ≤ b.toNat / 16
      · rw [decide_eq_true h, bne_iff_ne]; omega
      · rw [decide_eq_false h]; simp; omega
    by_cases h2 : b.toNat / 16 % 2 = 1
    · rw [if_neg (by omega), if_pos h2]
      have ho1 : (((m1 : Nat) : Int) != 0) = true := by rw [bne_iff_ne]; omega
      have O2 := Lib.hid ho2
      clear h1 h2 hm1 hm2 ho2
      go_enter Try.func14, Try.ntmps14
      go_wp2
      go_quiet (fail)
      go_wp2_with fail
      refine (nib_Of r _ hs).mono ?_
      rintro e w1 ⟨rfl, hb⟩
      go_wp2
      go_ret3
      rw [← O2.out]
      exact ⟨rfl, ((hb.trans ((Below.refl _ _).alloc hb.size _)).start_drewN)⟩
    · have ho1 : (((m1 : Nat) : Int) != 0) = false := by simp; omega
      have O2 := Lib.hid ho2
      by_cases h3 : b.toNat % 16 = 0
      · rw [if_neg (by omega), if_neg h2]
        have hz : (((b.toNat : Int) % 16) != 0) = false := by simp; omega
        clear h1 h2 hm1 hm2 ho2 h3
        go_enter Try.func14, Try.ntmps14
        go_wp2
        go_quiet (fail)
        go_wp2_with fail
        refine (nib_Of r _ hs).mono ?_
        rintro e w1 ⟨rfl, hb⟩
        go_wp2
        go_ret3
        rw [← O2.out]
        exact ⟨rfl, hb.start_drewN⟩
      · rw [if_pos (.inr ⟨by omega, h3⟩)]
        have hz : (((b.toNat : Int) % 16) != 0) = true := by rw [bne_iff_ne]; omega
        clear h1 h2 hm1 hm2 ho2 h3
        go_enter Try.func14, Try.ntmps14
        go_wp2
        go_quiet (fail)
        go_wp2
        go_ret3
        exact ⟨rfl, below_drewN (Below.refl _ _) _⟩

theorem nib_Unpack (s : List UInt8) (w : World) (hs : s.length ≤ 2001) :
    Calls Try.prog 14 #[.string ⟨s.toArray⟩] w fun e w' => e = .returned (.tuple #[.string ⟨(Nib.unpack s).1.toArray⟩, .bool (Nib.unpack s).2.1, .int .i64 (Nib.unpack s).2.2]) ∧ Below w.heap.size w w' := by
  cases s with
  | nil => exact nib_Unpack_nil w
  | cons b r => exact nib_Unpack_cons b r w (by simp at hs; omega)
end Go.Proofs.Ytfdnoeoilanohab
