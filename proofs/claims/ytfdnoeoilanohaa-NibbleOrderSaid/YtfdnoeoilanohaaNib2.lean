/- The walks of layer 1 (nibble), second part: Pack and Unpack. -/
import Derived.Test.YtfdnoeoilanohaaNib
namespace Go.Proofs.Ytfdnoeoilanohaa
open Go.RowKit
attribute [local go_sem] ba_get ByteArray.mk_append_mk ByteArray.extract_mk

set_option maxHeartbeats 400000 in
theorem nib_Pack_bad (s : List UInt8) (leaf : Bool) (w : World) (hs : s.length ≤ 1048576) (hf : Nib.fit s = false) :
    Calls Try.prog 29 #[.string ⟨s.toArray⟩, .bool leaf] w fun e w' => e = .returned (.tuple #[.string ⟨#[]⟩, .int .i64 3]) ∧ Below w.heap.size w w' := by
  have HF := Lib.hid hf
  clear hf
  go_enter Try.func29, Try.ntmps29
  go_wp2_with fail
  refine (nib_Fit s _ hs).mono ?_
  rintro e w1 ⟨rfl, rfl⟩
  rw [HF.out]
  go_wp2
  go_ret2
  exact ⟨rfl, Below.refl _ _⟩

set_option maxHeartbeats 400000 in
theorem nib_Pack_even (s : List UInt8) (leaf : Bool) (w : World) (hs : s.length ≤ 1048576) (hf : Nib.fit s = true) (hp : s.length % 2 = 0) :
    Calls Try.prog 29 #[.string ⟨s.toArray⟩, .bool leaf] w fun e w' => e = .returned (.tuple #[.string ⟨((if leaf then 32 else 0) :: Nib.joined s).toArray⟩, .int .i64 0]) ∧ Below w.heap.size w w' := by
  have HF := Lib.hid hf
  clear hf
  have hq : (((s.length : Nat) : Int) % 2 == 1) = false := by rw [beq_eq_false_iff_ne]; omega
  have hjl := Nib.joined_length s
  have HJ : (Nib.joined s).length ≤ 1048576 := by omega
  clear hjl
  cases leaf
  · go_enter Try.func29, Try.ntmps29
    go_wp2_with fail
    refine (nib_Fit s _ hs).mono ?_
    rintro e w1 ⟨rfl, rfl⟩
    rw [HF.out]
    have hc1 := fun W => conv1 W 0 (by omega) (by omega)
    have hc2 := fun W => conv1d W 0 (by omega) (by omega)
    have hc3 := fun w1 => conv1_below w w1 0 (by omega) (by omega)
    go_wp2_with fail
    go_region_with (go_at_call 30; refine (nib_joined s _ hs HF.out).mono ?_; rintro e w1 ⟨rfl, hb⟩; try simp only [World.size_drew, World.size_alloc] at hb; have hbw : Below w.heap.size w w1 := (by first | exact hb | exact hb.start | exact ((Below.refl _ _).alloc (Nat.le_refl _) _).drew.trans (hb.mono (by simp))); have hsz1 := hbw.size)
    all_goals go_wp2
    all_goals go_ret2
    all_goals exact ⟨rfl, by go_grown⟩
  · go_enter Try.func29, Try.ntmps29
    go_wp2_with fail
    refine (nib_Fit s _ hs).mono ?_
    rintro e w1 ⟨rfl, rfl⟩
    rw [HF.out]
    have hc1 := fun W => conv1 W 32 (by omega) (by omega)
    have hc2 := fun W => conv1d W 32 (by omega) (by omega)
    have hc3 := fun w1 => conv1_below w w1 32 (by omega) (by omega)
    go_wp2_with fail
    go_region_with (go_at_call 30; refine (nib_joined s _ hs HF.out).mono ?_; rintro e w1 ⟨rfl, hb⟩; try simp only [World.size_drew, World.size_alloc] at hb; have hbw : Below w.heap.size w w1 := (by first | exact hb | exact hb.start | exact ((Below.refl _ _).alloc (Nat.le_refl _) _).drew.trans (hb.mono (by simp))); have hsz1 := hbw.size)
    all_goals go_wp2
    all_goals go_ret2
    all_goals exact ⟨rfl, by go_grown⟩

set_option maxHeartbeats 400000 in
theorem nib_Pack_odd (a : UInt8) (s : List UInt8) (leaf : Bool) (w : World) (hs : s.length ≤ 1048575) (hf : Nib.fit (a :: s) = true) (hp : (a :: s).length % 2 = 1) :
    Calls Try.prog 29 #[.string ⟨(a :: s).toArray⟩, .bool leaf] w fun e w' => e = .returned (.tuple #[.string ⟨((if leaf then 48 + a else 16 + a) :: Nib.joined s).toArray⟩, .int .i64 0]) ∧ Below w.heap.size w w' := by
  have ha : a ≤ 15 := by unfold Nib.fit at hf; simp at hf; exact hf.1
  have hf2 : Nib.fit s = true := by unfold Nib.fit at hf ⊢; simp at hf ⊢; exact hf.2
  have HF := Lib.hid hf
  have HF2 := Lib.hid hf2
  clear hf hf2
  have hp' : (s.length + 1) % 2 = 1 := by simpa using hp
  have hq : ((((s.length : Nat) : Int) + 1) % 2 == 1) = true := by rw [beq_iff_eq]; omega
  have hjl := Nib.joined_length s
  have HJ : (Nib.joined s).length ≤ 1048576 := by omega
  obtain ⟨o1, o2, o3⟩ := u8_or16 a ha
  have ha' : a.toNat ≤ 15 := by rw [UInt8.le_iff_toNat_le] at ha; simpa using ha
  have HS : (a :: s).length ≤ 1048576 := by simp; omega
  have e16 : UInt8.ofNat (16 + a.toNat) = 16 + a := by simp
  have e48 : UInt8.ofNat (48 + a.toNat) = 48 + a := by simp
  have E := Lib.hid (And.intro e16 e48)
  clear hjl hp hp' ha e16 e48
  generalize hb16 : (16 + a.toNat : Nat) = b16 at o1 o2 o3
  generalize hb48 : (48 + a.toNat : Nat) = b48 at o3
  have h16 : b16 < 256 := by omega
  have h48 : b48 < 256 := by omega
  have B := Lib.hid (And.intro hb16 hb48)
  clear hb16 hb48
  cases leaf
  · go_enter Try.func29, Try.ntmps29
    go_wp2_with fail
    refine (nib_Fit (a :: s) _ HS).mono ?_
    rintro e w1 ⟨rfl, rfl⟩
    rw [HF.out]
    have hc1 := fun W => conv1 W (b16 : Int) (by omega) (by omega)
    have hc2 := fun W => conv1d W (b16 : Int) (by omega) (by omega)
    have hc3 := fun w1 => conv1_below w w1 (b16 : Int) (by omega) (by omega)
    go_wp2_with fail
    go_region_with (go_at_call 30; refine (nib_joined s _ (by omega) HF2.out).mono ?_; rintro e w1 ⟨rfl, hb⟩; try simp only [World.size_drew, World.size_alloc] at hb; have hbw : Below w.heap.size w w1 := (by first | exact hb | exact hb.start | exact ((Below.refl _ _).alloc (Nat.le_refl _) _).drew.trans (hb.mono (by simp))); have hsz1 := hbw.size)
    all_goals go_wp2
    all_goals go_ret2
    all_goals have e1 : UInt8.ofNat b16 = 16 + a := by rw [← B.out.1]; exact E.out.1
    all_goals exact ⟨by rw [e1]; rfl, by go_grown⟩
  · go_enter Try.func29, Try.ntmps29
    go_wp2_with fail
    refine (nib_Fit (a :: s) _ HS).mono ?_
    rintro e w1 ⟨rfl, rfl⟩
    rw [HF.out]
    have hc1 := fun W => conv1 W (b48 : Int) (by omega) (by omega)
    have hc2 := fun W => conv1d W (b48 : Int) (by omega) (by omega)
    have hc3 := fun w1 => conv1_below w w1 (b48 : Int) (by omega) (by omega)
    go_wp2_with fail
    go_region_with (go_at_call 30; refine (nib_joined s _ (by omega) HF2.out).mono ?_; rintro e w1 ⟨rfl, hb⟩; try simp only [World.size_drew, World.size_alloc] at hb; have hbw : Below w.heap.size w w1 := (by first | exact hb | exact hb.start | exact ((Below.refl _ _).alloc (Nat.le_refl _) _).drew.trans (hb.mono (by simp))); have hsz1 := hbw.size)
    all_goals go_wp2
    all_goals go_ret2
    all_goals have e1 : UInt8.ofNat b48 = 48 + a := by rw [← B.out.2]; exact E.out.2
    all_goals exact ⟨by rw [e1]; rfl, by go_grown⟩

theorem nib_Pack (s : List UInt8) (leaf : Bool) (w : World) (hs : s.length ≤ 1048575) :
    Calls Try.prog 29 #[.string ⟨s.toArray⟩, .bool leaf] w fun e w' => e = .returned (.tuple #[.string ⟨(Nib.pack s leaf).1.toArray⟩, .int .i64 (Nib.pack s leaf).2]) ∧ Below w.heap.size w w' := by
  by_cases hf : Nib.fit s = true
  · by_cases hp : s.length % 2 = 1
    · obtain ⟨a, r, rfl⟩ : ∃ a r, s = a :: r := by
        cases s with
        | nil => simp at hp
        | cons a r => exact ⟨a, r, rfl⟩
      have e : Nib.pack (a :: r) leaf = ((if leaf then 48 + a else 16 + a) :: Nib.joined r, 0) := by
        unfold Nib.pack; rw [if_pos hf, Nib.packed_odd hp]
      rw [e]
      exact nib_Pack_odd a r leaf w (by simp at hs; omega) hf hp
    · have e : Nib.pack s leaf = ((if leaf then 32 else 0) :: Nib.joined s, 0) := by
        unfold Nib.pack; rw [if_pos hf, Nib.packed_even (by omega)]
      rw [e]
      exact nib_Pack_even s leaf w (by omega) hf (by omega)
  · have e : Nib.pack s leaf = ([], 3) := by unfold Nib.pack; rw [if_neg hf]
    rw [e]
    exact nib_Pack_bad s leaf w (by omega) (by simpa using hf)
end Go.Proofs.Ytfdnoeoilanohaa
