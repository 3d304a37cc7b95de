/- The walk of NibblePacks: for every path, mark and bytes the law returns true. No condition. -/
import Derived.Test.YtfdnoeoilanohabNibLaw
import Derived.Test.YtfdnoeoilanohabNib3
namespace Go.Proofs.Ytfdnoeoilanohab
open Go.RowKit
attribute [local go_sem] ba_get ByteArray.mk_append_mk ByteArray.extract_mk

theorem packs_key_even (l : List UInt8) (leaf : Bool) (hf : Nib.fit l = true) (hp : l.length % 2 = 0) :
    Nib.key ((if leaf then 2 else 0) :: 0 :: l) = (Nib.packed l leaf, 0) := by
  unfold Nib.key
  have h1 : Nib.fit ((if leaf then 2 else 0) :: 0 :: l) = true := by unfold Nib.fit at hf ⊢; cases leaf <;> simpa using hf
  rw [if_pos h1, if_neg (by simp; omega), Nib.packed_even hp, Nib.joined_cons]
  cases leaf <;> rfl
theorem packs_key_odd (a : UInt8) (r : List UInt8) (leaf : Bool) (hf : Nib.fit (a :: r) = true) (hp : (a :: r).length % 2 = 1) :
    Nib.key ((if leaf then 3 else 1) :: a :: r) = (Nib.packed (a :: r) leaf, 0) := by
  unfold Nib.key
  have h1 : Nib.fit ((if leaf then 3 else 1) :: a :: r) = true := by unfold Nib.fit at hf ⊢; cases leaf <;> simpa using hf
  have hp' : (r.length + 1) % 2 = 1 := by simpa using hp
  rw [if_pos h1, if_neg (by simp; omega), Nib.packed_odd hp, Nib.joined_cons]
  cases leaf <;> rfl

set_option maxHeartbeats 400000 in
theorem refnib_Pack (s : List UInt8) (leaf : Bool) (w : World) (hs : s.length ≤ 1000000) :
    Calls Try.prog 13 #[.string ⟨s.toArray⟩, .bool leaf] w fun e w' => e = .returned (.tuple #[.string ⟨(Nib.pack s leaf).1.toArray⟩, .int .i64 (Nib.pack s leaf).2]) ∧ Below w.heap.size w w' := by
  by_cases hf : Nib.fit s = true
  · have e1 : Nib.pack s leaf = (Nib.packed s leaf, 0) := by unfold Nib.pack; rw [if_pos hf]
    rw [e1]
    by_cases hp : s.length % 2 = 1
    · obtain ⟨a, r, rfl⟩ : ∃ a r, s = a :: r := by
        cases s with
        | nil => simp at hp
        | cons a r => exact ⟨a, r, rfl⟩
      have HK := Lib.hid (packs_key_odd a r leaf hf hp)
      have HF := Lib.hid hf
      have hp' : ((r.length : Int) + 1) % 2 = 1 := by simp at hp; omega
      have HP := Lib.hid hp'
      have hq1 : (((r.length : Int) + 1) % 2 == 1) = true := by rw [beq_iff_eq]; exact hp'
      have hs' : r.length ≤ 1000000 := by simp at hs; omega
      have hs2 : (a :: r).length ≤ 1048576 := by simp; omega
      clear hf hp e1 hs
      cases leaf
      · go_enter Try.func13, Try.ntmps13
        go_wp2_with fail
        refine (refnib_Fit (a :: r) _ hs2).mono ?_
        rintro e w1 ⟨rfl, rfl⟩
        rw [HF.out]
        have hw : IntKind.u8.wrap (((r.length : Int) + 1) % 2) = 1 := by rw [HP.out]; rfl
        have hc1 := fun W n h => conv1s W n h 1 (by omega) (by omega)
        have hc2 := fun W n h => conv2s W n h 1 0 (by omega) (by omega) (by omega) (by omega)
        clear hp'
        go_wp2_with fail
        refine (refnib_Key (1 :: a :: r) _ (by simp; omega)).mono ?_
        rintro e w1 ⟨rfl, hb1⟩
        have hk := HK.out
        simp only [Bool.false_eq_true, if_false, if_true] at hk
        rw [hk]
        go_wp2
        go_ret2
        exact ⟨rfl, Below.nxt (by go_grown) hb1⟩
      · go_enter Try.func13, Try.ntmps13
        go_wp2_with fail
        refine (refnib_Fit (a :: r) _ hs2).mono ?_
        rintro e w1 ⟨rfl, rfl⟩
        rw [HF.out]
        have hw : IntKind.u8.wrap (((r.length : Int) + 1) % 2) = 1 := by rw [HP.out]; rfl
        have hc1 := fun W n h => conv1s W n h 3 (by omega) (by omega)
        have hc2 := fun W n h => conv2s W n h 3 0 (by omega) (by omega) (by omega) (by omega)
        clear hp'
        go_wp2_with fail
        refine (refnib_Key (3 :: a :: r) _ (by simp; omega)).mono ?_
        rintro e w1 ⟨rfl, hb1⟩
        have hk := HK.out
        simp only [Bool.false_eq_true, if_false, if_true] at hk
        rw [hk]
        go_wp2
        go_ret2
        exact ⟨rfl, Below.nxt (by go_grown) hb1⟩
    · have HK := Lib.hid (packs_key_even s leaf hf (by omega))
      have HF := Lib.hid hf
      have hp' : (s.length : Int) % 2 = 0 := by omega
      have HP := Lib.hid hp'
      have hq1 : ((s.length : Int) % 2 == 1) = false := by rw [beq_eq_false_iff_ne]; omega
      have hs2 : s.length ≤ 1048576 := by omega
      clear hf hp e1
      cases leaf
      · go_enter Try.func13, Try.ntmps13
        go_wp2_with fail
        refine (refnib_Fit s _ hs2).mono ?_
        rintro e w1 ⟨rfl, rfl⟩
        rw [HF.out]
        have hw : IntKind.u8.wrap ((s.length : Int) % 2) = 0 := by rw [HP.out]; rfl
        have hc1 := fun W n h => conv1s W n h 0 (by omega) (by omega)
        have hc2 := fun W n h => conv2s W n h 0 0 (by omega) (by omega) (by omega) (by omega)
        clear hp'
        go_wp2_with fail
        refine (refnib_Key (0 :: 0 :: s) _ (by simp; omega)).mono ?_
        rintro e w1 ⟨rfl, hb1⟩
        have hk := HK.out
        simp only [Bool.false_eq_true, if_false, if_true] at hk
        rw [hk]
        go_wp2
        go_ret2
        exact ⟨rfl, Below.nxt (by go_grown) hb1⟩
      · go_enter Try.func13, Try.ntmps13
        go_wp2_with fail
        refine (refnib_Fit s _ hs2).mono ?_
        rintro e w1 ⟨rfl, rfl⟩
        rw [HF.out]
        have hw : IntKind.u8.wrap ((s.length : Int) % 2) = 0 := by rw [HP.out]; rfl
        have hc1 := fun W n h => conv1s W n h 2 (by omega) (by omega)
        have hc2 := fun W n h => conv2s W n h 2 0 (by omega) (by omega) (by omega) (by omega)
        clear hp'
        go_wp2_with fail
        refine (refnib_Key (2 :: 0 :: s) _ (by simp; omega)).mono ?_
        rintro e w1 ⟨rfl, hb1⟩
        have hk := HK.out
        simp only [Bool.false_eq_true, if_false, if_true] at hk
        rw [hk]
        go_wp2
        go_ret2
        exact ⟨rfl, Below.nxt (by go_grown) hb1⟩
  · have e1 : Nib.pack s leaf = ([], 3) := by unfold Nib.pack; rw [if_neg hf]
    rw [e1]
    have HF := Lib.hid (show Nib.fit s = false by simpa using hf)
    clear hf e1
    go_enter Try.func13, Try.ntmps13
    go_wp2_with fail
    refine (refnib_Fit s _ (by omega)).mono ?_
    rintro e w1 ⟨rfl, rfl⟩
    rw [HF.out]
    go_wp2
    go_ret2
    exact ⟨rfl, Below.refl _ _⟩

theorem refnib_Unpack_nil (w : World) :
    Calls Try.prog 15 #[.string ⟨#[]⟩] w fun e w' => e = .returned (.tuple #[.string ⟨#[]⟩, .bool false, .int .i64 3]) ∧ Below w.heap.size w w' := by
  go_enter Try.func15, Try.ntmps15
  go_wp2
  go_ret3
  exact ⟨rfl, Below.refl _ _⟩

set_option maxHeartbeats 400000 in
theorem refnib_Unpack_cons (b : UInt8) (r : List UInt8) (w : World) (hs : r.length ≤ 1999) :
    Calls Try.prog 15 #[.string ⟨(b :: r).toArray⟩] w fun e w' => e = .returned (.tuple #[.string ⟨(Nib.unpack (b :: r)).1.toArray⟩, .bool (Nib.unpack (b :: r)).2.1, .int .i64 (Nib.unpack (b :: r)).2.2]) ∧ Below w.heap.size w w' := by
  have hlt := b.toNat_lt
  rw [Nib.unpack_cons]
  have ho : Nib.of (b :: r) = b / 16 :: b % 16 :: Nib.of r := by simp [Nib.of]
  obtain ⟨x, hx⟩ : ∃ x, x = b / 16 := ⟨_, rfl⟩
  obtain ⟨y, hy⟩ : ∃ y, y = b % 16 := ⟨_, rfl⟩
  have hxn : x.toNat = b.toNat / 16 := by rw [hx]; simp
  have hyn : y.toNat = b.toNat % 16 := by rw [hy]; simp
  rw [← hx, ← hy] at ho
  have HO := Lib.hid ho
  have HL := Nib.of_length r
  have HL2 : (Nib.of r).length ≤ 4000 := by omega
  rw [← hxn, ← hyn, ← hy]
  clear hx hy ho HL
  have hx16 : x.toNat < 16 := by omega
  clear hxn hyn hlt
  by_cases h1 : 3 < x.toNat
  · have hk : 3 < (x.toNat : Int) := by omega
    rw [if_pos (.inl h1)]
    clear h1
    go_enter Try.func15, Try.ntmps15
    go_wp2_with fail
    refine (refnib_Of (b :: r) _ (by simp; omega)).mono ?_
    rintro e w1 ⟨rfl, hb⟩
    rw [HO.out]
    go_wp2
    go_ret3
    exact ⟨rfl, hb⟩
  · have hk : ¬ 3 < (x.toNat : Int) := by omega
    have hge : decide (2 ≤ (x.toNat : Int)) = decide (2 ≤ x.toNat) := by rw [decide_eq_decide]; omega
    have HG := Lib.hid hge
    clear hge
    by_cases h2 : x.toNat % 2 = 1
    · rw [if_neg (by omega), if_pos h2]
      have ho1 : ((x.toNat : Int) % 2 == 0) = false := by rw [beq_eq_false_iff_ne]; omega
      have ho2 : ((x.toNat : Int) % 2 == 1) = true := by rw [beq_iff_eq]; omega
      clear h1 h2
      go_enter Try.func15, Try.ntmps15
      go_wp2_with fail
      refine (refnib_Of (b :: r) _ (by simp; omega)).mono ?_
      rintro e w1 ⟨rfl, hb⟩
      rw [HO.out]
      go_wp2
      go_ret3
      rw [← HG.out]
      exact ⟨rfl, hb⟩
    · have ho1 : ((x.toNat : Int) % 2 == 0) = true := by rw [beq_iff_eq]; omega
      have ho2 : ((x.toNat : Int) % 2 == 1) = false := by rw [beq_eq_false_iff_ne]; omega
      by_cases h3 : y.toNat = 0
      · rw [if_neg (by omega), if_neg h2]
        have hz : ((y.toNat : Int) != 0) = false := by simp; omega
        clear h1 h2 h3
        go_enter Try.func15, Try.ntmps15
        go_wp2_with fail
        refine (refnib_Of (b :: r) _ (by simp; omega)).mono ?_
        rintro e w1 ⟨rfl, hb⟩
        rw [HO.out]
        go_wp2
        go_ret3
        rw [← HG.out]
        exact ⟨rfl, hb⟩
      · rw [if_pos (.inr ⟨by omega, h3⟩)]
        have hz : ((y.toNat : Int) != 0) = true := by rw [bne_iff_ne]; omega
        clear h1 h2 h3
        go_enter Try.func15, Try.ntmps15
        go_wp2_with fail
        refine (refnib_Of (b :: r) _ (by simp; omega)).mono ?_
        rintro e w1 ⟨rfl, hb⟩
        rw [HO.out]
        go_wp2
        go_ret3
        exact ⟨rfl, hb⟩
theorem refnib_Unpack (s : List UInt8) (w : World) (hs : s.length ≤ 2000) :
    Calls Try.prog 15 #[.string ⟨s.toArray⟩] w fun e w' => e = .returned (.tuple #[.string ⟨(Nib.unpack s).1.toArray⟩, .bool (Nib.unpack s).2.1, .int .i64 (Nib.unpack s).2.2]) ∧ Below w.heap.size w w' := by
  cases s with
  | nil => exact refnib_Unpack_nil w
  | cons b r => exact refnib_Unpack_cons b r w (by simp at hs; omega)

set_option maxHeartbeats 400000 in
theorem nibPacks_long (path s : List UInt8) (leaf : Bool) (w : World) (h : 2000 < path.length ∨ 2000 < s.length) (hp : path.length ≤ 9223372036854775807) (hs : s.length ≤ 9223372036854775807) :
    Calls Try.prog 4 #[.string ⟨path.toArray⟩, .bool leaf, .string ⟨s.toArray⟩] w fun e w' => e = .returned (.bool true) ∧ Below w.heap.size w w' := by
  by_cases h1 : 2000 < (path.length : Int)
  · clear h
    go_enter Try.func4, Try.ntmps4
    go_wp2_with fail
    refine (nib_works _).mono ?_
    rintro e w1 ⟨rfl, hb1⟩
    go_wp2
    go_ret
    exact ⟨rfl, hb1⟩
  · have h2 : 2000 < (s.length : Int) := by omega
    clear h
    go_enter Try.func4, Try.ntmps4
    go_wp2_with fail
    refine (nib_works _).mono ?_
    rintro e w1 ⟨rfl, hb1⟩
    go_wp2
    go_ret
    exact ⟨rfl, hb1⟩

set_option maxHeartbeats 400000 in
theorem nibPacks_short (path s : List UInt8) (leaf : Bool) (w : World) (hp : path.length ≤ 2000) (hs : s.length ≤ 2000) :
    Calls Try.prog 4 #[.string ⟨path.toArray⟩, .bool leaf, .string ⟨s.toArray⟩] w fun e w' => e = .returned (.bool true) ∧ Below w.heap.size w w' := by
  go_enter Try.func4, Try.ntmps4
  go_wp2_with fail
  refine (nib_Pack path leaf _ (by omega)).mono ?_
  rintro e w1 ⟨rfl, hb1⟩
  go_wp2_with fail
  refine (refnib_Pack path leaf _ (by omega)).mono ?_
  rintro e w2 ⟨rfl, hb2⟩
  have hbb2 := hb1.nxt hb2
  go_wp2_with fail
  refine (nib_Unpack s _ (by omega)).mono ?_
  rintro e w3 ⟨rfl, hb3⟩
  have hbb3 := hbb2.nxt hb3
  go_wp2_with fail
  refine (refnib_Unpack s _ (by omega)).mono ?_
  rintro e w4 ⟨rfl, hb4⟩
  have hbb4 := hbb3.nxt hb4
  go_wp2_with fail
  refine (nib_works _).mono ?_
  rintro e w5 ⟨rfl, hb5⟩
  go_wp2
  go_ret
  exact ⟨rfl, hbb4.nxt hb5⟩

theorem nibblePacks_walk (a0 : ByteArray) (a1 : Bool) (a2 : ByteArray) (h0 : a0.size ≤ maxLen) (h2 : a2.size ≤ maxLen) (w : World) :
    Calls Try.prog 4 #[.string a0, .bool a1, .string a2] w fun e w' => e = .returned (.bool true) ∧ Below w.heap.size w w' := by
  show Calls Try.prog 4 #[.string ⟨a0.data.toList.toArray⟩, .bool a1, .string ⟨a2.data.toList.toArray⟩] w _
  have g0 := ba_len a0 h0
  have g2 := ba_len a2 h2
  by_cases h : 2000 < a0.data.toList.length ∨ 2000 < a2.data.toList.length
  · exact nibPacks_long _ _ _ _ h g0 g2
  · exact nibPacks_short _ _ _ _ (by omega) (by omega)
end Go.Proofs.Ytfdnoeoilanohab
