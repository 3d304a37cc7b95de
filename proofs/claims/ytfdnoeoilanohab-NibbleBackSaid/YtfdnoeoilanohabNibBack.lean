/- The walk of NibbleBack: for every key, path and mark the law returns true. No condition. -/
import Derived.Test.YtfdnoeoilanohabNibLaw
import Derived.Test.YtfdnoeoilanohabNib3
namespace Go.Proofs.Ytfdnoeoilanohab
open Go.RowKit
attribute [local go_sem] ba_get ByteArray.mk_append_mk ByteArray.extract_mk

set_option maxHeartbeats 400000 in
theorem nibBack_long (key path : List UInt8) (leaf : Bool) (w : World) (h : 2000 < key.length ∨ 2000 < path.length) (hk : key.length ≤ 9223372036854775807) (hp : path.length ≤ 9223372036854775807) :
    Calls Try.prog 5 #[.string ⟨key.toArray⟩, .string ⟨path.toArray⟩, .bool leaf] w fun e w' => e = .returned (.bool true) ∧ Below w.heap.size w w' := by
  by_cases h1 : 2000 < (key.length : Int)
  · clear h
    go_enter Try.func5, Try.ntmps5
    go_wp2_with fail
    refine (nib_works _).mono ?_
    rintro e w1 ⟨rfl, hb1⟩
    go_wp2
    go_ret
    exact ⟨rfl, hb1⟩
  · have h2 : 2000 < (path.length : Int) := by omega
    clear h
    go_enter Try.func5, Try.ntmps5
    go_wp2_with fail
    refine (nib_works _).mono ?_
    rintro e w1 ⟨rfl, hb1⟩
    go_wp2
    go_ret
    exact ⟨rfl, hb1⟩

set_option maxHeartbeats 1000000 in
theorem nibBack_short (key path : List UInt8) (leaf : Bool) (w : World) (hk : key.length ≤ 2000) (hp : path.length ≤ 2000) :
    Calls Try.prog 5 #[.string ⟨key.toArray⟩, .string ⟨path.toArray⟩, .bool leaf] w fun e w' => e = .returned (.bool true) ∧ Below w.heap.size w w' := by
  have hol := Nib.of_length key
  have ho4 : (Nib.of key).length ≤ 4000 := by omega
  have hq1 : ((2 * key.length : Nat) : Int) = 2 * (key.length : Int) := by omega
  have hul := Nib.unpack_length key
  have hpu := Nib.pack_unpack key
  have HP := Lib.hid hpu
  clear hpu
  by_cases hc : (Nib.unpack key).2.2 = 0
  · have HC := Lib.hid hc
    clear hc
    go_enter Try.func5, Try.ntmps5
    go_wp2_with fail
    refine (nib_works _).mono ?_
    rintro e w1 ⟨rfl, hb1⟩
    go_wp2_with fail
    refine (nib_Of key _ hk).mono ?_
    rintro e w2 ⟨rfl, hb2⟩
    have hbb2 := hb1.trans (hb2.mono hb1.size)
    go_wp2_with fail
    refine (nib_Key (Nib.of key) _ (by omega)).mono ?_
    rintro e w3 ⟨rfl, hb3⟩
    rw [Nib.key_of]
    have hbb3 := hbb2.trans (hb3.mono hbb2.size)
    go_wp2_with fail
    refine (nib_Of key _ hk).mono ?_
    rintro e w4 ⟨rfl, hb4⟩
    have hbb4 := hbb3.trans (hb4.mono hbb3.size)
    go_wp2_with fail
    refine (nib_Unpack key _ (by omega)).mono ?_
    rintro e w5 ⟨rfl, hb5⟩
    have hbb5 := hbb4.trans (hb5.mono hbb4.size)
    generalize hu : Nib.unpack key = u at *
    obtain ⟨p, is, c⟩ := u
    have hz : c = 0 := HC.out
    subst hz
    have hpk : Nib.pack p is = (key, 0) := HP.out rfl
    have HK := Lib.hid hpk
    have HU := Lib.hid hu
    clear hpk HP HC hu
    have hpl : p.length ≤ 4000 := by simp only at hul; omega
    clear hul
    go_wp2_with fail
    refine (nib_Pack p is _ (by omega)).mono ?_
    rintro e w8 ⟨rfl, hb8⟩
    rw [HK.out]
    have hbb8 := hbb5.trans (hb8.mono hbb5.size)
    by_cases hf : Nib.fit path = true
    · have e1 : Nib.pack path leaf = (Nib.packed path leaf, 0) := by unfold Nib.pack; rw [if_pos hf]
      have e2 := Nib.unpack_packed path leaf hf
      have e3 := Nib.packed_length path leaf
      have e4 : (Nib.packed path leaf).length ≤ 1001 := by omega
      have H := Lib.hid (And.intro e1 e2)
      have hq6 : (((Nib.packed path leaf).length : Int) == (path.length : Int) / 2 + 1) = true := by rw [beq_iff_eq]; omega
      clear e1 e2 e3 hf
      go_wp2_with fail
      refine (nib_Pack path leaf _ (by omega)).mono ?_
      rintro e w6 ⟨rfl, hb6⟩
      rw [H.out.1]
      have hbb6 := hbb8.trans (hb6.mono hbb8.size)
      go_wp2_with fail
      refine (nib_Unpack (Nib.packed path leaf) _ (by omega)).mono ?_
      rintro e w7 ⟨rfl, hb7⟩
      rw [H.out.2]
      have hbb7 := hbb6.trans (hb7.mono hbb6.size)
      go_wp2
      go_ret
      exact ⟨rfl, hbb7⟩
    · have hf2 : Nib.fit path = false := by simpa using hf
      have e1 : Nib.pack path leaf = ([], 3) := by unfold Nib.pack; rw [if_neg hf]
      have H := Lib.hid (And.intro e1 hf2)
      clear e1 hf hf2
      go_wp2_with fail
      refine (nib_Pack path leaf _ (by omega)).mono ?_
      rintro e w6 ⟨rfl, hb6⟩
      rw [H.out.1]
      have hbb6 := hbb8.trans (hb6.mono hbb8.size)
      go_wp2_with fail
      refine (nib_Fit path _ (by omega)).mono ?_
      rintro e w7 ⟨rfl, rfl⟩
      rw [H.out.2]
      go_wp2
      go_ret
      exact ⟨rfl, hbb6⟩
  · have HC := Lib.hid hc
    clear hc
    go_enter Try.func5, Try.ntmps5
    go_wp2_with fail
    refine (nib_works _).mono ?_
    rintro e w1 ⟨rfl, hb1⟩
    go_wp2_with fail
    refine (nib_Of key _ hk).mono ?_
    rintro e w2 ⟨rfl, hb2⟩
    have hbb2 := hb1.trans (hb2.mono hb1.size)
    go_wp2_with fail
    refine (nib_Key (Nib.of key) _ (by omega)).mono ?_
    rintro e w3 ⟨rfl, hb3⟩
    rw [Nib.key_of]
    have hbb3 := hbb2.trans (hb3.mono hbb2.size)
    go_wp2_with fail
    refine (nib_Of key _ hk).mono ?_
    rintro e w4 ⟨rfl, hb4⟩
    have hbb4 := hbb3.trans (hb4.mono hbb3.size)
    go_wp2_with fail
    refine (nib_Unpack key _ (by omega)).mono ?_
    rintro e w5 ⟨rfl, hb5⟩
    have hbb5 := hbb4.trans (hb5.mono hbb4.size)
    generalize hu : Nib.unpack key = u at *
    obtain ⟨p, is, c⟩ := u
    have hz : ((c : Int) == 0) = false := by rw [beq_eq_false_iff_ne]; have := HC.out; simp only at this; omega
    have HU := Lib.hid hu
    clear HP HC hu hul
    by_cases hf : Nib.fit path = true
    · have e1 : Nib.pack path leaf = (Nib.packed path leaf, 0) := by unfold Nib.pack; rw [if_pos hf]
      have e2 := Nib.unpack_packed path leaf hf
      have e3 := Nib.packed_length path leaf
      have e4 : (Nib.packed path leaf).length ≤ 1001 := by omega
      have H := Lib.hid (And.intro e1 e2)
      have hq6 : (((Nib.packed path leaf).length : Int) == (path.length : Int) / 2 + 1) = true := by rw [beq_iff_eq]; omega
      clear e1 e2 e3 hf
      go_wp2_with fail
      refine (nib_Pack path leaf _ (by omega)).mono ?_
      rintro e w6 ⟨rfl, hb6⟩
      rw [H.out.1]
      have hbb6 := hbb5.trans (hb6.mono hbb5.size)
      go_wp2_with fail
      refine (nib_Unpack (Nib.packed path leaf) _ (by omega)).mono ?_
      rintro e w7 ⟨rfl, hb7⟩
      rw [H.out.2]
      have hbb7 := hbb6.trans (hb7.mono hbb6.size)
      go_wp2
      go_ret
      exact ⟨rfl, hbb7⟩
    · have hf2 : Nib.fit path = false := by simpa using hf
      have e1 : Nib.pack path leaf = ([], 3) := by unfold Nib.pack; rw [if_neg hf]
      have H := Lib.hid (And.intro e1 hf2)
      clear e1 hf hf2
      go_wp2_with fail
      refine (nib_Pack path leaf _ (by omega)).mono ?_
      rintro e w6 ⟨rfl, hb6⟩
      rw [H.out.1]
      have hbb6 := hbb5.trans (hb6.mono hbb5.size)
      go_wp2_with fail
      refine (nib_Fit path _ (by omega)).mono ?_
      rintro e w7 ⟨rfl, rfl⟩
      rw [H.out.2]
      go_wp2
      go_ret
      exact ⟨rfl, hbb6⟩

theorem nibbleBack_walk (a0 a1 : ByteArray) (a2 : Bool) (h0 : a0.size ≤ maxLen) (h1 : a1.size ≤ maxLen) (w : World) :
    Calls Try.prog 5 #[.string a0, .string a1, .bool a2] w fun e w' => e = .returned (.bool true) ∧ Below w.heap.size w w' := by
  show Calls Try.prog 5 #[.string ⟨a0.data.toList.toArray⟩, .string ⟨a1.data.toList.toArray⟩, .bool a2] w _
  have g0 := ba_len a0 h0
  have g1 := ba_len a1 h1
  by_cases h : 2000 < a0.data.toList.length ∨ 2000 < a1.data.toList.length
  · exact nibBack_long _ _ _ _ h g0 g1
  · exact nibBack_short _ _ _ _ (by omega) (by omega)
end Go.Proofs.Ytfdnoeoilanohab
