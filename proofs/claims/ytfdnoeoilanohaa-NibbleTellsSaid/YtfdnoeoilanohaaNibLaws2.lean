/- The walks of NibbleOrder, NibbleSides, NibbleTells: for every input the law returns true. No condition. -/
import Derived.Test.YtfdnoeoilanohaaNibLaw
namespace Go.Proofs.Ytfdnoeoilanohaa
open Go.RowKit
attribute [local go_sem] ba_get ByteArray.mk_append_mk ByteArray.extract_mk


set_option maxHeartbeats 400000 in
theorem nibOrder_long (a b : List UInt8) (w : World) (h : 2000 < a.length ∨ 2000 < b.length) (ha : a.length ≤ 9223372036854775807) (hb : b.length ≤ 9223372036854775807) :
    Calls Try.prog 5 #[.string ⟨a.toArray⟩, .string ⟨b.toArray⟩] w fun e w' => e = .returned (.bool true) ∧ Below w.heap.size w w' := by
  by_cases h1 : 2000 < (a.length : Int)
  · clear h
    go_enter Try.func5, Try.ntmps5
    go_wp2_with fail
    refine (nib_works _).mono ?_
    rintro e w1 ⟨rfl, hb1⟩
    go_wp2
    go_ret
    exact ⟨rfl, hb1⟩
  · have h2 : 2000 < (b.length : Int) := by omega
    clear h
    go_enter Try.func5, Try.ntmps5
    go_wp2_with fail
    refine (nib_works _).mono ?_
    rintro e w1 ⟨rfl, hb1⟩
    go_wp2
    go_ret
    exact ⟨rfl, hb1⟩

set_option maxHeartbeats 400000 in
theorem nibOrder_short (a b : List UInt8) (w : World) (ha : a.length ≤ 2000) (hb : b.length ≤ 2000) :
    Calls Try.prog 5 #[.string ⟨a.toArray⟩, .string ⟨b.toArray⟩] w fun e w' => e = .returned (.bool true) ∧ Below w.heap.size w w' := by
  have hq1 := Nib.blt_of a b
  have hq2 : (Nib.of a == Nib.of b) = (a == b) := by
    by_cases h : a = b
    · subst h; simp
    · have h2 : Nib.of a ≠ Nib.of b := fun e => h (Nib.of_inj e)
      rw [beq_false_of_ne h, beq_false_of_ne h2]
  have hq3 := (Nib.common_of a b).1
  have hq4 := Nib.common_symm b a
  have hq5 := Nib.common_of_full a b
  have hl1 := Nib.of_length a
  have hl2 := Nib.of_length b
  have hlx : (Nib.of a).length ≤ 4000 := by omega
  have hly : (Nib.of b).length ≤ 4000 := by omega
  generalize hx : Nib.of a = x at *
  generalize hy : Nib.of b = y at *
  generalize hn : Nib.common a b = n at *
  generalize hm : Nib.common x y = m at *
  have hq6 : ((m : Int) / 2 == (n : Int)) = true := by rw [beq_iff_eq]; omega
  have hq7 : ((m : Int) == (x.length : Int)) = ((n : Int) == (a.length : Int)) := by
    rw [Bool.eq_iff_iff, beq_iff_eq, beq_iff_eq]; omega
  have hcl := Nib.common_le x y
  rw [hm] at hcl
  have hmb : m ≤ 4000 := by omega
  have hnb : n ≤ 4000 := by omega
  clear hcl
  have H := Lib.hid (And.intro hx (And.intro hy (And.intro hn (And.intro hm hq4))))
  clear hx hy hn hm hq4 hq3 hq5 hl1 hl2
  go_enter Try.func5, Try.ntmps5
  go_wp2_with fail
  refine (nib_works _).mono ?_
  rintro e w1 ⟨rfl, hb1⟩
  go_wp2_with fail
  refine (nib_Of a _ ha).mono ?_
  rintro e w2 ⟨rfl, hb2⟩
  rw [H.out.1]
  have hbb2 := hb1.nxt hb2
  go_wp2_with fail
  refine (nib_Of b _ hb).mono ?_
  rintro e w3 ⟨rfl, hb3⟩
  rw [H.out.2.1]
  have hbb3 := hbb2.nxt hb3
  go_wp2_with fail
  refine (nib_Common a b _ (by omega) (by omega)).mono ?_
  rintro e w4 ⟨rfl, hb4⟩
  rw [H.out.2.2.1]
  have hbb4 := hbb3.nxt hb4
  go_wp2_with fail
  refine (nib_Common x y _ (by omega) (by omega)).mono ?_
  rintro e w5 ⟨rfl, hb5⟩
  rw [H.out.2.2.2.1]
  have hbb5 := hbb4.nxt hb5
  go_wp2_with fail
  refine (nib_Common b a _ (by omega) (by omega)).mono ?_
  rintro e w6 ⟨rfl, hb6⟩
  rw [H.out.2.2.2.2]
  have hbb6 := hbb5.nxt hb6
  go_wp2
  go_ret
  exact ⟨rfl, hbb6⟩

theorem nibbleOrder_walk (a0 a1 : ByteArray) (h0 : a0.size ≤ maxLen) (h1 : a1.size ≤ maxLen) (w : World) :
    Calls Try.prog 5 #[.string a0, .string a1] w fun e w' => e = .returned (.bool true) ∧ Below w.heap.size w w' := by
  show Calls Try.prog 5 #[.string ⟨a0.data.toList.toArray⟩, .string ⟨a1.data.toList.toArray⟩] w _
  have g0 := ba_len a0 h0
  have g1 := ba_len a1 h1
  by_cases h : 2000 < a0.data.toList.length ∨ 2000 < a1.data.toList.length
  · exact nibOrder_long _ _ _ h g0 g1
  · exact nibOrder_short _ _ _ (by omega) (by omega)

set_option maxHeartbeats 400000 in
theorem nibSides_long (a b c : List UInt8) (w : World) (h : 2000 < a.length ∨ 2000 < b.length ∨ 2000 < c.length) (ha : a.length ≤ 9223372036854775807) (hb : b.length ≤ 9223372036854775807) (hc : c.length ≤ 9223372036854775807) :
    Calls Try.prog 6 #[.string ⟨a.toArray⟩, .string ⟨b.toArray⟩, .string ⟨c.toArray⟩] w fun e w' => e = .returned (.bool true) ∧ Below w.heap.size w w' := by
  by_cases h1 : 2000 < (a.length : Int)
  · clear h
    go_enter Try.func6, Try.ntmps6
    go_wp2_with fail
    refine (nib_works _).mono ?_
    rintro e w1 ⟨rfl, hb1⟩
    go_wp2
    go_ret
    exact ⟨rfl, hb1⟩
  · by_cases h2 : 2000 < (b.length : Int)
    · clear h
      go_enter Try.func6, Try.ntmps6
      go_wp2_with fail
      refine (nib_works _).mono ?_
      rintro e w1 ⟨rfl, hb1⟩
      go_wp2
      go_ret
      exact ⟨rfl, hb1⟩
    · have h3 : 2000 < (c.length : Int) := by omega
      clear h
      go_enter Try.func6, Try.ntmps6
      go_wp2_with fail
      refine (nib_works _).mono ?_
      rintro e w1 ⟨rfl, hb1⟩
      go_wp2
      go_ret
      exact ⟨rfl, hb1⟩

set_option maxHeartbeats 400000 in
theorem nibSides_short (a b c : List UInt8) (w : World) (ha : a.length ≤ 2000) (hb : b.length ≤ 2000) (hc : c.length ≤ 2000) :
    Calls Try.prog 6 #[.string ⟨a.toArray⟩, .string ⟨b.toArray⟩, .string ⟨c.toArray⟩] w fun e w' => e = .returned (.bool true) ∧ Below w.heap.size w w' := by
  have hcases := Nib.side_cases a b
  by_cases h1 : Nib.side a b = -1
  · obtain ⟨q1, q2⟩ := Nib.side_below c h1
    have HS := Lib.hid h1
    clear h1 hcases
    go_enter Try.func6, Try.ntmps6
    go_wp2_with fail
    refine (nib_works _).mono ?_
    rintro e w1 ⟨rfl, hb1⟩
    go_wp2_with fail
    refine (nib_Side a b _ (by omega) (by omega)).mono ?_
    rintro e w2 ⟨rfl, hb2⟩
    rw [HS.out]
    go_wp2
    go_ret
    exact ⟨rfl, hb1.nxt hb2⟩
  · by_cases h2 : Nib.side a b = 0
    · obtain ⟨q1, q2, q3⟩ := Nib.side_zero h2
      have HS := Lib.hid h2
      clear h1 h2 hcases
      have q4 : (b.length : Int) ≥ a.length := by omega
      have q5 : (List.take a.length b == a) = true := by rw [q2]; simp
      clear q2
      go_enter Try.func6, Try.ntmps6
      go_wp2_with fail
      refine (nib_works _).mono ?_
      rintro e w1 ⟨rfl, hb1⟩
      go_wp2_with fail
      refine (nib_Side a b _ (by omega) (by omega)).mono ?_
      rintro e w2 ⟨rfl, hb2⟩
      rw [HS.out]
      go_wp2
      go_ret
      exact ⟨rfl, hb1.nxt hb2⟩
    · have h3 : Nib.side a b = 1 := by omega
      have q1 := Nib.side_above c h3
      have HS := Lib.hid h3
      clear h1 h2 h3 hcases
      go_enter Try.func6, Try.ntmps6
      go_wp2_with fail
      refine (nib_works _).mono ?_
      rintro e w1 ⟨rfl, hb1⟩
      go_wp2_with fail
      refine (nib_Side a b _ (by omega) (by omega)).mono ?_
      rintro e w2 ⟨rfl, hb2⟩
      rw [HS.out]
      go_wp2
      go_ret
      exact ⟨rfl, hb1.nxt hb2⟩

theorem nibbleSides_walk (a0 a1 a2 : ByteArray) (h0 : a0.size ≤ maxLen) (h1 : a1.size ≤ maxLen) (h2 : a2.size ≤ maxLen) (w : World) :
    Calls Try.prog 6 #[.string a0, .string a1, .string a2] w fun e w' => e = .returned (.bool true) ∧ Below w.heap.size w w' := by
  show Calls Try.prog 6 #[.string ⟨a0.data.toList.toArray⟩, .string ⟨a1.data.toList.toArray⟩, .string ⟨a2.data.toList.toArray⟩] w _
  have g0 := ba_len a0 h0
  have g1 := ba_len a1 h1
  have g2 := ba_len a2 h2
  by_cases h : 2000 < a0.data.toList.length ∨ 2000 < a1.data.toList.length ∨ 2000 < a2.data.toList.length
  · exact nibSides_long _ _ _ _ h g0 g1 g2
  · exact nibSides_short _ _ _ _ (by omega) (by omega) (by omega)

set_option maxHeartbeats 400000 in
theorem nibTells_long (a b c : List UInt8) (w : World) (h : 2000 < a.length ∨ 2000 < b.length ∨ 2000 < c.length) (ha : a.length ≤ 9223372036854775807) (hb : b.length ≤ 9223372036854775807) (hc : c.length ≤ 9223372036854775807) :
    Calls Try.prog 7 #[.string ⟨a.toArray⟩, .string ⟨b.toArray⟩, .string ⟨c.toArray⟩] w fun e w' => e = .returned (.bool true) ∧ Below w.heap.size w w' := by
  by_cases h1 : 2000 < (a.length : Int)
  · clear h
    go_enter Try.func7, Try.ntmps7
    go_wp2_with fail
    refine (nib_works _).mono ?_
    rintro e w1 ⟨rfl, hb1⟩
    go_wp2
    go_ret
    exact ⟨rfl, hb1⟩
  · by_cases h2 : 2000 < (b.length : Int)
    · clear h
      go_enter Try.func7, Try.ntmps7
      go_wp2_with fail
      refine (nib_works _).mono ?_
      rintro e w1 ⟨rfl, hb1⟩
      go_wp2
      go_ret
      exact ⟨rfl, hb1⟩
    · have h3 : 2000 < (c.length : Int) := by omega
      clear h
      go_enter Try.func7, Try.ntmps7
      go_wp2_with fail
      refine (nib_works _).mono ?_
      rintro e w1 ⟨rfl, hb1⟩
      go_wp2
      go_ret
      exact ⟨rfl, hb1⟩

set_option maxHeartbeats 800000 in
theorem nibTells_short (a b c : List UInt8) (w : World) (ha : a.length ≤ 2000) (hb : b.length ≤ 2000) (hc : c.length ≤ 2000) :
    Calls Try.prog 7 #[.string ⟨a.toArray⟩, .string ⟨b.toArray⟩, .string ⟨c.toArray⟩] w fun e w' => e = .returned (.bool true) ∧ Below w.heap.size w w' := by
  go_enter Try.func7, Try.ntmps7
  go_wp2_with fail
  refine (nib_Key b _ (by omega)).mono ?_
  rintro e w1 ⟨rfl, hb1⟩
  go_wp2_with fail
  refine (refnib_Key b _ (by omega)).mono ?_
  rintro e w2 ⟨rfl, hb2⟩
  have hbb2 := hb1.nxt hb2
  go_wp2_with fail
  refine (nib_Of a _ (by omega)).mono ?_
  rintro e w3 ⟨rfl, hb3⟩
  have hbb3 := hbb2.nxt hb3
  go_wp2_with fail
  refine (refnib_Of a _ (by omega)).mono ?_
  rintro e w4 ⟨rfl, hb4⟩
  have hbb4 := hbb3.nxt hb4
  go_wp2_with fail
  refine (nib_Fit b _ (by omega)).mono ?_
  rintro e w5 ⟨rfl, rfl⟩
  go_wp2_with fail
  refine (refnib_Fit b _ (by omega)).mono ?_
  rintro e w5 ⟨rfl, rfl⟩
  go_wp2_with fail
  refine (nib_Common b c _ (by omega) (by omega)).mono ?_
  rintro e w6 ⟨rfl, hb6⟩
  have hbb6 := hbb4.nxt hb6
  go_wp2_with fail
  refine (refnib_Common b c _ (by omega) (by omega)).mono ?_
  rintro e w7 ⟨rfl, hb7⟩
  have hbb7 := hbb6.nxt hb7
  go_wp2_with fail
  refine (nib_Side b c _ (by omega) (by omega)).mono ?_
  rintro e w8 ⟨rfl, hb8⟩
  have hbb8 := hbb7.nxt hb8
  go_wp2_with fail
  refine (refnib_Side b c _ (by omega) (by omega)).mono ?_
  rintro e w9 ⟨rfl, hb9⟩
  have hbb9 := hbb8.nxt hb9
  go_wp2_with fail
  refine (nib_works _).mono ?_
  rintro e w10 ⟨rfl, hb10⟩
  go_wp2
  go_ret
  exact ⟨rfl, hbb9.nxt hb10⟩

theorem nibbleTells_walk (a0 a1 a2 : ByteArray) (h0 : a0.size ≤ maxLen) (h1 : a1.size ≤ maxLen) (h2 : a2.size ≤ maxLen) (w : World) :
    Calls Try.prog 7 #[.string a0, .string a1, .string a2] w fun e w' => e = .returned (.bool true) ∧ Below w.heap.size w w' := by
  show Calls Try.prog 7 #[.string ⟨a0.data.toList.toArray⟩, .string ⟨a1.data.toList.toArray⟩, .string ⟨a2.data.toList.toArray⟩] w _
  have g0 := ba_len a0 h0
  have g1 := ba_len a1 h1
  have g2 := ba_len a2 h2
  by_cases h : 2000 < a0.data.toList.length ∨ 2000 < a1.data.toList.length ∨ 2000 < a2.data.toList.length
  · exact nibTells_long _ _ _ _ h g0 g1 g2
  · exact nibTells_short _ _ _ _ (by omega) (by omega) (by omega)
end Go.Proofs.Ytfdnoeoilanohaa
