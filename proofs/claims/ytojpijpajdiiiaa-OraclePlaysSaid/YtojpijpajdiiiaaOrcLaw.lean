/- Layer 6's laws: works and fill. No conditions. -/
import Derived.Test.YtojpijpajdiiiaaOrc8
namespace Go.Proofs.Ytojpijpajdiiiaa
set_option linter.unusedVariables false
open Go.RowKit Go.Instr
attribute [local go_sem] ba_get ByteArray.mk_append_mk add_zero_addr

def am : List UInt8 := [97, 32, 109, 97, 114, 107, 44, 32, 116, 104, 105, 114, 116, 121, 45, 116, 119, 111, 32, 98, 121, 116, 101, 115, 32, 111, 102, 32, 105, 116, 46, 46]

theorem sign_a1 : sign [] [97] am true = ([([97], am, true)], 0) := by decide +kernel
theorem sign_a2 : sign [([97], am, true)] [97] am false = ([([97], am, false)], 0) := by decide +kernel
theorem sign_a3 : sign [([97], am, false)] [] am true = ([([97], am, false)], 1) := by decide +kernel

set_option maxHeartbeats 1000000 in
theorem orc_works (w : World) :
    Calls Try.prog 7 #[] w fun e w' => e = .returned (.bool true) ∧ Below w.heap.size w w' := by
  go_enter Try.func7, Try.ntmps7
  go_wp2_with fail
  refine (orc_New _).mono ?_
  rintro e w1 ⟨rfl, hT1, hb1, hs1⟩
  generalize hm : w.heap.size = mb at *
  go_wp2_with fail
  refine (orc_Sign w1 mb _ _ hT1 (by simp) [97] am true).mono ?_
  simp only [SignEnd, sign_a1]
  rintro e w2 ⟨rfl, v2, hT2, hk2, ho2⟩
  go_wp2_with fail
  refine (orc_Sign w2 mb _ _ hT2 (by simp) [97] am false).mono ?_
  simp only [SignEnd, sign_a2]
  rintro e w3 ⟨rfl, v3, hT3, hk3, ho3⟩
  go_wp2_with fail
  refine (orc_Signed w3 mb _ _ hT3 [97] am).mono ?_
  rintro e w4 ⟨rfl, hb4⟩
  have hT4 := hT3.below hb4
  rw [show (atRow ([97], am) [([97], am, false)]).isSome = true by decide +kernel]
  go_wp2_with fail
  refine (orc_Signed w4 mb _ _ hT4 [98] am).mono ?_
  rintro e w5 ⟨rfl, hb5⟩
  have hT5 := hT4.below hb5
  rw [show (atRow ([98], am) [([97], am, false)]).isSome = false by decide +kernel]
  go_wp2_with fail
  refine (orc_Honest w5 mb _ _ hT5 (by simp) [97]).mono ?_
  rintro e w6 ⟨rfl, hb6⟩
  have hT6 := hT5.below hb6
  rw [show honest [([97], am, false)] [97] = false by decide +kernel]
  go_wp2_with fail
  refine (orc_Honest w6 mb _ _ hT6 (by simp) [98]).mono ?_
  rintro e w7 ⟨rfl, hb7⟩
  have hT7 := hT6.below hb7
  rw [show honest [([97], am, false)] [98] = true by decide +kernel]
  go_wp2_with fail
  refine (orc_All w7 mb _ _ hT7 (by simp)).mono ?_
  rintro e w8 ⟨A, c, l', rfl, own8, hp8, hs8, hb8⟩
  have hT8 := hT7.below hb8
  clear own8 hp8 hs8
  go_wp2_with fail
  refine (orc_Sign w8 mb _ _ hT8 (by simp) [] am true).mono ?_
  simp only [SignEnd, sign_a3]
  rintro e w9 ⟨rfl, v9, hT9, hk9, ho9⟩
  have HB : Hid (Below w.heap.size w w9) := Lib.hid (by
    have k1 := hk2.below (B := mb) (by omega) (TabX.ge hT1)
    have k2 := hk3.below (B := mb) (by have := hk2.size; omega) (TabX.ge hT2)
    have k3 := hk9.below (B := mb) (by have := hk2.size; have := hk3.size; have := hb4.size; have := hb5.size; have := hb6.size; have := hb7.size; have := hb8.size; omega) (TabX.ge hT8)
    have h4 := (((hb4.nxt hb5).nxt hb6).nxt hb7).nxt hb8
    rw [hm] at *
    exact (((hb1.trans k1).trans k2).trans (h4.mono (by have := hk2.size; have := hk3.size; omega))).trans k3)
  clear hT1 hT2 hT3 hT4 hT5 hT6 hT7 hT8 hT9 hk2 hk3 hk9 ho2 ho3 ho9 hb1 hb4 hb5 hb6 hb7 hb8
  go_wp2
  go_ret
  exact ⟨rfl, HB.out⟩
end Go.Proofs.Ytojpijpajdiiiaa
