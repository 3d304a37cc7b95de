import Derived.Test.YtaplecncnkkigaaDoorJ34
/- Layer 10's laws: TriePlays. No conditions. -/
namespace Go.Proofs.YtaplecncnkkigaaDoor
set_option linter.unusedVariables false
open Go.RowKit Go.Instr
attribute [local go_sem] ba_get ByteArray.mk_append_mk
attribute [local go_sem ↓] Go.wp_at_zero Go.wp_at_succ

set_option maxRecDepth 100000 in
set_option maxHeartbeats 1000000 in
theorem law_TriePlays (w : World) (A0 : Option Addr) (c0 : Nat) (L0 : List Act10) (key : List UInt8) (HR0 : Reads w w.heap.size 3 A0 L0.length (acts L0)) (hk : key.length ≤ 9223372036854775807) (hT : Tbl w) :
    Calls Tryd.prog 4 #[.slice A0 L0.length c0, .string ⟨key.toArray⟩] w fun e w' => e = .returned (.bool true) ∧ Below w.heap.size w w' := by
  have HP : Hid (∀ w', Below w.heap.size w w' → (fun e w' => e = Ending.returned (.bool true) ∧ Below w.heap.size w w') (Ending.returned (.bool true)) w') := Lib.hid (fun W' a2 => ⟨rfl, a2⟩)
  generalize (fun e w' => e = Ending.returned (.bool true) ∧ Below w.heap.size w w') = P at HP ⊢
  have HTb := Lib.hid hT
  have HA := Lib.hid HR0
  clear hT HR0
  have HL0 : Hid (∀ W, Below w.heap.size w W → Calls Tryd.prog 29 #[.slice A0 L0.length c0, .int .i64 30] W fun e w' => e = .returned (.bool (longW L0 30)) ∧ Below W.heap.size W w') := Lib.hid (fun W hW => law10_long W A0 c0 L0 30 ((HA.out.below hW).more hW.size) (by omega))
  go_enter Tryd.func4, Tryd.ntmps4
  go_wp2_with fail
  refine (trie_New _).mono ?_
  rintro e w1 ⟨v0, rfl, hk1, hb1⟩
  have HB1 := Lib.hid hb1
  have HK1 := Lib.hid hk1
  obtain ⟨_, b1, x1, rfl, _⟩ := id hk1
  clear hb1 hk1
  go_wp2_with fail
  refine (HL0.out _ HB1.out).mono ?_
  rintro e w2 ⟨rfl, hb2⟩
  have HB2 := Lib.hid (HB1.out.nxt hb2)
  have HK2 := Lib.hid (HK1.out.next hb2)
  clear hb2 HK1
  cases hlo0 : longW L0 30 with
  | true =>
    go_wp2_with fail
    refine (law10_works _ (HTb.out.next HB2.out)).mono ?_
    rintro e w3 ⟨rfl, hb3⟩
    go_wp2_with fail
    exact HP.out _ (HB2.out.nxt hb3)
  | false =>
  by_cases hk100 : 100 < key.length
  · have hkI : (100 : Int) < key.length := by omega
    go_wp2_with fail
    refine (law10_works _ (HTb.out.next HB2.out)).mono ?_
    rintro e w3 ⟨rfl, hb3⟩
    go_wp2_with fail
    exact HP.out _ (HB2.out.nxt hb3)
  · have hkI : ((100 : Int) < key.length) = False := by simp; omega
    have hs0 : L0.any longA = false := by simp [longW] at hlo0 ⊢; exact hlo0.2
    have hl0 : L0.length ≤ 30 := by simp [longW] at hlo0; omega
    have HS := Lib.hid hs0
    have HL := Lib.hid hl0
    clear hlo0 hs0 hl0
    go_wp2_with fail
    refine plays_loop w A0 c0 L0 HA.out HL.out HS.out HTb.out key (by omega) w2 _ HK2.out HB2.out _ ?_ _ _ _ _ _ _ _ _ _ _ _ _ _ _ _ _ _ _ _ _ _ _ _ _ _ _ _ _ _ _ _ _ _ _ _ _ _ _ _ _ _ _ _ _ _ _ _ _ _ _ _ _ _ _ _ _ _ _ _ _ _ _ _ _ _ _ _ _ _ _ _ _ _ _ _ _ _ _ _ _ _ _ _ _ _ _ _ _ _ _ _ _ _ _ _ _ _ _ _ _ _ _ _ _ _ _ _ _ _ _ _ _ _ _ _ _ _ _
    intro s2 s3 s4 s5 s6 s7 s8 s9 s10 s11 s12 s13 s14 s15 s16 s17 s18 s19 s20 s21 s22 s23 s24 s25 s26 s27 s28 s29 s30 s31 s32 s33 s34 s35 s36 s37 s38 s39 s40 s41 s42 s43 s44 s45 s46 s47 s48 s49 s50 s51 s52 s53 s54 s55 s56 s57 s58 s59 s60 s61 s62 s63 s64 s65 s66 s67 s68 s69 s70 s71 s72 s73 s74 s75 s76 s77 s78 s79 s80 s81 s82 s83 s84 s85 s86 s87 s88 s89 s90 s91 s92 s93 s94 s95 s96 s97 s98 s99 s100 s101 s102 s103 s104 s105 s106 s107 s108 s109 s110 s111 s112 s113 s114 s115 s116 s117 s118 s119 s120 s121 s122 w3 hb3
    have HB3 := Lib.hid hb3
    clear hb3
    go_wp2_with fail
    refine (law10_works _ (HTb.out.next HB3.out)).mono ?_
    rintro e w4 ⟨rfl, hb4⟩
    go_wp2_with fail
    exact HP.out _ (HB3.out.nxt hb4)
end Go.Proofs.YtaplecncnkkigaaDoor
