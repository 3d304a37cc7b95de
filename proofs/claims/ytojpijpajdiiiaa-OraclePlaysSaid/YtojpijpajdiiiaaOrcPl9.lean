/- Layer 6's laws: OraclePlays, walked. No conditions. -/
import Derived.Test.YtojpijpajdiiiaaOrcPl8
namespace Go.Proofs.Ytojpijpajdiiiaa
set_option linter.unusedVariables false
open Go.RowKit Go.Instr
attribute [local go_sem] ba_get ByteArray.mk_append_mk add_zero_addr

set_option maxRecDepth 100000 in
set_option maxHeartbeats 1000000 in
theorem law_OraclePlays (w : World) (A : Option Addr) (c : Nat) (L : List Stp) (who mark : List UInt8) (HR : Reads w w.heap.size 4 A L.length (steps L)) (hL : L.length ≤ maxLen) :
    Calls Try.prog 5 #[.slice A L.length c, .string ⟨who.toArray⟩, .string ⟨mark.toArray⟩] w fun e w' => e = .returned (.bool true) ∧ Below w.heap.size w w' := by
  go_enter Try.func5, Try.ntmps5
  go_wp2_with fail
  refine (orc_New _).mono ?_
  rintro e w1 ⟨rfl, hT1, hb1, hs1⟩
  have HP := Lib.hid (show Pl w w1 w.heap.size (.slice none 0 0) (.slice none 0 0) [] [] from ⟨hT1, World.ownsRow_nil _ _ _ _, (fun k _ e => by cases e), Nat.le_refl _, hb1⟩)
  clear hT1 hs1 hb1
  go_wp2
  refine plays_loop w w1 A c L.length L rfl hL HR who mark w.heap.size (.slice none 0 0) (.slice none 0 0) HP.out _ ?_ _ _ _ _ _ _ _ _ _ _ _ _ _ _ _ _ _ _ _ _ _ _ _ _ _ _ _ _ _ _ _ _ _ _ _ _ _ _ _ _ _ _ _ _ _ _ _ _ _ _ _ _ _ _ _ _ _ _ _ _ _ _ _ _ _ _ _ _ _ _ _ _ _ _ _ _ _ _ _ _ _ _ _ _ _ _ _ _ _ _ _ _ _ _ _ _ _ _ _ _ _
  intro s1 s2 s3 s4 s5 s6 s7 s8 s9 s10 s11 s12 s13 s14 s15 s16 s17 s18 s19 s20 s21 s22 s23 s24 s25 s26 s27 s28 s29 s30 s31 s32 s33 s34 s35 s36 s37 s38 s39 s40 s41 s42 s43 s44 s45 s46 s47 s48 s49 s50 s51 s52 s53 s54 s55 s56 s57 s58 s59 s60 s61 s62 s63 s64 s65 s66 s67 s68 s69 s70 s71 s72 s73 s74 s75 s76 s77 s78 s79 s80 s81 s82 s83 s84 s85 s86 s87 s88 s89 s90 s91 s92 s93 s94 s95 s96 s97 s98 s99 s100 s101 s102 s103 s104 s105 s106 w2 hb2
  go_wp2_with fail
  refine (orc_works _).mono ?_
  rintro e w3 ⟨rfl, hb3⟩
  go_wp2
  go_ret
  exact ⟨rfl, hb2.trans (hb3.mono hb2.size)⟩
end Go.Proofs.Ytojpijpajdiiiaa
