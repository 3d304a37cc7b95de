/- Layer 6's laws: tells, walked. No conditions. -/
import Derived.Test.YtojpijpajdiiiaaOrcPl5
namespace Go.Proofs.Ytojpijpajdiiiaa
set_option linter.unusedVariables false
open Go.RowKit Go.Instr
attribute [local go_sem] ba_get ByteArray.mk_append_mk add_zero_addr

set_option maxRecDepth 100000 in
set_option maxHeartbeats 1000000 in
theorem orc_tells (w : World) (mb : Nat) (v : Value) (l M : List Sg) (hT : Tab w mb v l) (hS : Sim l M) (hl : l.length ≤ 1000) (ba : Nat) (va : Value) (owna : w.ownsRow ba 37 3 va M.length (srows M)) (who mark : List UInt8) :
    Calls Try.prog 16 #[.pointer (some ⟨mb + 1, 0, none⟩), va, .string ⟨who.toArray⟩, .string ⟨mark.toArray⟩] w fun e w' => e = .returned (.bool true) ∧ Below w.heap.size w w' := by
  obtain ⟨Aa, ca, rfl, _, _, _⟩ := own_form owna
  obtain ⟨n, hn⟩ : ∃ n, M.length = n := ⟨_, rfl⟩
  have hln : l.length = n := hS.perm.length_eq.trans hn
  have hAll := orc_All w mb v l hT (by omega)
  unfold AllEnd at hAll
  rw [hn] at owna ⊢
  rw [hln] at hAll
  have K0 := Lib.hid (And.intro hT (And.intro hS (And.intro owna (And.intro hn hln))))
  clear hT hS owna hn hln
  go_enter Try.func16, Try.ntmps16
  go_wp2_with fail
  refine hAll.mono ?_
  rintro e w1 ⟨A1, c1, l1, rfl, own1, p1, s1, hb1⟩
  have e1 : l1 = M := K0.out.2.1.all p1 s1
  subst e1
  have K1 := Lib.hid (And.intro own1 hb1)
  clear hAll own1 p1 s1 hb1
  go_wp2_with fail
  refine (orc_Signed w1 mb v l (K0.out.1.below K1.out.2) who mark).mono ?_
  rintro e w2 ⟨rfl, hb2⟩
  rw [K0.out.2.1.signed who mark]
  have K2 := Lib.hid (K1.out.2.nxt hb2)
  have J2 := Lib.hid hb2
  clear hb2
  go_wp2_with fail
  refine (ref_Signed w2 ba _ l1 (by rw [K0.out.2.2.2.1]; exact own_below K0.out.2.2.1 K2.out) (by have := K0.out.2.2.2.1; have := K0.out.2.2.2.2; omega) who mark).mono ?_
  rintro e w3 ⟨rfl, hb3⟩
  generalize (atD who mark l1).2 = b at *
  have K3 := Lib.hid (K2.out.nxt hb3)
  have J3 := Lib.hid (J2.out.nxt hb3)
  clear hb3 K2 J2
  go_wp2_with fail
  refine (orc_Honest w3 mb v l (K0.out.1.below K3.out) (by omega) who).mono ?_
  rintro e w4 ⟨rfl, hb4⟩
  rw [K0.out.2.1.honest who]
  have K4 := Lib.hid (K3.out.nxt hb4)
  have J4 := Lib.hid (J3.out.nxt hb4)
  clear hb4 K3 J3
  go_wp2_with fail
  refine (ref_Honest w4 ba _ l1 (by rw [K0.out.2.2.2.1]; exact own_below K0.out.2.2.1 K4.out) (by have := K0.out.2.2.2.1; have := K0.out.2.2.2.2; omega) who).mono ?_
  rintro e w5 ⟨rfl, hb5⟩
  generalize honest l1 who = b' at *
  have K5 := Lib.hid (K4.out.nxt hb5)
  have J5 := Lib.hid (J4.out.nxt hb5)
  clear hb5 K4 J4
  go_wp2
  refine tells_loop w5 Aa A1 ca c1 n ba w.heap.size w.heap.size l1 (by have := K0.out.2.2.2.2; omega) (own_below K0.out.2.2.1 K5.out) (fun k e => (K0.out.2.2.1.lt k e).2) (own_below K1.out.1 J5.out) (Nat.le_refl _) K5.out.size _ ?_ _ _ _ _ _ _ _ _ _ _ _ _ _ _ _ _ _ _ _ _ _ _ _ _ _ _ _ _ _ _ _ _ _ _ _ _ _ _ _ _ _ _ _ _ _ _ _ _ _ _ _ _ _ _
  intro s0 s2 s3 s4 s5 s6 s7 s8 s11 s12 s13 s14 s15 s16 s17 s18 s19 s20 s21 s22 s23 s24 s25 s26 s27 s28 s29 s30 s31 s32 s33 s34 s35 s36 s37 s38 s39 s40 s41 s42 s43 s44 s45 s46 s47 s48 s49 s50 s51 s52 s53 s54 s55 s56 w6 hb6
  go_wp2
  go_ret
  exact ⟨rfl, K5.out.trans hb6⟩
end Go.Proofs.Ytojpijpajdiiiaa
