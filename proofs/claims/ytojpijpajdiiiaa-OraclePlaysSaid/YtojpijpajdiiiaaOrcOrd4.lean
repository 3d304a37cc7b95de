/- Layer 6's laws: OracleOrder, walked. No conditions. -/
import Derived.Test.YtojpijpajdiiiaaOrcOrd3
import Derived.Test.YtojpijpajdiiiaaOrcSet
namespace Go.Proofs.Ytojpijpajdiiiaa
set_option linter.unusedVariables false
open Go.RowKit Go.Instr
attribute [local go_sem] ba_get ByteArray.mk_append_mk

theorem steps_take (L : List Stp) (m : Nat) : steps (L.take m) = (steps L).take (m * 4) := by
  induction L generalizing m with
  | nil => simp [steps]
  | cons s L ih =>
    cases m with
    | zero => simp [steps]
    | succ m =>
      rw [List.take_succ_cons, show steps (s :: L.take m) = stepv s ++ steps (L.take m) from rfl, show steps (s :: L) = stepv s ++ steps L from rfl, ih]
      rw [List.take_append, show (stepv s).length = 4 from rfl, List.take_of_length_le (show (stepv s).length ≤ (m + 1) * 4 by show 4 ≤ _; omega), show (m + 1) * 4 - 4 = m * 4 by omega]
theorem Reads.take {w : World} {B : Nat} {A : Option Addr} {n : Nat} {L : List Stp} (h : Reads w B 4 A n (steps L)) (m : Nat) (hm : m ≤ n) (hL : L.length = n) : Reads w B 4 A m (steps (L.take m)) := by
  refine ⟨by rw [steps_length, List.length_take]; omega, fun h0 => ?_⟩
  obtain ⟨ad, e, hb, hc⟩ := h.2 (by omega)
  refine ⟨ad, e, hb, fun j u hu => hc j u ?_⟩
  rw [steps_take] at hu
  have hj : j < m * 4 := by
    have := (List.getElem?_eq_some_iff.1 hu).1
    rw [List.length_take] at this
    omega
  rwa [List.getElem?_take_of_lt hj] at hu

theorem Tab.under {B : Nat} {w w1 : World} {mb : Nat} {v : Value} {l : List Sg} (hT : Tab w mb v l) (hX : ∀ k, TabX mb v k → k < B) (hb : Below B w w1) : Tab w1 mb v l where
  blk := hT.blk.below hb (hX _ (.inr (.inl rfl)))
  map := hT.map.kept (hb.block _ (hX _ (.inl rfl)))
  own := own_keep hT.own fun k e => hb.block _ (hX _ (.inr (.inr e)))
theorem TabX.lt {w : World} {mb : Nat} {v : Value} {l : List Sg} (hT : Tab w mb v l) : ∀ k, TabX mb v k → k < w.heap.size := by
  have := hT.blk.lt
  rintro k (rfl | rfl | h)
  · omega
  · exact this
  · exact (hT.own.lt k h).2

theorem orc_fill_n (w : World) (A : Option Addr) (c n : Nat) (M : List Stp) (hn : M.length = n) (HR : Reads w w.heap.size 4 A M.length (steps M)) (h40 : M.length ≤ 40) :
    Calls Try.prog 8 #[.slice A n c] w fun e w' => e = .returned (.pointer (some ⟨w.heap.size + 1, 0, none⟩)) ∧ (∃ v, Tab w' w.heap.size v (signs [] M)) ∧ Below w.heap.size w w' := by
  subst hn
  have := orc_fill w A c M HR (by simp only [maxLen]; omega)
  rwa [List.take_of_length_le h40] at this

set_option maxRecDepth 100000 in
set_option maxHeartbeats 1000000 in
theorem law_OracleOrder (w : World) (A : Option Addr) (c : Nat) (L : List Stp) (HR : Reads w w.heap.size 4 A L.length (steps L)) (hL : L.length ≤ maxLen) (hc : L.length ≤ c) :
    Calls Try.prog 4 #[.slice A L.length c] w fun e w' => e = .returned (.bool true) ∧ Below w.heap.size w w' := by
  simp only [maxLen] at hL
  by_cases h : 40 < L.length
  · have hi : (40 : Int) < L.length := by omega
    have hc2 : (40 : Int) ≤ c := by omega
    have hc3 : 40 ≤ c := by omega
    have HM0 : Reads w w.heap.size 4 A 40 (steps (L.take 40)) := HR.take 40 (by omega) rfl
    obtain ⟨M, hM⟩ : ∃ M, M = L.take 40 := ⟨_, rfl⟩
    have hn : M.length = 40 := by rw [hM, List.length_take]; omega
    rw [← hM] at HM0
    have HM : Reads w w.heap.size 4 A M.length (steps M) := by rw [hn]; exact HM0
    have h40 : M.length ≤ 40 := by omega
    have HN := Lib.hid hn
    clear hM HM0 HR h hn
    go_enter Try.func4, Try.ntmps4
    go_wp2_with fail
    refine (orc_works _).mono ?_
    rintro e w1 ⟨rfl, hb1⟩
    go_wp2_with fail
    refine (orc_fill_n _ A c _ M (by first | exact HN.out | rfl) ((HM.below hb1).more hb1.size) h40).mono ?_
    rintro e w2 ⟨rfl, ⟨va, hTa⟩, hb2⟩
    have HB := hb1.nxt hb2
    generalize hm : w1.heap.size = ma at *
    go_wp2_with fail
    refine (orc_New _).mono ?_
    rintro e w3 ⟨rfl, hTb, hb3, hs3⟩
    generalize hm2 : w2.heap.size = mb at *
    have hlt := TabX.lt hTa
    have hmb : w.heap.size ≤ mb := by rw [← hm2]; exact HB.size
    have HB3 : Below w.heap.size w w3 := HB.trans (hb3.mono hmb)
    have K0 := Lib.hid (And.intro hTa (And.intro hTb (And.intro hb3 (And.intro hs3 (And.intro hmb (And.intro HB3 (And.intro hlt hm2)))))))
    clear hTa hTb hb3 hs3 hm hm2 hb1 hb2 HB HB3 hlt hmb
    go_wp2_with fail
    refine ord_out w w3 A c M _ (by first | exact HN.out | rfl) HM (by simp only [maxLen]; omega) h40 _ mb _ K0.out.2.1 K0.out.2.2.2.2.1 K0.out.2.2.2.2.2.1 _ ?_ _ _ _ _ _ _ _ _ _ _ _ _ _ _ _ _ _ _ _ _ _ _ _ _ _ _ _ _ _ _ _ _ _ _ _ _ _ _ _ _ _ _ _ _ _ _ _ _ _ _ _ _ _ _ _ _ _ _ _ _ _ _ _ _ _ _ _ _ _ _ _ _ _ _ _ _ _ _ _ _ _ _ _ _ _ _ _ _ _ _ _ _ _ _ _ _ _ _ _ _ _ _ _ _ _ _ _ _ _ _ _ _
    intro s1 s2 s5 s6 s7 s8 s9 s10 s11 s12 s13 s14 s15 s16 s17 s18 s19 s20 s21 s22 s23 s24 s25 s26 s27 s28 s29 s30 s31 s32 s33 s34 s35 s36 s37 s38 s39 s40 s41 s42 s43 s44 s45 s46 s47 s48 s49 s50 s51 s52 s53 s54 s55 s56 s57 s58 s59 s60 s61 s62 s63 s64 s65 s66 s67 s68 s69 s70 s71 s72 s73 s74 s75 s76 s77 s78 s79 s80 s81 s82 s83 s84 s85 s86 s87 s88 s89 s90 s91 s92 s93 s94 s95 s96 s97 s98 s99 s100 s101 s102 s103 s104 s105 s106 s107 s108 s109 s110 s111 s112 s113 s114 s115 v4 w4 hT4 hb4
    have hlm : (signs [] (M.reverse ++ M.reverse)).length ≤ 2000 := by
      have := signs_length [] (M.reverse ++ M.reverse)
      simp at this
      omega
    have hla : (signs [] M).length ≤ 2000 := by
      have := signs_length [] M
      simp at this
      omega
    have hTa4 : Tab w4 ma va (signs [] M) := (K0.out.1.under (B := mb) (by have := K0.out; obtain ⟨_, _, _, _, _, _, h, e⟩ := this; rw [e] at h; exact h) (K0.out.2.2.1.trans hb4))
    have HB4 : Below w.heap.size w w4 := K0.out.2.2.2.2.2.1.trans (hb4.mono K0.out.2.2.2.2.1)
    have K1 := Lib.hid (And.intro hT4 (And.intro hTa4 (And.intro HB4 (And.intro hlm hla))))
    clear hT4 hb4 hlm hla hTa4 HB4 K0
    go_wp2_with fail
    refine (orc_All w4 ma va _ K1.out.2.1 K1.out.2.2.2.2).mono ?_
    rintro e w5 ⟨Ax, cx, lx, rfl, ownx, px, sx, hb5⟩
    have hTb5 := K1.out.1.below hb5
    have HB5 := K1.out.2.2.1.nxt hb5
    have K2 := Lib.hid (And.intro hTb5 HB5)
    have KX := Lib.hid (And.intro ownx (And.intro px sx))
    have hpx := px.length_eq
    have e1 : lx = lx := rfl
    clear ownx px sx hb5 hTb5 HB5
    go_wp2_with fail
    refine (orc_All w5 mb v4 _ K2.out.1 K1.out.2.2.2.1).mono ?_
    rintro e w6 ⟨Ay, cy, ly, rfl, owny, py, sy, hb6⟩
    have hxy : lx = ly := srt_unique (kn_signs M [] (by simp [Kn])) (kn_signs (M.reverse ++ M.reverse) [] (by simp [Kn])) (fun k => by rw [flag_says k M (by omega), flag_says k (M.reverse ++ M.reverse) (by simp; omega), says_turned]) KX.out.2.1 py KX.out.2.2 sy
    have hst := srt_strict (kn_signs M [] (by simp [Kn])) KX.out.2.1 KX.out.2.2
    have hpy := py.length_eq
    rw [← hxy] at hpy owny
    rw [← hpx, ← hpy]
    have ox := own_below KX.out.1 hb6
    have HB6 := K2.out.2.nxt hb6
    rw [← hpx] at ox
    rw [← hpy] at owny
    have hx2 : lx.length ≤ 2000 := by rw [hpx]; exact K1.out.2.2.2.2
    have K3 := Lib.hid (And.intro ox (And.intro owny (And.intro hst (And.intro HB6 hx2))))
    clear ox owny hst HB6 hb6 py sy hpx hpy hxy hx2 e1 K1 K2 KX
    go_wp2
    refine ord_cmp w6 Ax Ay cx cy _ _ _ lx K3.out.2.2.2.2 K3.out.1 K3.out.2.1 K3.out.2.2.1 _ ?_ _ _ _ _ _ _ _ _ _ _ _ _ _ _ _ _ _ _ _ _ _ _ _ _ _ _ _ _ _ _ _ _ _ _ _ _ _ _ _ _ _ _ _ _ _ _ _ _ _ _ _ _ _ _ _ _ _ _ _ _ _ _ _ _ _ _ _ _ _ _ _ _ _ _ _ _ _ _ _ _ _ _ _ _ _ _ _ _ _ _ _ _ _ _ _ _ _ _ _ _ _ _ _ _ _ _ _ _ _ _ _ _
    intro s0 s1 s2 s3 s4 s5 s8 s9 s10 s11 s12 s13 s14 s15 s16 s17 s18 s19 s20 s21 s22 s23 s24 s25 s26 s27 s28 s29 s30 s31 s32 s33 s34 s35 s36 s37 s38 s39 s40 s41 s42 s43 s44 s45 s46 s47 s48 s49 s50 s51 s52 s53 s54 s55 s57 s58 s59 s60 s61 s62 s63 s64 s65 s66 s67 s68 s69 s70 s71 s72 s73 s74 s75 s76 s77 s78 s79 s80 s81 s82 s83 s84 s85 s86 s87 s88 s89 s90 s91 s92 s93 s94 s95 s96 s97 s98 s99 s100 s101 s102 s103 s104 s105 s106 s107 s108 s109 s110 s111 s112 s113 s114 s115 m
    go_wp2
    go_ret
    exact ⟨rfl, have h := K3.out.2.2.2.1; ⟨h.os, h.tape, h.output, h.size, h.block⟩⟩
  · have hi : ((40 : Int) < L.length) = False := by simp; omega
    have HM := HR
    have h40 : L.length ≤ 40 := by omega
    obtain ⟨M, rfl⟩ : ∃ M, M = L := ⟨_, rfl⟩
    clear h HR
    go_enter Try.func4, Try.ntmps4
    go_wp2_with fail
    refine (orc_works _).mono ?_
    rintro e w1 ⟨rfl, hb1⟩
    go_wp2_with fail
    have HN : Hid (M.length = M.length) := Lib.hid rfl
    refine (orc_fill_n _ A c _ M (by first | exact HN.out | rfl) ((HM.below hb1).more hb1.size) h40).mono ?_
    rintro e w2 ⟨rfl, ⟨va, hTa⟩, hb2⟩
    have HB := hb1.nxt hb2
    generalize hm : w1.heap.size = ma at *
    go_wp2_with fail
    refine (orc_New _).mono ?_
    rintro e w3 ⟨rfl, hTb, hb3, hs3⟩
    generalize hm2 : w2.heap.size = mb at *
    have hlt := TabX.lt hTa
    have hmb : w.heap.size ≤ mb := by rw [← hm2]; exact HB.size
    have HB3 : Below w.heap.size w w3 := HB.trans (hb3.mono hmb)
    have K0 := Lib.hid (And.intro hTa (And.intro hTb (And.intro hb3 (And.intro hs3 (And.intro hmb (And.intro HB3 (And.intro hlt hm2)))))))
    clear hTa hTb hb3 hs3 hm hm2 hb1 hb2 HB HB3 hlt hmb
    go_wp2_with fail
    refine ord_out w w3 A c M _ (by first | exact HN.out | rfl) HM (by simp only [maxLen]; omega) h40 _ mb _ K0.out.2.1 K0.out.2.2.2.2.1 K0.out.2.2.2.2.2.1 _ ?_ _ _ _ _ _ _ _ _ _ _ _ _ _ _ _ _ _ _ _ _ _ _ _ _ _ _ _ _ _ _ _ _ _ _ _ _ _ _ _ _ _ _ _ _ _ _ _ _ _ _ _ _ _ _ _ _ _ _ _ _ _ _ _ _ _ _ _ _ _ _ _ _ _ _ _ _ _ _ _ _ _ _ _ _ _ _ _ _ _ _ _ _ _ _ _ _ _ _ _ _ _ _ _ _ _ _ _ _ _ _ _ _
    intro s1 s2 s5 s6 s7 s8 s9 s10 s11 s12 s13 s14 s15 s16 s17 s18 s19 s20 s21 s22 s23 s24 s25 s26 s27 s28 s29 s30 s31 s32 s33 s34 s35 s36 s37 s38 s39 s40 s41 s42 s43 s44 s45 s46 s47 s48 s49 s50 s51 s52 s53 s54 s55 s56 s57 s58 s59 s60 s61 s62 s63 s64 s65 s66 s67 s68 s69 s70 s71 s72 s73 s74 s75 s76 s77 s78 s79 s80 s81 s82 s83 s84 s85 s86 s87 s88 s89 s90 s91 s92 s93 s94 s95 s96 s97 s98 s99 s100 s101 s102 s103 s104 s105 s106 s107 s108 s109 s110 s111 s112 s113 s114 s115 v4 w4 hT4 hb4
    have hlm : (signs [] (M.reverse ++ M.reverse)).length ≤ 2000 := by
      have := signs_length [] (M.reverse ++ M.reverse)
      simp at this
      omega
    have hla : (signs [] M).length ≤ 2000 := by
      have := signs_length [] M
      simp at this
      omega
    have hTa4 : Tab w4 ma va (signs [] M) := (K0.out.1.under (B := mb) (by have := K0.out; obtain ⟨_, _, _, _, _, _, h, e⟩ := this; rw [e] at h; exact h) (K0.out.2.2.1.trans hb4))
    have HB4 : Below w.heap.size w w4 := K0.out.2.2.2.2.2.1.trans (hb4.mono K0.out.2.2.2.2.1)
    have K1 := Lib.hid (And.intro hT4 (And.intro hTa4 (And.intro HB4 (And.intro hlm hla))))
    clear hT4 hb4 hlm hla hTa4 HB4 K0
    go_wp2_with fail
    refine (orc_All w4 ma va _ K1.out.2.1 K1.out.2.2.2.2).mono ?_
    rintro e w5 ⟨Ax, cx, lx, rfl, ownx, px, sx, hb5⟩
    have hTb5 := K1.out.1.below hb5
    have HB5 := K1.out.2.2.1.nxt hb5
    have K2 := Lib.hid (And.intro hTb5 HB5)
    have KX := Lib.hid (And.intro ownx (And.intro px sx))
    have hpx := px.length_eq
    have e1 : lx = lx := rfl
    clear ownx px sx hb5 hTb5 HB5
    go_wp2_with fail
    refine (orc_All w5 mb v4 _ K2.out.1 K1.out.2.2.2.1).mono ?_
    rintro e w6 ⟨Ay, cy, ly, rfl, owny, py, sy, hb6⟩
    have hxy : lx = ly := srt_unique (kn_signs M [] (by simp [Kn])) (kn_signs (M.reverse ++ M.reverse) [] (by simp [Kn])) (fun k => by rw [flag_says k M (by omega), flag_says k (M.reverse ++ M.reverse) (by simp; omega), says_turned]) KX.out.2.1 py KX.out.2.2 sy
    have hst := srt_strict (kn_signs M [] (by simp [Kn])) KX.out.2.1 KX.out.2.2
    have hpy := py.length_eq
    rw [← hxy] at hpy owny
    rw [← hpx, ← hpy]
    have ox := own_below KX.out.1 hb6
    have HB6 := K2.out.2.nxt hb6
    rw [← hpx] at ox
    rw [← hpy] at owny
    have hx2 : lx.length ≤ 2000 := by rw [hpx]; exact K1.out.2.2.2.2
    have K3 := Lib.hid (And.intro ox (And.intro owny (And.intro hst (And.intro HB6 hx2))))
    clear ox owny hst HB6 hb6 py sy hpx hpy hxy hx2 e1 K1 K2 KX
    go_wp2
    refine ord_cmp w6 Ax Ay cx cy _ _ _ lx K3.out.2.2.2.2 K3.out.1 K3.out.2.1 K3.out.2.2.1 _ ?_ _ _ _ _ _ _ _ _ _ _ _ _ _ _ _ _ _ _ _ _ _ _ _ _ _ _ _ _ _ _ _ _ _ _ _ _ _ _ _ _ _ _ _ _ _ _ _ _ _ _ _ _ _ _ _ _ _ _ _ _ _ _ _ _ _ _ _ _ _ _ _ _ _ _ _ _ _ _ _ _ _ _ _ _ _ _ _ _ _ _ _ _ _ _ _ _ _ _ _ _ _ _ _ _ _ _ _ _ _ _ _ _
    intro s0 s1 s2 s3 s4 s5 s8 s9 s10 s11 s12 s13 s14 s15 s16 s17 s18 s19 s20 s21 s22 s23 s24 s25 s26 s27 s28 s29 s30 s31 s32 s33 s34 s35 s36 s37 s38 s39 s40 s41 s42 s43 s44 s45 s46 s47 s48 s49 s50 s51 s52 s53 s54 s55 s57 s58 s59 s60 s61 s62 s63 s64 s65 s66 s67 s68 s69 s70 s71 s72 s73 s74 s75 s76 s77 s78 s79 s80 s81 s82 s83 s84 s85 s86 s87 s88 s89 s90 s91 s92 s93 s94 s95 s96 s97 s98 s99 s100 s101 s102 s103 s104 s105 s106 s107 s108 s109 s110 s111 s112 s113 s114 s115 m
    go_wp2
    go_ret
    exact ⟨rfl, have h := K3.out.2.2.2.1; ⟨h.os, h.tape, h.output, h.size, h.block⟩⟩
end Go.Proofs.Ytojpijpajdiiiaa
