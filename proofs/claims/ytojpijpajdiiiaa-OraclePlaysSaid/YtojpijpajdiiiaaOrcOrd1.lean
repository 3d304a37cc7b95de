/- Layer 6's laws: OracleOrder, its inner loop. No conditions. -/
import Derived.Test.YtojpijpajdiiiaaOrcFill
import Derived.Test.YtojpijpajdiiiaaLoops
namespace Go.Proofs.Ytojpijpajdiiiaa
set_option linter.unusedVariables false
open Go.RowKit Go.Instr
attribute [local go_sem] ba_get ByteArray.mk_append_mk

set_option maxRecDepth 100000 in
theorem ord_in (w w0 : World) (A : Option Addr) (c : Nat) (L : List Stp) (n : Nat) (hn : L.length = n) (HR : Reads w w.heap.size 4 A L.length (steps L)) (hL : L.length ≤ maxLen) (h40 : L.length ≤ 40)
    (p3 : Value) (mb : Nat) (vb : Value) (l : List Sg) (r : Nat) (hl : l.length ≤ 200) (hT : Tab w0 mb vb l) (hmb : w.heap.size ≤ mb) (hb : Below w.heap.size w w0)
    (Q : Exit → Act → World → Prop)
    (hQ : ∀ (s1 s2 s5 s6 s7 s8 s9 s10 s11 s12 s13 s14 s15 s16 s17 s18 s20 s21 s22 s23 s24 s25 s26 s27 s28 s29 s30 s31 s32 s33 s34 s35 s36 s37 s38 s39 s40 s41 s42 s43 s44 s45 s46 s47 s48 s49 s50 s51 s52 s53 s54 s55 s56 s57 s58 s59 s60 s61 s62 s63 s64 s65 s66 s67 s68 s69 s70 s71 s72 s73 s74 s75 s76 s77 s78 s79 s80 s81 s82 s83 s84 s85 s86 s87 s88 s89 s90 s91 s92 s93 s94 s95 s96 s97 s98 s99 s100 s101 s102 s103 s104 s105 s106 s107 s108 s109 s110 s111 s112 s113 s114 s115 : Value) (v2 : Value) (w2 : World), Tab w2 mb v2 (signs l L.reverse) → Below mb w0 w2 → Q (.exit 2) { tmps := #[.slice A n c, s1, s2, p3, .pointer (some ⟨mb + 1, 0, none⟩), s5, s6, s7, s8, s9, s10, s11, s12, s13, s14, s15, s16, s17, s18, .int .i64 r, s20, s21, s22, s23, s24, s25, s26, s27, s28, s29, s30, s31, s32, s33, s34, s35, s36, s37, s38, s39, s40, s41, s42, s43, s44, s45, s46, s47, s48, s49, s50, s51, s52, s53, s54, s55, s56, s57, s58, s59, s60, s61, s62, s63, s64, s65, s66, s67, s68, s69, s70, s71, s72, s73, s74, s75, s76, s77, s78, s79, s80, s81, s82, s83, s84, s85, s86, s87, s88, s89, s90, s91, s92, s93, s94, s95, s96, s97, s98, s99, s100, s101, s102, s103, s104, s105, s106, s107, s108, s109, s110, s111, s112, s113, s114, s115], defers := [] } w2)
    (s1 s2 s6 s7 s8 s9 s10 s11 s12 s13 s14 s15 s16 s17 s18 s20 s21 s22 s23 s24 s25 s26 s27 s28 s29 s30 s31 s32 s33 s34 s35 s36 s37 s38 s39 s40 s41 s42 s43 s44 s45 s46 s47 s48 s49 s50 s51 s52 s53 s54 s55 s56 s57 s58 s59 s60 s61 s62 s63 s64 s65 s66 s67 s68 s69 s70 s71 s72 s73 s74 s75 s76 s77 s78 s79 s80 s81 s82 s83 s84 s85 s86 s87 s88 s89 s90 s91 s92 s93 s94 s95 s96 s97 s98 s99 s100 s101 s102 s103 s104 s105 s106 s107 s108 s109 s110 s111 s112 s113 s114 s115 : Value) :
    Code.wp Try.prog (.loop (loopAt Try.f4 1)) Q { tmps := #[.slice A n c, s1, s2, p3, .pointer (some ⟨mb + 1, 0, none⟩), .int .i64 ((n : Int) - 1), s6, s7, s8, s9, s10, s11, s12, s13, s14, s15, s16, s17, s18, .int .i64 r, s20, s21, s22, s23, s24, s25, s26, s27, s28, s29, s30, s31, s32, s33, s34, s35, s36, s37, s38, s39, s40, s41, s42, s43, s44, s45, s46, s47, s48, s49, s50, s51, s52, s53, s54, s55, s56, s57, s58, s59, s60, s61, s62, s63, s64, s65, s66, s67, s68, s69, s70, s71, s72, s73, s74, s75, s76, s77, s78, s79, s80, s81, s82, s83, s84, s85, s86, s87, s88, s89, s90, s91, s92, s93, s94, s95, s96, s97, s98, s99, s100, s101, s102, s103, s104, s105, s106, s107, s108, s109, s110, s111, s112, s113, s114, s115], defers := [] } w0 := by
  simp only [maxLen] at hL
  subst hn
  have HQ := Lib.hid hQ
  clear hQ
  refine wp_loop_ghost_k (fun k a wr => ∀ Φ : Act → Prop, (∀ (s1 s2 s6 s7 s8 s9 s10 s11 s12 s13 s14 s15 s16 s17 s18 s20 s21 s22 s23 s24 s25 s26 s27 s28 s29 s30 s31 s32 s33 s34 s35 s36 s37 s38 s39 s40 s41 s42 s43 s44 s45 s46 s47 s48 s49 s50 s51 s52 s53 s54 s55 s56 s57 s58 s59 s60 s61 s62 s63 s64 s65 s66 s67 s68 s69 s70 s71 s72 s73 s74 s75 s76 s77 s78 s79 s80 s81 s82 s83 s84 s85 s86 s87 s88 s89 s90 s91 s92 s93 s94 s95 s96 s97 s98 s99 s100 s101 s102 s103 s104 s105 s106 s107 s108 s109 s110 s111 s112 s113 s114 s115 : Value) (i : Int) (j : Nat) (v1 : Value), (j + k = L.length ∧ i = (L.length : Int) - 1 - j ∧ Tab wr mb v1 (signs l (L.reverse.take j)) ∧ Below mb w0 wr) → Φ { tmps := #[.slice A L.length c, s1, s2, p3, .pointer (some ⟨mb + 1, 0, none⟩), .int .i64 i, s6, s7, s8, s9, s10, s11, s12, s13, s14, s15, s16, s17, s18, .int .i64 r, s20, s21, s22, s23, s24, s25, s26, s27, s28, s29, s30, s31, s32, s33, s34, s35, s36, s37, s38, s39, s40, s41, s42, s43, s44, s45, s46, s47, s48, s49, s50, s51, s52, s53, s54, s55, s56, s57, s58, s59, s60, s61, s62, s63, s64, s65, s66, s67, s68, s69, s70, s71, s72, s73, s74, s75, s76, s77, s78, s79, s80, s81, s82, s83, s84, s85, s86, s87, s88, s89, s90, s91, s92, s93, s94, s95, s96, s97, s98, s99, s100, s101, s102, s103, s104, s105, s106, s107, s108, s109, s110, s111, s112, s113, s114, s115], defers := [] }) → Φ a) (L.length) ?_ ?_
  · refine fun Φ hΦ => hΦ _ _ _ _ _ _ _ _ _ _ _ _ _ _ _ _ _ _ _ _ _ _ _ _ _ _ _ _ _ _ _ _ _ _ _ _ _ _ _ _ _ _ _ _ _ _ _ _ _ _ _ _ _ _ _ _ _ _ _ _ _ _ _ _ _ _ _ _ _ _ _ _ _ _ _ _ _ _ _ _ _ _ _ _ _ _ _ _ _ _ _ _ _ _ _ _ _ _ _ _ _ _ _ _ _ _ _ _ _ _ _ ((L.length : Int) - 1) (0) (vb) ?_
    exact ⟨by omega, by omega, hT, Below.refl _ _⟩
  · intro k1 a1 wr1 hI1 J1 K1 hJ1 hK1
    refine hI1 (fun a => Code.wp _ _ _ a _) ?_
    clear hI1 a1
    intro s0 s1 s2 s3 s4 s5 s6 s7 s8 s9 s10 s11 s12 s13 s14 s15 s16 s17 s18 s19 s20 s21 s22 s23 s24 s25 s26 s27 s28 s29 s30 s31 s32 s33 s34 s35 s36 s37 s38 s39 s40 s41 s42 s43 s44 s45 s46 s47 s48 s49 s50 s51 s52 s53 s54 s55 s56 s57 s58 s59 s60 s61 s62 s63 s64 s65 s66 s67 s68 s69 s70 s71 s72 s73 s74 s75 s76 s77 s78 s79 s80 s81 s82 s83 s84 s85 s86 s87 s88 s89 s90 s91 s92 s93 s94 s95 s96 s97 s98 s99 s100 s101 s102 s103 s104 s105 s106 s107 s108 s109 s110 i j v1 hrel
    show Code.wp _ _ _ _ _
    conv => arg 2; whnf
    obtain ⟨g1, g2, gT, gb⟩ := hrel
    by_cases hj : j < L.length
    · obtain ⟨p, rfl⟩ : ∃ p : Nat, i = (p : Int) := ⟨L.length - 1 - j, by omega⟩
      have hp : p < L.length := by omega
      obtain ⟨ad, rfl, hbl, hcell⟩ := HR.2 (by omega)
      have hx : L[p]? = some L[p] := List.getElem?_eq_getElem hp
      have hbl' : (ad.add (p * 4)).block < w.heap.size := by rw [block_of_add]; exact hbl
      have hbW : Below w.heap.size w wr1 := hb.trans (gb.mono hmb)
      have cell : ∀ j u, (stepv L[p])[j]? = some u → j < 4 → w.cell? (ad.add (p * 4 + j)) = some u := fun j u hu hj => hcell _ _ (by rw [steps_at L p j _ hx hj, hu])
      have q0 := cell 0 _ rfl (by omega)
      have q1 := cell 1 _ rfl (by omega)
      have q2 := cell 2 _ rfl (by omega)
      rw [Nat.add_zero] at q0
      rw [add_field _ _ _ (by omega)] at q1 q2
      have i0 : (0 : Int) ≤ (p : Int) := by omega
      have i1 : (p : Int) < (L.length : Int) := by omega
      have hsn : Hid (signs l (L.reverse.take (j + 1)) = (sign (signs l (L.reverse.take j)) L[p].who L[p].mark L[p].h).1) := Lib.hid (by
        have hlr : j < L.reverse.length := by rw [List.length_reverse]; exact hj
        have e : L.reverse[j] = L[p] := by
          rw [List.getElem_reverse]
          congr 1
          omega
        rw [List.take_succ_eq_append_getElem hlr, signs_snoc, e])
      have hlen' : Hid ((signs l (L.reverse.take j)).length ≤ 1000) := Lib.hid (by
        have l1 := signs_length l (L.reverse.take j)
        rw [List.length_take, List.length_reverse] at l1
        omega)
      have gT2 := Lib.hid gT
      have HBB : Hid (∀ W w2', Below wr1.heap.size wr1 W → Kept (TabX mb v1) W w2' → Below mb w0 w2') := Lib.hid (fun W w2' g1 g2 => by
        have hmw := gT2.out.map.lt
        exact gb.trans ((g1.mono (by omega)).trans (g2.below (by have := g1.size; omega) (TabX.ge gT2.out))))
      have HB := Lib.hid hb
      have c0 := hbW.cell hbl'
      have c1 := hbW.cell (p := ⟨(ad.add (p * 4)).block, (ad.add (p * 4)).off + 1, none⟩) hbl'
      have c2 := hbW.cell (p := ⟨(ad.add (p * 4)).block, (ad.add (p * 4)).off + 2, none⟩) hbl'
      rw [q0] at c0
      rw [q1] at c1
      rw [q2] at c2
      have G1 := Lib.hid g1
      have G2 := Lib.hid g2
      clear cell hcell hx HR gT g1 g2 gb hT hb hbW
      generalize L[p] = x at *
      go_wp2
      go_region_held3 (fun w' => w'.cell? (ad.add (p * 4)) = some (.string ⟨x.who.toArray⟩) ∧ w'.cell? ⟨(ad.add (p * 4)).block, (ad.add (p * 4)).off + 1, none⟩ = some (.string ⟨x.mark.toArray⟩) ∧ w'.cell? ⟨(ad.add (p * 4)).block, (ad.add (p * 4)).off + 2, none⟩ = some (.bool x.h)) (first | go_keep | (refine ⟨?_, ?_, ?_⟩ <;> assumption)) (first | (go_at_call 12; have hW : Below wr1.heap.size wr1 wr1.drew := (Below.refl _ _).drew; refine (orc_Sign _ mb v1 _ (gT2.out.below hW) hlen'.out x.who x.mark x.h).mono ?_; rintro e w4 ⟨rfl, v2, hT2, hk2, ho2⟩; have hb4 := HBB.out _ _ hW hk2; have hbY : Below w.heap.size w w4 := HB.out.trans (hb4.mono hmb); have d0 := hbY.cell hbl'; have d1 := hbY.cell (p := ⟨(ad.add (p * 4)).block, (ad.add (p * 4)).off + 1, none⟩) hbl'; have d2 := hbY.cell (p := ⟨(ad.add (p * 4)).block, (ad.add (p * 4)).off + 2, none⟩) hbl'; rw [q0] at d0; rw [q1] at d1; rw [q2] at d2; rw [← hsn.out] at hT2; have HT2 := Lib.hid hT2; clear hk2 ho2 hT2 hbY))
      go_wp2
      refine Handed.intro (L.length - (j + 1)) ?_ (hJ1 _ _ _ (fun Φ hΦ => hΦ _ _ _ _ _ _ _ _ _ _ _ _ _ _ _ _ _ _ _ _ _ _ _ _ _ _ _ _ _ _ _ _ _ _ _ _ _ _ _ _ _ _ _ _ _ _ _ _ _ _ _ _ _ _ _ _ _ _ _ _ _ _ _ _ _ _ _ _ _ _ _ _ _ _ _ _ _ _ _ _ _ _ _ _ _ _ _ _ _ _ _ _ _ _ _ _ _ _ _ _ _ _ _ _ _ _ _ _ _ _ _ ((p : Int) - 1) (j + 1) (v2) ?_))
      · have g1 := G1.out
        omega
      · have g1 := G1.out
        have g2 := G2.out
        exact ⟨by omega, by omega, HT2.out, hb4⟩
    · have g0 : (0 ≤ i) = False := by simp; omega
      have hjj : j = L.length := by omega
      subst hjj
      rw [List.take_of_length_le (by simp)] at gT
      have G := Lib.hid (And.intro gT gb)
      clear gT gb g1 g2 hj
      go_wp2
      exact HQ.out _ _ _ _ _ _ _ _ _ _ _ _ _ _ _ _ _ _ _ _ _ _ _ _ _ _ _ _ _ _ _ _ _ _ _ _ _ _ _ _ _ _ _ _ _ _ _ _ _ _ _ _ _ _ _ _ _ _ _ _ _ _ _ _ _ _ _ _ _ _ _ _ _ _ _ _ _ _ _ _ _ _ _ _ _ _ _ _ _ _ _ _ _ _ _ _ _ _ _ _ _ _ _ _ _ _ _ _ _ _ _ _ _ _ G.out.1 G.out.2
end Go.Proofs.Ytojpijpajdiiiaa
