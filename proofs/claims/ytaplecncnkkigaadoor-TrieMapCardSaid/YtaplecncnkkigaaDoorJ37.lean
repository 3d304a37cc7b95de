import Derived.Test.YtaplecncnkkigaaDoorJ36
import Derived.Test.YtaplecncnkkigaaDoorJ01
import Derived.Test.YtaplecncnkkigaaDoorJ30
/- Layer 10's laws: TrieMap, the loop that fills the map. No conditions. -/
namespace Go.Proofs.YtaplecncnkkigaaDoor
set_option linter.unusedVariables false
open Go.RowKit Go.Instr
attribute [local go_sem] ba_get ByteArray.mk_append_mk

/-- '[]byte(s)': new bytes -/
theorem bytes_of (w : World) (s : List UInt8) : ∃ c w', (convert 9 61 (.string ⟨s.toArray⟩)).run Tryd.prog w = .ok (.slice (some ⟨w.heap.size, 0, none⟩) s.length c) w' ∧ Reads w' w'.heap.size 1 (some ⟨w.heap.size, 0, none⟩) s.length (bvals s) ∧ Below w.heap.size w w' := by
  have h := run_bytes_of_string w 9 61 5 ⟨s.toArray⟩ Tryd.underlying9 Tryd.underlying61 Tryd.underlying5
  have hs : (ByteArray.mk s.toArray).size = s.length := by simp [ByteArray.size]
  rw [hs] at h
  refine ⟨_, _, h, ⟨by rw [bvals_length]; omega, fun hn => ⟨_, rfl, by simp, fun j u hu => ?_⟩⟩, (((Below.refl _ w).drew).alloc (Nat.le_refl _) _)⟩
  have ha : (⟨w.heap.size, 0, none⟩ : Addr).add j = ⟨w.heap.size, j, none⟩ := by unfold Addr.add; split <;> simp_all
  rw [ha, cell_of_row _ w.heap.size j _ _ _ (show (w.drew.alloc _).heap[w.heap.size]? = _ from heap_alloc_new w.drew _)]
  have hj : j < s.length := by have := (List.getElem?_eq_some_iff.1 hu).1; rw [bvals_length] at this; exact this
  rw [← hu]
  simp [bytesRow, bvals, Array.getElem?_append, hj]

/- a round that deletes -/
/- a round that leaves the map as it was -/
set_option maxRecDepth 100000 in
set_option maxHeartbeats 1000000 in
theorem tmap_one (w : World) (A : Option Addr) (c : Nat) (L : List Act10) (HR : Reads w w.heap.size 3 A L.length (acts L)) (hL : L.length ≤ 30) (w1 : World) (b : Nat) (hb : w.heap.size ≤ b) (hm : BMap w1 b []) (hB : Below w.heap.size w w1)
    (Q : Exit → Act → World → Prop)
    (hQ : ∀ (s1 s2 s4 s5 s6 s7 s8 s9 s10 s11 s12 s13 s14 s15 s16 s17 s18 s19 s20 s21 s22 s23 s24 s25 s26 s27 s28 s29 s30 s31 s32 s33 s34 s35 s36 s37 s38 s39 s40 s41 s42 s43 s44 s45 s46 s47 s48 s49 s50 s51 s52 s53 s54 s55 s56 s57 s58 s59 s60 s61 s62 s63 s64 s65 s66 s67 s68 s69 s70 s71 s72 s73 s74 s75 s76 s77 s78 s79 s80 s81 s82 s83 s84 s85 s86 s87 s88 s89 s90 s91 s92 s93 s94 s95 s96 s97 s98 s99 s100 s101 s102 s103 s104 s105 s106 s107 s108 s109 s110 s111 s112 s113 s114 s115 s116 s117 s118 s119 s120 s121 s122 s123 s124 s125 s126 s127 s128 s129 s130 s131 s132 s133 s134 s135 s136 s137 s138 : Value) (w2 : World), BMap w2 b (L.foldl Trie.actB []) → Below w.heap.size w w2 → Q (.exit 0) { tmps := #[.slice A L.length c, s1, s2, .map (some b), s4, s5, s6, s7, s8, s9, s10, s11, s12, s13, s14, s15, s16, s17, s18, s19, s20, s21, s22, s23, s24, s25, s26, s27, s28, s29, s30, s31, s32, s33, s34, s35, s36, s37, s38, s39, s40, s41, s42, s43, s44, s45, s46, s47, s48, s49, s50, s51, s52, s53, s54, s55, s56, s57, s58, s59, s60, s61, s62, s63, s64, s65, s66, s67, s68, s69, s70, s71, s72, s73, s74, s75, s76, s77, s78, s79, s80, s81, s82, s83, s84, s85, s86, s87, s88, s89, s90, s91, s92, s93, s94, s95, s96, s97, s98, s99, s100, s101, s102, s103, s104, s105, s106, s107, s108, s109, s110, s111, s112, s113, s114, s115, s116, s117, s118, s119, s120, s121, s122, s123, s124, s125, s126, s127, s128, s129, s130, s131, s132, s133, s134, s135, s136, s137, s138], defers := [] } w2)
    (s1 s2 s4 s5 s6 s7 s8 s9 s10 s11 s12 s13 s14 s15 s16 s17 s18 s19 s23 s24 s25 s26 s27 s28 s29 s30 s31 s32 s33 s34 s35 s36 s37 s38 s39 s40 s41 s42 s43 s44 s45 s46 s47 s48 s49 s50 s51 s52 s53 s54 s55 s56 s57 s58 s59 s60 s61 s62 s63 s64 s65 s66 s67 s68 s69 s70 s71 s72 s73 s74 s75 s76 s77 s78 s79 s80 s81 s82 s83 s84 s85 s86 s87 s88 s89 s90 s91 s92 s93 s94 s95 s96 s97 s98 s99 s100 s101 s102 s103 s104 s105 s106 s107 s108 s109 s110 s111 s112 s113 s114 s115 s116 s117 s118 s119 s120 s121 s122 s123 s124 s125 s126 s127 s128 s129 s130 s131 s132 s133 s134 s135 s136 s137 s138 : Value) :
    Code.wp Tryd.prog (.loop (loopAt Tryd.f5 0)) Q { tmps := #[.slice A L.length c, s1, s2, .map (some b), s4, s5, s6, s7, s8, s9, s10, s11, s12, s13, s14, s15, s16, s17, s18, s19, .slice A L.length c, .int .i64 L.length, .int .i64 0, s23, s24, s25, s26, s27, s28, s29, s30, s31, s32, s33, s34, s35, s36, s37, s38, s39, s40, s41, s42, s43, s44, s45, s46, s47, s48, s49, s50, s51, s52, s53, s54, s55, s56, s57, s58, s59, s60, s61, s62, s63, s64, s65, s66, s67, s68, s69, s70, s71, s72, s73, s74, s75, s76, s77, s78, s79, s80, s81, s82, s83, s84, s85, s86, s87, s88, s89, s90, s91, s92, s93, s94, s95, s96, s97, s98, s99, s100, s101, s102, s103, s104, s105, s106, s107, s108, s109, s110, s111, s112, s113, s114, s115, s116, s117, s118, s119, s120, s121, s122, s123, s124, s125, s126, s127, s128, s129, s130, s131, s132, s133, s134, s135, s136, s137, s138], defers := [] } w1 := by
  have HQ := Lib.hid hQ
  have HRR := Lib.hid HR
  have H0 := Lib.hid (And.intro hm hB)
  clear hQ HR hm hB
  refine wp_loop_ghost_k (fun k a wr => ∀ Φ : Act → Prop, (∀ (s1 s2 s4 s5 s6 s7 s8 s9 s10 s11 s12 s13 s14 s15 s16 s17 s18 s19 s23 s24 s25 s26 s27 s28 s29 s30 s31 s32 s33 s34 s35 s36 s37 s38 s39 s40 s41 s42 s43 s44 s45 s46 s47 s48 s49 s50 s51 s52 s53 s54 s55 s56 s57 s58 s59 s60 s61 s62 s63 s64 s65 s66 s67 s68 s69 s70 s71 s72 s73 s74 s75 s76 s77 s78 s79 s80 s81 s82 s83 s84 s85 s86 s87 s88 s89 s90 s91 s92 s93 s94 s95 s96 s97 s98 s99 s100 s101 s102 s103 s104 s105 s106 s107 s108 s109 s110 s111 s112 s113 s114 s115 s116 s117 s118 s119 s120 s121 s122 s123 s124 s125 s126 s127 s128 s129 s130 s131 s132 s133 s134 s135 s136 s137 s138 : Value) (i : Nat) (D : List Trie.KV), (i + k = L.length ∧ (L.take i).foldl Trie.actB [] = D ∧ BMap wr b D ∧ Below w.heap.size w wr) → Φ { tmps := #[.slice A L.length c, s1, s2, .map (some b), s4, s5, s6, s7, s8, s9, s10, s11, s12, s13, s14, s15, s16, s17, s18, s19, .slice A L.length c, .int .i64 L.length, .int .i64 (i : Int), s23, s24, s25, s26, s27, s28, s29, s30, s31, s32, s33, s34, s35, s36, s37, s38, s39, s40, s41, s42, s43, s44, s45, s46, s47, s48, s49, s50, s51, s52, s53, s54, s55, s56, s57, s58, s59, s60, s61, s62, s63, s64, s65, s66, s67, s68, s69, s70, s71, s72, s73, s74, s75, s76, s77, s78, s79, s80, s81, s82, s83, s84, s85, s86, s87, s88, s89, s90, s91, s92, s93, s94, s95, s96, s97, s98, s99, s100, s101, s102, s103, s104, s105, s106, s107, s108, s109, s110, s111, s112, s113, s114, s115, s116, s117, s118, s119, s120, s121, s122, s123, s124, s125, s126, s127, s128, s129, s130, s131, s132, s133, s134, s135, s136, s137, s138], defers := [] }) → Φ a) (L.length) ?_ ?_
  · refine fun Φ hΦ => hΦ _ _ _ _ _ _ _ _ _ _ _ _ _ _ _ _ _ _ _ _ _ _ _ _ _ _ _ _ _ _ _ _ _ _ _ _ _ _ _ _ _ _ _ _ _ _ _ _ _ _ _ _ _ _ _ _ _ _ _ _ _ _ _ _ _ _ _ _ _ _ _ _ _ _ _ _ _ _ _ _ _ _ _ _ _ _ _ _ _ _ _ _ _ _ _ _ _ _ _ _ _ _ _ _ _ _ _ _ _ _ _ _ _ _ _ _ _ _ _ _ _ _ _ _ _ _ _ _ _ _ _ _ _ _ (0) ([]) ?_
    exact ⟨by omega, rfl, H0.out.1, H0.out.2⟩
  · intro k1 a1 wr1 hI1 J1 K1 hJ1 hK1
    refine hI1 (fun a => Code.wp _ _ _ a _) ?_
    clear hI1 a1
    intro s0 s1 s2 s3 s4 s5 s6 s7 s8 s9 s10 s11 s12 s13 s14 s15 s16 s17 s18 s19 s20 s21 s22 s23 s24 s25 s26 s27 s28 s29 s30 s31 s32 s33 s34 s35 s36 s37 s38 s39 s40 s41 s42 s43 s44 s45 s46 s47 s48 s49 s50 s51 s52 s53 s54 s55 s56 s57 s58 s59 s60 s61 s62 s63 s64 s65 s66 s67 s68 s69 s70 s71 s72 s73 s74 s75 s76 s77 s78 s79 s80 s81 s82 s83 s84 s85 s86 s87 s88 s89 s90 s91 s92 s93 s94 s95 s96 s97 s98 s99 s100 s101 s102 s103 s104 s105 s106 s107 s108 s109 s110 s111 s112 s113 s114 s115 s116 s117 s118 s119 s120 s121 s122 s123 s124 s125 s126 s127 s128 s129 s130 s131 s132 s133 i D hrel
    show Code.wp _ _ _ _ _
    conv => arg 2; whnf
    obtain ⟨h1, h2, hm, hB⟩ := hrel
    by_cases hi : i < L.length
    · obtain ⟨ad, off, rfl, hbl, hcell⟩ := acts_read HRR.out i hi
      obtain ⟨q0, q1, q2⟩ := hcell _ hB
      have hs : (L.take (i + 1)).foldl Trie.actB [] = Trie.actB D (L[i]'hi) := by
        rw [List.take_succ_eq_append_getElem hi, List.foldl_append, h2]; rfl
      have HS := Lib.hid hs
      have HI := Lib.hid (And.intro h1 (And.intro hm (And.intro hB hbl)))
      have hi0 : (i : Int) < L.length := by omega
      have hi1 : (0 : Int) ≤ i := by omega
      have hi9 : (i : Int) < 30 := by omega
      clear h1 h2 hm hB hbl hcell hs
      generalize L[i] = x at *
      obtain ⟨kind, key, value⟩ := x
      simp only at q0 q1 q2
      have HBM : Hid (BMap (wr1.alloc (.cells #[.int .i64 kind, .string ⟨key.toArray⟩, .string ⟨value.toArray⟩] 54)) b D ∧ Below w.heap.size w (wr1.alloc (.cells #[.int .i64 kind, .string ⟨key.toArray⟩, .string ⟨value.toArray⟩] 54))) := Lib.hid ⟨HI.out.2.1.next (by go_grown), HI.out.2.2.1.nxt (by go_grown)⟩
      by_cases hkd : 1 < kind
      · have HD : Hid (Trie.actB D ⟨kind, key, value⟩ = delB D key) := Lib.hid (by simp [Trie.actB, hkd])
        by_cases h0 : key = []
        · subst h0
          obtain ⟨vs, hm, he⟩ := HBM.out.1.delete []
          have HE := Lib.hid he
          have HM := Lib.hid hm
          have HB := Lib.hid HBM.out.2
          clear he hm HBM
          go_wp2_with (at_delete; refine wpList_delete_is _ rfl _ _ 60 9 rfl ss_type _ Tryd.underlying60 b vs HM.out [] rfl rfl ?_; intro w2 hm2 hg2 hs2; have H2 := Lib.hid (And.intro hm2 (And.intro hg2 hs2)); clear hm2 hg2 hs2)
          refine Handed.intro (L.length - (i + 1)) ?_ (hJ1 _ _ _ (fun Φ hΦ => hΦ _ _ _ _ _ _ _ _ _ _ _ _ _ _ _ _ _ _ _ _ _ _ _ _ _ _ _ _ _ _ _ _ _ _ _ _ _ _ _ _ _ _ _ _ _ _ _ _ _ _ _ _ _ _ _ _ _ _ _ _ _ _ _ _ _ _ _ _ _ _ _ _ _ _ _ _ _ _ _ _ _ _ _ _ _ _ _ _ _ _ _ _ _ _ _ _ _ _ _ _ _ _ _ _ _ _ _ _ _ _ _ _ _ _ _ _ _ _ _ _ _ _ _ _ _ _ _ _ _ _ _ _ _ _ (i + 1) (delB D []) ?_))
          · have := HI.out.1
            show L.length - (i + 1) < k1
            omega
          · have := HI.out.1
            exact ⟨by omega, HS.out.trans HD.out, HE.out _ H2.out.1 H2.out.2.1 H2.out.2.2, HB.out.grown H2.out.2.1 HB.out.size (fun k e => by injection e with e; omega)⟩
        · have hv1 : (1 : Int) ≤ key.length := by have := List.length_pos_iff.2 h0; omega
          clear h0
          by_cases h8 : key.length ≤ 8
          · have hv2 : (key.length : Int) ≤ 8 := by omega
            obtain ⟨vs, hm, he⟩ := HBM.out.1.delete key
            have HE := Lib.hid he
            have HM := Lib.hid hm
            have HB := Lib.hid HBM.out.2
            clear he hm HBM
            go_wp2_with (at_delete; refine wpList_delete_is _ rfl _ _ 60 9 rfl ss_type _ Tryd.underlying60 b vs HM.out key rfl rfl ?_; intro w2 hm2 hg2 hs2; have H2 := Lib.hid (And.intro hm2 (And.intro hg2 hs2)); clear hm2 hg2 hs2)
            refine Handed.intro (L.length - (i + 1)) ?_ (hJ1 _ _ _ (fun Φ hΦ => hΦ _ _ _ _ _ _ _ _ _ _ _ _ _ _ _ _ _ _ _ _ _ _ _ _ _ _ _ _ _ _ _ _ _ _ _ _ _ _ _ _ _ _ _ _ _ _ _ _ _ _ _ _ _ _ _ _ _ _ _ _ _ _ _ _ _ _ _ _ _ _ _ _ _ _ _ _ _ _ _ _ _ _ _ _ _ _ _ _ _ _ _ _ _ _ _ _ _ _ _ _ _ _ _ _ _ _ _ _ _ _ _ _ _ _ _ _ _ _ _ _ _ _ _ _ _ _ _ _ _ _ _ _ _ _ (i + 1) (delB D key) ?_))
            · have := HI.out.1
              show L.length - (i + 1) < k1
              omega
            · have := HI.out.1
              exact ⟨by omega, HS.out.trans HD.out, HE.out _ H2.out.1 H2.out.2.1 H2.out.2.2, HB.out.grown H2.out.2.1 HB.out.size (fun k e => by injection e with e; omega)⟩
          · have hv2 : ((key.length : Int) ≤ 8) = False := by simp; omega
            obtain ⟨vs, hm, he⟩ := HBM.out.1.delete key
            have HE := Lib.hid he
            have HM := Lib.hid hm
            have HB := Lib.hid HBM.out.2
            clear he hm HBM
            go_wp2_with (at_delete; refine wpList_delete_is _ rfl _ _ 60 9 rfl ss_type _ Tryd.underlying60 b vs HM.out key rfl rfl ?_; intro w2 hm2 hg2 hs2; have H2 := Lib.hid (And.intro hm2 (And.intro hg2 hs2)); clear hm2 hg2 hs2)
            refine Handed.intro (L.length - (i + 1)) ?_ (hJ1 _ _ _ (fun Φ hΦ => hΦ _ _ _ _ _ _ _ _ _ _ _ _ _ _ _ _ _ _ _ _ _ _ _ _ _ _ _ _ _ _ _ _ _ _ _ _ _ _ _ _ _ _ _ _ _ _ _ _ _ _ _ _ _ _ _ _ _ _ _ _ _ _ _ _ _ _ _ _ _ _ _ _ _ _ _ _ _ _ _ _ _ _ _ _ _ _ _ _ _ _ _ _ _ _ _ _ _ _ _ _ _ _ _ _ _ _ _ _ _ _ _ _ _ _ _ _ _ _ _ _ _ _ _ _ _ _ _ _ _ _ _ _ _ _ (i + 1) (delB D key) ?_))
            · have := HI.out.1
              show L.length - (i + 1) < k1
              omega
            · have := HI.out.1
              exact ⟨by omega, HS.out.trans HD.out, HE.out _ H2.out.1 H2.out.2.1 H2.out.2.2, HB.out.grown H2.out.2.1 HB.out.size (fun k e => by injection e with e; omega)⟩
      · have hkd' : (1 < kind) = False := by simp; omega
        by_cases h0 : key = []
        · have HD : Hid (Trie.actB D ⟨kind, key, value⟩ = D) := Lib.hid (by simp [Trie.actB, hkd, Trie.putCode, Trie.keyedW, h0])
          subst h0
          have HB := HBM
          clear HBM
          go_wp2_with fail
          refine Handed.intro (L.length - (i + 1)) ?_ (hJ1 _ _ _ (fun Φ hΦ => hΦ _ _ _ _ _ _ _ _ _ _ _ _ _ _ _ _ _ _ _ _ _ _ _ _ _ _ _ _ _ _ _ _ _ _ _ _ _ _ _ _ _ _ _ _ _ _ _ _ _ _ _ _ _ _ _ _ _ _ _ _ _ _ _ _ _ _ _ _ _ _ _ _ _ _ _ _ _ _ _ _ _ _ _ _ _ _ _ _ _ _ _ _ _ _ _ _ _ _ _ _ _ _ _ _ _ _ _ _ _ _ _ _ _ _ _ _ _ _ _ _ _ _ _ _ _ _ _ _ _ _ _ _ _ _ (i + 1) (D) ?_))
          · have := HI.out.1
            show L.length - (i + 1) < k1
            omega
          · have := HI.out.1
            exact ⟨by omega, HS.out.trans HD.out, HB.out.1, HB.out.2⟩
        · have hv1 : (1 : Int) ≤ key.length := by have := List.length_pos_iff.2 h0; omega
          by_cases h8 : key.length ≤ 8
          · have hv2 : (key.length : Int) ≤ 8 := by omega
            by_cases hv0 : value = []
            · have HD : Hid (Trie.actB D ⟨kind, key, value⟩ = D) := Lib.hid (by simp [Trie.actB, hkd, Trie.putCode, Trie.keyedW, h0, h8, hv0])
              subst hv0
              clear h0
              have HB := HBM
              clear HBM
              go_wp2_with fail
              refine Handed.intro (L.length - (i + 1)) ?_ (hJ1 _ _ _ (fun Φ hΦ => hΦ _ _ _ _ _ _ _ _ _ _ _ _ _ _ _ _ _ _ _ _ _ _ _ _ _ _ _ _ _ _ _ _ _ _ _ _ _ _ _ _ _ _ _ _ _ _ _ _ _ _ _ _ _ _ _ _ _ _ _ _ _ _ _ _ _ _ _ _ _ _ _ _ _ _ _ _ _ _ _ _ _ _ _ _ _ _ _ _ _ _ _ _ _ _ _ _ _ _ _ _ _ _ _ _ _ _ _ _ _ _ _ _ _ _ _ _ _ _ _ _ _ _ _ _ _ _ _ _ _ _ _ _ _ _ (i + 1) (D) ?_))
              · have := HI.out.1
                show L.length - (i + 1) < k1
                omega
              · have := HI.out.1
                exact ⟨by omega, HS.out.trans HD.out, HB.out.1, HB.out.2⟩
            · have hw1 : (1 : Int) ≤ value.length := by have := List.length_pos_iff.2 hv0; omega
              by_cases h32 : value.length ≤ 32
              · have hw2 : (value.length : Int) ≤ 32 := by omega
                have HD : Hid (Trie.actB D ⟨kind, key, value⟩ = putB D key value) := Lib.hid (by
                  have h33 : ¬ 32 < value.length := by omega
                  simp [Trie.actB, hkd, Trie.putCode, Trie.keyedW, h0, h8, hv0, h33])
                obtain ⟨cc, w2, hrun, hrd, hb2⟩ := bytes_of (wr1.alloc (.cells #[.int .i64 kind, .string ⟨key.toArray⟩, .string ⟨value.toArray⟩] 54)) value
                rw [World.size_alloc] at hrun hrd
                obtain ⟨vs, hm, he⟩ := (HBM.out.1.next hb2).store key value _ cc hrd
                have HE := Lib.hid he
                have HM := Lib.hid hm
                have HB := Lib.hid (HBM.out.2.nxt hb2)
                clear he hm HBM hrd hb2 h0 hv0 h8 h32
                go_wp2_with (at_mapUpdate; refine wpList_mapUpdate_is _ rfl _ _ _ 60 rfl ss_type _ Tryd.underlying60 b vs HM.out key (.slice (some ⟨wr1.heap.size + 1, 0, none⟩) value.length cc) rfl rfl rfl ?_; intro w3 hm2 hg2 hs2; have H2 := Lib.hid (And.intro hm2 (And.intro hg2 hs2)); clear hm2 hg2 hs2)
                refine Handed.intro (L.length - (i + 1)) ?_ (hJ1 _ _ _ (fun Φ hΦ => hΦ _ _ _ _ _ _ _ _ _ _ _ _ _ _ _ _ _ _ _ _ _ _ _ _ _ _ _ _ _ _ _ _ _ _ _ _ _ _ _ _ _ _ _ _ _ _ _ _ _ _ _ _ _ _ _ _ _ _ _ _ _ _ _ _ _ _ _ _ _ _ _ _ _ _ _ _ _ _ _ _ _ _ _ _ _ _ _ _ _ _ _ _ _ _ _ _ _ _ _ _ _ _ _ _ _ _ _ _ _ _ _ _ _ _ _ _ _ _ _ _ _ _ _ _ _ _ _ _ _ _ _ _ _ _ (i + 1) (putB D key value) ?_))
                · have := HI.out.1
                  show L.length - (i + 1) < k1
                  omega
                · have := HI.out.1
                  exact ⟨by omega, HS.out.trans HD.out, HE.out _ H2.out.1 H2.out.2.1 H2.out.2.2, HB.out.grown H2.out.2.1 HB.out.size (fun k e => by injection e with e; omega)⟩
              · have hw2 : ((value.length : Int) ≤ 32) = False := by simp; omega
                have HD : Hid (Trie.actB D ⟨kind, key, value⟩ = D) := Lib.hid (by
                  have h33 : 32 < value.length := by omega
                  simp [Trie.actB, hkd, Trie.putCode, Trie.keyedW, h0, h8, hv0, h33])
                clear h0 hv0
                have HB := HBM
                clear HBM
                go_wp2_with fail
                refine Handed.intro (L.length - (i + 1)) ?_ (hJ1 _ _ _ (fun Φ hΦ => hΦ _ _ _ _ _ _ _ _ _ _ _ _ _ _ _ _ _ _ _ _ _ _ _ _ _ _ _ _ _ _ _ _ _ _ _ _ _ _ _ _ _ _ _ _ _ _ _ _ _ _ _ _ _ _ _ _ _ _ _ _ _ _ _ _ _ _ _ _ _ _ _ _ _ _ _ _ _ _ _ _ _ _ _ _ _ _ _ _ _ _ _ _ _ _ _ _ _ _ _ _ _ _ _ _ _ _ _ _ _ _ _ _ _ _ _ _ _ _ _ _ _ _ _ _ _ _ _ _ _ _ _ _ _ _ (i + 1) (D) ?_))
                · have := HI.out.1
                  show L.length - (i + 1) < k1
                  omega
                · have := HI.out.1
                  exact ⟨by omega, HS.out.trans HD.out, HB.out.1, HB.out.2⟩
          · have hv2 : ((key.length : Int) ≤ 8) = False := by simp; omega
            have HD : Hid (Trie.actB D ⟨kind, key, value⟩ = D) := Lib.hid (by simp [Trie.actB, hkd, Trie.putCode, Trie.keyedW, h0, h8])
            clear h0
            have HB := HBM
            clear HBM
            go_wp2_with fail
            refine Handed.intro (L.length - (i + 1)) ?_ (hJ1 _ _ _ (fun Φ hΦ => hΦ _ _ _ _ _ _ _ _ _ _ _ _ _ _ _ _ _ _ _ _ _ _ _ _ _ _ _ _ _ _ _ _ _ _ _ _ _ _ _ _ _ _ _ _ _ _ _ _ _ _ _ _ _ _ _ _ _ _ _ _ _ _ _ _ _ _ _ _ _ _ _ _ _ _ _ _ _ _ _ _ _ _ _ _ _ _ _ _ _ _ _ _ _ _ _ _ _ _ _ _ _ _ _ _ _ _ _ _ _ _ _ _ _ _ _ _ _ _ _ _ _ _ _ _ _ _ _ _ _ _ _ _ _ _ (i + 1) (D) ?_))
            · have := HI.out.1
              show L.length - (i + 1) < k1
              omega
            · have := HI.out.1
              exact ⟨by omega, HS.out.trans HD.out, HB.out.1, HB.out.2⟩
    · have hi2 : ((i : Int) < L.length) = False := by simp; omega
      have e : L.take i = L := List.take_of_length_le (by omega)
      rw [e] at h2
      subst h2
      have H := Lib.hid (And.intro hm hB)
      clear h1 hm hB hi e
      go_wp2_with fail
      exact HQ.out _ _ _ _ _ _ _ _ _ _ _ _ _ _ _ _ _ _ _ _ _ _ _ _ _ _ _ _ _ _ _ _ _ _ _ _ _ _ _ _ _ _ _ _ _ _ _ _ _ _ _ _ _ _ _ _ _ _ _ _ _ _ _ _ _ _ _ _ _ _ _ _ _ _ _ _ _ _ _ _ _ _ _ _ _ _ _ _ _ _ _ _ _ _ _ _ _ _ _ _ _ _ _ _ _ _ _ _ _ _ _ _ _ _ _ _ _ _ _ _ _ _ _ _ _ _ _ _ _ _ _ _ _ _ _ _ _ _ H.out.1 H.out.2
end Go.Proofs.YtaplecncnkkigaaDoor

/- Layer 10's laws: TrieMap, the loops that compare. No conditions. -/
namespace Go.Proofs.YtaplecncnkkigaaDoor
set_option linter.unusedVariables false
open Go.RowKit Go.Instr
attribute [local go_sem] ba_get ByteArray.mk_append_mk
attribute [local go_sem ↓] Go.wp_at_zero Go.wp_at_succ

theorem Trie.getW_look {t : Trie.T} (h : Trie.Good t) (k : List UInt8) : (Trie.look t (Nib.of k) = [] ∧ (Trie.getW t k).1 = [] ∧ (Trie.getW t k).2 ≠ 0) ∨ (Trie.look t (Nib.of k) ≠ [] ∧ Trie.getW t k = (Trie.look t (Nib.of k), 0)) := by
  unfold Trie.getW
  by_cases hl : Trie.look t (Nib.of k) = []
  · refine .inl ⟨hl, ?_⟩
    split
    · rw [if_pos (by rw [hl]; rfl)]; simp
    · simp
  · refine .inr ⟨hl, ?_⟩
    have h0 := Trie.item_code h ((Trie.mem_itemsW h k _).2 ⟨rfl, hl⟩)
    rw [if_pos (Trie.putCode_zero h0).1, if_neg (by simpa using hl)]

set_option maxRecDepth 100000 in
set_option maxHeartbeats 2000000 in
theorem tmap_two (w1 : World) (b : Nat) (D : List Trie.KV) (hm : BMap w1 b D) (A : Option Addr) (c : Nat) (l : List Trie.KV) (HR : Reads w1 w1.heap.size 2 A l.length (icells l)) (hl : l.length ≤ 1000) (hr : Trie.rises l) (hD : ∀ x ∈ l, (lookB D x.1).getD [] = x.2)
    (Q : Exit → Act → World → Prop) (p0 p7 : Value)
    (hQ : ∀ (s1 s2 s4 s5 s6 s9 s10 s11 s12 s13 s14 s15 s16 s17 s18 s19 s20 s21 s22 s23 s24 s25 s26 s27 s28 s29 s30 s31 s32 s33 s34 s35 s36 s37 s38 s39 s40 s41 s42 s43 s44 s45 s46 s47 s48 s49 s50 s51 s52 s53 s54 s55 s56 s57 s58 s59 s60 s61 s62 s63 s64 s65 s66 s67 s68 s69 s70 s71 s72 s73 s74 s75 s76 s77 s78 s79 s80 s81 s82 s83 s84 s85 s86 s87 s88 s89 s90 s91 s92 s93 s94 s95 s96 s97 s98 s99 s100 s101 s102 s103 s104 s105 s106 s107 s108 s109 s110 s111 s112 s113 s114 s115 s116 s117 s118 s119 s120 s121 s122 s123 s124 s125 s126 s127 s128 s129 s130 s131 s132 s133 s134 s135 s136 s137 s138 : Value) (w2 : World), Below w1.heap.size w1 w2 → Q (.exit 3) { tmps := #[p0, s1, s2, .map (some b), s4, s5, s6, p7, .slice A l.length c, s9, s10, s11, s12, s13, s14, s15, s16, s17, s18, s19, s20, s21, s22, s23, s24, s25, s26, s27, s28, s29, s30, s31, s32, s33, s34, s35, s36, s37, s38, s39, s40, s41, s42, s43, s44, s45, s46, s47, s48, s49, s50, s51, s52, s53, s54, s55, s56, s57, s58, s59, s60, s61, s62, s63, s64, s65, s66, s67, s68, s69, s70, s71, s72, s73, s74, s75, s76, s77, s78, s79, s80, s81, s82, s83, s84, s85, s86, s87, s88, s89, s90, s91, s92, s93, s94, s95, s96, s97, s98, s99, s100, s101, s102, s103, s104, s105, s106, s107, s108, s109, s110, s111, s112, s113, s114, s115, s116, s117, s118, s119, s120, s121, s122, s123, s124, s125, s126, s127, s128, s129, s130, s131, s132, s133, s134, s135, s136, s137, s138], defers := [] } w2)
    (s1 s2 s4 s5 s6 s9 s10 s11 s12 s13 s14 s15 s16 s17 s18 s19 s20 s21 s22 s23 s24 s25 s26 s27 s28 s29 s30 s31 s32 s33 s34 s35 s36 s37 s38 s39 s40 s41 s42 s43 s44 s45 s46 s47 s48 s49 s50 s51 s52 s53 s54 s55 s56 s57 s58 s59 s60 s61 s62 s63 s64 s65 s66 s67 s71 s72 s73 s74 s75 s76 s77 s78 s79 s80 s81 s82 s83 s84 s85 s86 s87 s88 s89 s90 s91 s92 s93 s94 s95 s96 s97 s98 s99 s100 s101 s102 s103 s104 s105 s106 s107 s108 s109 s110 s111 s112 s113 s114 s115 s116 s117 s118 s119 s120 s121 s122 s123 s124 s125 s126 s127 s128 s129 s130 s131 s132 s133 s134 s135 s136 s137 s138 : Value) :
    Code.wp Tryd.prog (.loop (loopAt Tryd.f5 1)) Q { tmps := #[p0, s1, s2, .map (some b), s4, s5, s6, p7, .slice A l.length c, s9, s10, s11, s12, s13, s14, s15, s16, s17, s18, s19, s20, s21, s22, s23, s24, s25, s26, s27, s28, s29, s30, s31, s32, s33, s34, s35, s36, s37, s38, s39, s40, s41, s42, s43, s44, s45, s46, s47, s48, s49, s50, s51, s52, s53, s54, s55, s56, s57, s58, s59, s60, s61, s62, s63, s64, s65, s66, s67, .slice A l.length c, .int .i64 l.length, .int .i64 0, s71, s72, s73, s74, s75, s76, s77, s78, s79, s80, s81, s82, s83, s84, s85, s86, s87, s88, s89, s90, s91, s92, s93, s94, s95, s96, s97, s98, s99, s100, s101, s102, s103, s104, s105, s106, s107, s108, s109, s110, s111, s112, s113, s114, s115, s116, s117, s118, s119, s120, s121, s122, s123, s124, s125, s126, s127, s128, s129, s130, s131, s132, s133, s134, s135, s136, s137, s138], defers := [] } w1 := by
  have HQ := Lib.hid hQ
  have HRR := Lib.hid HR
  have HM := Lib.hid hm
  have HRi := Lib.hid hr
  have HDD := Lib.hid hD
  clear hQ HR hm hr hD
  refine wp_loop_ghost_k (fun k a wr => ∀ Φ : Act → Prop, (∀ (s1 s2 s4 s5 s6 s9 s10 s11 s12 s13 s14 s15 s16 s17 s18 s19 s20 s21 s22 s23 s24 s25 s26 s27 s28 s29 s30 s31 s32 s33 s34 s35 s36 s37 s38 s39 s40 s41 s42 s43 s44 s45 s46 s47 s48 s49 s50 s51 s52 s53 s54 s55 s56 s57 s58 s59 s60 s61 s62 s63 s64 s65 s66 s67 s71 s72 s73 s74 s75 s76 s77 s78 s79 s80 s81 s82 s83 s84 s85 s86 s87 s88 s89 s90 s91 s92 s93 s94 s95 s96 s97 s98 s99 s100 s101 s102 s103 s104 s105 s106 s107 s108 s109 s110 s111 s112 s113 s114 s115 s116 s117 s118 s119 s120 s121 s122 s123 s124 s125 s126 s127 s128 s129 s130 s131 s132 s133 s134 s135 s136 s137 s138 : Value) (i : Nat), (i + k = l.length ∧ Below w1.heap.size w1 wr) → Φ { tmps := #[p0, s1, s2, .map (some b), s4, s5, s6, p7, .slice A l.length c, s9, s10, s11, s12, s13, s14, s15, s16, s17, s18, s19, s20, s21, s22, s23, s24, s25, s26, s27, s28, s29, s30, s31, s32, s33, s34, s35, s36, s37, s38, s39, s40, s41, s42, s43, s44, s45, s46, s47, s48, s49, s50, s51, s52, s53, s54, s55, s56, s57, s58, s59, s60, s61, s62, s63, s64, s65, s66, s67, .slice A l.length c, .int .i64 l.length, .int .i64 (i : Int), s71, s72, s73, s74, s75, s76, s77, s78, s79, s80, s81, s82, s83, s84, s85, s86, s87, s88, s89, s90, s91, s92, s93, s94, s95, s96, s97, s98, s99, s100, s101, s102, s103, s104, s105, s106, s107, s108, s109, s110, s111, s112, s113, s114, s115, s116, s117, s118, s119, s120, s121, s122, s123, s124, s125, s126, s127, s128, s129, s130, s131, s132, s133, s134, s135, s136, s137, s138], defers := [] }) → Φ a) (l.length) ?_ ?_
  · refine fun Φ hΦ => hΦ _ _ _ _ _ _ _ _ _ _ _ _ _ _ _ _ _ _ _ _ _ _ _ _ _ _ _ _ _ _ _ _ _ _ _ _ _ _ _ _ _ _ _ _ _ _ _ _ _ _ _ _ _ _ _ _ _ _ _ _ _ _ _ _ _ _ _ _ _ _ _ _ _ _ _ _ _ _ _ _ _ _ _ _ _ _ _ _ _ _ _ _ _ _ _ _ _ _ _ _ _ _ _ _ _ _ _ _ _ _ _ _ _ _ _ _ _ _ _ _ _ _ _ _ _ _ _ _ _ _ _ _ (0) ?_
    exact ⟨by omega, Below.refl _ _⟩
  · intro k1 a1 wr1 hI1 J1 K1 hJ1 hK1
    refine hI1 (fun a => Code.wp _ _ _ a _) ?_
    clear hI1 a1
    intro s0 s1 s2 s3 s4 s5 s6 s7 s8 s9 s10 s11 s12 s13 s14 s15 s16 s17 s18 s19 s20 s21 s22 s23 s24 s25 s26 s27 s28 s29 s30 s31 s32 s33 s34 s35 s36 s37 s38 s39 s40 s41 s42 s43 s44 s45 s46 s47 s48 s49 s50 s51 s52 s53 s54 s55 s56 s57 s58 s59 s60 s61 s62 s63 s64 s65 s66 s67 s68 s69 s70 s71 s72 s73 s74 s75 s76 s77 s78 s79 s80 s81 s82 s83 s84 s85 s86 s87 s88 s89 s90 s91 s92 s93 s94 s95 s96 s97 s98 s99 s100 s101 s102 s103 s104 s105 s106 s107 s108 s109 s110 s111 s112 s113 s114 s115 s116 s117 s118 s119 s120 s121 s122 s123 s124 s125 s126 s127 s128 s129 s130 s131 i hrel
    show Code.wp _ _ _ _ _
    conv => arg 2; whnf
    obtain ⟨h1, hB⟩ := hrel
    by_cases hi : i < l.length
    · obtain ⟨ad, off, rfl, hbl, hcell⟩ := item_cells HRR.out hi
      obtain ⟨q0, q1⟩ := hcell _ hB
      have HI := Lib.hid (And.intro h1 hB)
      have hi0 : (i : Int) < l.length := by omega
      have hi1 : (0 : Int) ≤ i := by omega
      have hi9 : (i : Int) < 1000 := by omega
      have HXK : Hid ((lookB D (l[i]'hi).1).getD [] = (l[i]'hi).2) := Lib.hid (HDD.out _ (List.getElem_mem hi))
      rcases Nat.eq_zero_or_pos i with rfl | hip
      · clear h1 hB hbl hcell
        rw [Nat.zero_mul, Nat.add_zero] at q0 q1
        generalize l[0] = x at *
        obtain ⟨key, value⟩ := x
        simp only at q0 q1 HXK
        obtain ⟨Av, nv, cv, hlk, hcv, _⟩ := HM.out.get Tryd.underlying60 key
        have HBa : Hid (Below w1.heap.size w1 (wr1.alloc (.cells #[.string ⟨key.toArray⟩, .string ⟨value.toArray⟩] 26))) := Lib.hid (HI.out.2.nxt (by go_grown))
        rw [HXK.out] at hcv
        have lk1 := fun nq => hlk _ (below_drewN HBa.out nq)
        have cv1 := fun nq => hcv _ (below_drewN HBa.out nq)
        have lk0 := hlk _ HBa.out
        have cv0 := hcv _ HBa.out
        clear hlk hcv
        simp only [ss] at lk0 lk1
        go_wp2
        go_quiet (fail)
        go_wp2
        refine Handed.intro (l.length - (0 + 1)) ?_ (hJ1 _ _ _ (fun Φ hΦ => hΦ _ _ _ _ _ _ _ _ _ _ _ _ _ _ _ _ _ _ _ _ _ _ _ _ _ _ _ _ _ _ _ _ _ _ _ _ _ _ _ _ _ _ _ _ _ _ _ _ _ _ _ _ _ _ _ _ _ _ _ _ _ _ _ _ _ _ _ _ _ _ _ _ _ _ _ _ _ _ _ _ _ _ _ _ _ _ _ _ _ _ _ _ _ _ _ _ _ _ _ _ _ _ _ _ _ _ _ _ _ _ _ _ _ _ _ _ _ _ _ _ _ _ _ _ _ _ _ _ _ _ _ _ (0 + 1) ?_))
        · have := HI.out.1
          show l.length - (0 + 1) < k1
          omega
        · have := HI.out.1
          exact ⟨by omega, below_drewN HBa.out _⟩
      · have hi8 : i - 1 < l.length := by omega
        obtain ⟨ad', off', e, _, hcell'⟩ := item_cells HRR.out hi8
        injection e with e
        injection e with e1 e2
        subst e1
        subst e2
        obtain ⟨q2, _⟩ := hcell' _ (hB.nxt (show Below wr1.heap.size wr1 (wr1.alloc (.cells #[.string ⟨(l[i]'hi).1.toArray⟩, .string ⟨(l[i]'hi).2.toArray⟩] 26)) by go_grown))
        have hlt : Op.bytesLess (l[i - 1]'hi8).1 (l[i]'hi).1 = true := List.pairwise_iff_getElem.1 HRi.out (i - 1) i hi8 hi (by omega)
        have v1 : IntKind.i64.wrap ((i : Int) - 1) = (i : Int) - 1 := IntWalk.i64_in _ (by omega)
        have v2 : (0 : Int) ≤ (i : Int) - 1 := by omega
        have v3 : (1 : Int) ≤ (i : Int) := by omega
        have v4 : ((i : Int) - 1).toNat = i - 1 := by omega
        have v5 : (i : Int) - 1 < l.length := by omega
        have v6 : (0 : Int) < (i : Int) := by omega
        have v7 : decide (0 < i) = true := by simp; omega
        have v8 : decide ((0 : Int) < (i : Int)) = true := by simp; omega
        clear h1 hB hbl hcell hcell' hip
        generalize l[i - 1] = y at *
        generalize l[i] = x at *
        obtain ⟨key, value⟩ := x
        obtain ⟨yk, yv⟩ := y
        simp only at q0 q1 q2 HXK hlt
        have e4 := bl_asymm _ _ hlt
        have e5 : (key == yk) = false := by
          simp only [beq_eq_false_iff_ne, ne_eq]; intro e; subst e; rw [bl_irrefl] at hlt; cases hlt
        obtain ⟨Av, nv, cv, hlk, hcv, _⟩ := HM.out.get Tryd.underlying60 key
        have HBa : Hid (Below w1.heap.size w1 (wr1.alloc (.cells #[.string ⟨key.toArray⟩, .string ⟨value.toArray⟩] 26))) := Lib.hid (HI.out.2.nxt (by go_grown))
        rw [HXK.out] at hcv
        have lk1 := fun nq => hlk _ (below_drewN HBa.out nq)
        have cv1 := fun nq => hcv _ (below_drewN HBa.out nq)
        have lk0 := hlk _ HBa.out
        have cv0 := hcv _ HBa.out
        clear hlk hcv
        simp only [ss] at lk0 lk1
        go_wp2
        go_quiet (fail)
        clear v1 v2 v3 v4 v5 v6 v7 v8
        go_wp2
        refine Handed.intro (l.length - (i + 1)) ?_ (hJ1 _ _ _ (fun Φ hΦ => hΦ _ _ _ _ _ _ _ _ _ _ _ _ _ _ _ _ _ _ _ _ _ _ _ _ _ _ _ _ _ _ _ _ _ _ _ _ _ _ _ _ _ _ _ _ _ _ _ _ _ _ _ _ _ _ _ _ _ _ _ _ _ _ _ _ _ _ _ _ _ _ _ _ _ _ _ _ _ _ _ _ _ _ _ _ _ _ _ _ _ _ _ _ _ _ _ _ _ _ _ _ _ _ _ _ _ _ _ _ _ _ _ _ _ _ _ _ _ _ _ _ _ _ _ _ _ _ _ _ _ _ _ _ (i + 1) ?_))
        · have := HI.out.1
          show l.length - (i + 1) < k1
          omega
        · have := HI.out.1
          exact ⟨by omega, below_drewN HBa.out _⟩
    · have hi2 : ((i : Int) < l.length) = False := by simp; omega
      have H := Lib.hid hB
      clear h1 hB hi
      go_wp2_with fail
      exact HQ.out _ _ _ _ _ _ _ _ _ _ _ _ _ _ _ _ _ _ _ _ _ _ _ _ _ _ _ _ _ _ _ _ _ _ _ _ _ _ _ _ _ _ _ _ _ _ _ _ _ _ _ _ _ _ _ _ _ _ _ _ _ _ _ _ _ _ _ _ _ _ _ _ _ _ _ _ _ _ _ _ _ _ _ _ _ _ _ _ _ _ _ _ _ _ _ _ _ _ _ _ _ _ _ _ _ _ _ _ _ _ _ _ _ _ _ _ _ _ _ _ _ _ _ _ _ _ _ _ _ _ _ _ _ _ _ _ H.out
end Go.Proofs.YtaplecncnkkigaaDoor

/- Layer 10's laws: TrieMap, its last loop. No conditions. -/
namespace Go.Proofs.YtaplecncnkkigaaDoor
set_option linter.unusedVariables false
open Go.RowKit Go.Instr
attribute [local go_sem] ba_get ByteArray.mk_append_mk
attribute [local go_sem ↓] Go.wp_at_zero Go.wp_at_succ

set_option maxRecDepth 100000 in
set_option maxHeartbeats 2000000 in
theorem tmap_three (w : World) (A : Option Addr) (c : Nat) (L : List Act10) (HR : Reads w w.heap.size 3 A L.length (acts L)) (hL : L.length ≤ 30) (hS : L.any longA = false) (w1 : World) (hB0 : Below w.heap.size w w1) (b : Nat) (D : List Trie.KV) (t : Trie.T) (v : Value) (hm : BMap w1 b D) (ht : TrieP w1 t v) (hW : Trie.Wt D t)
    (Q : Exit → Act → World → Prop) (p8 : Value)
    (hQ : ∀ (s0 s1 s2 s4 s5 s6 s9 s10 s11 s12 s13 s14 s15 s16 s17 s18 s19 s20 s21 s22 s23 s24 s25 s26 s27 s28 s29 s30 s31 s32 s33 s34 s35 s36 s37 s38 s39 s40 s41 s42 s43 s44 s45 s46 s47 s48 s49 s50 s51 s52 s53 s54 s55 s56 s57 s58 s59 s60 s61 s62 s63 s64 s65 s66 s67 s68 s69 s70 s71 s72 s73 s74 s75 s76 s77 s78 s79 s80 s81 s82 s83 s84 s85 s86 s87 s88 s89 s90 s91 s92 s93 s94 s95 s96 s97 s98 s99 s100 s101 s102 s103 s104 s105 s106 s107 s108 s109 s110 s111 s112 s113 s114 s115 s116 s117 s118 s119 s120 s121 s122 s123 s124 s125 s126 s127 s128 s129 s130 s131 s132 s133 s134 s135 s136 s137 s138 : Value) (w2 : World), Below w1.heap.size w1 w2 → Q (.exit 5) { tmps := #[s0, s1, s2, .map (some b), s4, s5, s6, v, p8, s9, s10, s11, s12, s13, s14, s15, s16, s17, s18, s19, s20, s21, s22, s23, s24, s25, s26, s27, s28, s29, s30, s31, s32, s33, s34, s35, s36, s37, s38, s39, s40, s41, s42, s43, s44, s45, s46, s47, s48, s49, s50, s51, s52, s53, s54, s55, s56, s57, s58, s59, s60, s61, s62, s63, s64, s65, s66, s67, s68, s69, s70, s71, s72, s73, s74, s75, s76, s77, s78, s79, s80, s81, s82, s83, s84, s85, s86, s87, s88, s89, s90, s91, s92, s93, s94, s95, s96, s97, s98, s99, s100, s101, s102, s103, s104, s105, s106, s107, s108, s109, s110, s111, s112, s113, s114, s115, s116, s117, s118, s119, s120, s121, s122, s123, s124, s125, s126, s127, s128, s129, s130, s131, s132, s133, s134, s135, s136, s137, s138], defers := [] } w2)
    (s0 s1 s2 s4 s5 s6 s9 s10 s11 s12 s13 s14 s15 s16 s17 s18 s19 s20 s21 s22 s23 s24 s25 s26 s27 s28 s29 s30 s31 s32 s33 s34 s35 s36 s37 s38 s39 s40 s41 s42 s43 s44 s45 s46 s47 s48 s49 s50 s51 s52 s53 s54 s55 s56 s57 s58 s59 s60 s61 s62 s63 s64 s65 s66 s67 s68 s69 s70 s71 s72 s73 s74 s75 s76 s77 s78 s79 s80 s81 s82 s83 s84 s85 s86 s87 s88 s89 s90 s91 s92 s93 s94 s95 s96 s97 s98 s102 s103 s104 s105 s106 s107 s108 s109 s110 s111 s112 s113 s114 s115 s116 s117 s118 s119 s120 s121 s122 s123 s124 s125 s126 s127 s128 s129 s130 s131 s132 s133 s134 s135 s136 s137 s138 : Value) :
    Code.wp Tryd.prog (.loop (loopAt Tryd.f5 2)) Q { tmps := #[s0, s1, s2, .map (some b), s4, s5, s6, v, p8, s9, s10, s11, s12, s13, s14, s15, s16, s17, s18, s19, s20, s21, s22, s23, s24, s25, s26, s27, s28, s29, s30, s31, s32, s33, s34, s35, s36, s37, s38, s39, s40, s41, s42, s43, s44, s45, s46, s47, s48, s49, s50, s51, s52, s53, s54, s55, s56, s57, s58, s59, s60, s61, s62, s63, s64, s65, s66, s67, s68, s69, s70, s71, s72, s73, s74, s75, s76, s77, s78, s79, s80, s81, s82, s83, s84, s85, s86, s87, s88, s89, s90, s91, s92, s93, s94, s95, s96, s97, s98, .slice A L.length c, .int .i64 L.length, .int .i64 0, s102, s103, s104, s105, s106, s107, s108, s109, s110, s111, s112, s113, s114, s115, s116, s117, s118, s119, s120, s121, s122, s123, s124, s125, s126, s127, s128, s129, s130, s131, s132, s133, s134, s135, s136, s137, s138], defers := [] } w1 := by
  have HQ := Lib.hid hQ
  have HRR := Lib.hid HR
  have HM := Lib.hid hm
  have HT := Lib.hid ht
  have HWt := Lib.hid hW
  have HS := Lib.hid hS
  have HB0 := Lib.hid hB0
  clear hQ HR hm ht hW hS hB0
  refine wp_loop_ghost_k (fun k a wr => ∀ Φ : Act → Prop, (∀ (s0 s1 s2 s4 s5 s6 s9 s10 s11 s12 s13 s14 s15 s16 s17 s18 s19 s20 s21 s22 s23 s24 s25 s26 s27 s28 s29 s30 s31 s32 s33 s34 s35 s36 s37 s38 s39 s40 s41 s42 s43 s44 s45 s46 s47 s48 s49 s50 s51 s52 s53 s54 s55 s56 s57 s58 s59 s60 s61 s62 s63 s64 s65 s66 s67 s68 s69 s70 s71 s72 s73 s74 s75 s76 s77 s78 s79 s80 s81 s82 s83 s84 s85 s86 s87 s88 s89 s90 s91 s92 s93 s94 s95 s96 s97 s98 s102 s103 s104 s105 s106 s107 s108 s109 s110 s111 s112 s113 s114 s115 s116 s117 s118 s119 s120 s121 s122 s123 s124 s125 s126 s127 s128 s129 s130 s131 s132 s133 s134 s135 s136 s137 s138 : Value) (i : Nat), (i + k = L.length ∧ Below w1.heap.size w1 wr) → Φ { tmps := #[s0, s1, s2, .map (some b), s4, s5, s6, v, p8, s9, s10, s11, s12, s13, s14, s15, s16, s17, s18, s19, s20, s21, s22, s23, s24, s25, s26, s27, s28, s29, s30, s31, s32, s33, s34, s35, s36, s37, s38, s39, s40, s41, s42, s43, s44, s45, s46, s47, s48, s49, s50, s51, s52, s53, s54, s55, s56, s57, s58, s59, s60, s61, s62, s63, s64, s65, s66, s67, s68, s69, s70, s71, s72, s73, s74, s75, s76, s77, s78, s79, s80, s81, s82, s83, s84, s85, s86, s87, s88, s89, s90, s91, s92, s93, s94, s95, s96, s97, s98, .slice A L.length c, .int .i64 L.length, .int .i64 (i : Int), s102, s103, s104, s105, s106, s107, s108, s109, s110, s111, s112, s113, s114, s115, s116, s117, s118, s119, s120, s121, s122, s123, s124, s125, s126, s127, s128, s129, s130, s131, s132, s133, s134, s135, s136, s137, s138], defers := [] }) → Φ a) (L.length) ?_ ?_
  · refine fun Φ hΦ => hΦ _ _ _ _ _ _ _ _ _ _ _ _ _ _ _ _ _ _ _ _ _ _ _ _ _ _ _ _ _ _ _ _ _ _ _ _ _ _ _ _ _ _ _ _ _ _ _ _ _ _ _ _ _ _ _ _ _ _ _ _ _ _ _ _ _ _ _ _ _ _ _ _ _ _ _ _ _ _ _ _ _ _ _ _ _ _ _ _ _ _ _ _ _ _ _ _ _ _ _ _ _ _ _ _ _ _ _ _ _ _ _ _ _ _ _ _ _ _ _ _ _ _ _ _ _ _ _ _ _ _ _ _ _ (0) ?_
    exact ⟨by omega, Below.refl _ _⟩
  · intro k1 a1 wr1 hI1 J1 K1 hJ1 hK1
    refine hI1 (fun a => Code.wp _ _ _ a _) ?_
    clear hI1 a1
    intro s0 s1 s2 s3 s4 s5 s6 s7 s8 s9 s10 s11 s12 s13 s14 s15 s16 s17 s18 s19 s20 s21 s22 s23 s24 s25 s26 s27 s28 s29 s30 s31 s32 s33 s34 s35 s36 s37 s38 s39 s40 s41 s42 s43 s44 s45 s46 s47 s48 s49 s50 s51 s52 s53 s54 s55 s56 s57 s58 s59 s60 s61 s62 s63 s64 s65 s66 s67 s68 s69 s70 s71 s72 s73 s74 s75 s76 s77 s78 s79 s80 s81 s82 s83 s84 s85 s86 s87 s88 s89 s90 s91 s92 s93 s94 s95 s96 s97 s98 s99 s100 s101 s102 s103 s104 s105 s106 s107 s108 s109 s110 s111 s112 s113 s114 s115 s116 s117 s118 s119 s120 s121 s122 s123 s124 s125 s126 s127 s128 s129 s130 s131 s132 i hrel
    show Code.wp _ _ _ _ _
    conv => arg 2; whnf
    obtain ⟨h1, hB⟩ := hrel
    by_cases hi : i < L.length
    · obtain ⟨ad, off, rfl, hbl, hcell⟩ := acts_read HRR.out i hi
      obtain ⟨q0, q1, q2⟩ := hcell _ (HB0.out.nxt hB)
      have hlo : longA (L[i]'hi) = false := by
        have := HS.out
        rw [List.any_eq_false] at this
        simpa using this _ (List.getElem_mem hi)
      have HI := Lib.hid (And.intro h1 hB)
      have hi0 : (i : Int) < L.length := by omega
      have hi1 : (0 : Int) ≤ i := by omega
      have hi9 : (i : Int) < 30 := by omega
      clear h1 hB hbl hcell
      generalize L[i] = x at *
      obtain ⟨kind, key, value⟩ := x
      simp only at q0 q1 q2
      have hlen : key.length ≤ 100 := by simp [longA] at hlo; omega
      clear hlo
      have HBa : Hid (Below w1.heap.size w1 (wr1.alloc (.cells #[.int .i64 kind, .string ⟨key.toArray⟩, .string ⟨value.toArray⟩] 54))) := Lib.hid (HI.out.2.nxt (by go_grown))
      have HCell : Hid (∀ W, Below (wr1.alloc (.cells #[.int .i64 kind, .string ⟨key.toArray⟩, .string ⟨value.toArray⟩] 54)).heap.size (wr1.alloc (.cells #[.int .i64 kind, .string ⟨key.toArray⟩, .string ⟨value.toArray⟩] 54)) W → W.cell? ⟨wr1.heap.size, 1, none⟩ = some (.string ⟨key.toArray⟩)) := Lib.hid (fun W hW => ((Blk.new wr1 54 #[.int .i64 kind, .string ⟨key.toArray⟩, .string ⟨value.toArray⟩]).below hW (Blk.new _ _ _).lt).cell 1)
      go_wp2_with fail
      refine (trie_Get _ t v (HT.out.next HBa.out) key (by omega)).mono ?_
      rintro e w2 ⟨rfl, hb2⟩
      have d1 := HCell.out _ hb2
      have HB2 := Lib.hid (HBa.out.nxt hb2)
      obtain ⟨Av, nv, cv, hlk, hcv, _⟩ := HM.out.get Tryd.underlying60 key
      rw [HWt.out.look] at hcv
      have lk0 := hlk _ HB2.out
      have cv0 := hcv _ HB2.out
      clear hlk hcv hb2
      simp only [ss] at lk0
      rcases Trie.getW_look HT.out.1 key with ⟨e1, e2, e3⟩ | ⟨e1, e2⟩
      · rw [e1] at cv0
        rw [e2]
        have g1 : (((Trie.getW t key).2 : Int) == 0) = false := by simp; exact e3
        clear e1 e2 e3
        generalize (Trie.getW t key).2 = gc at *
        go_wp2_with fail
        refine Handed.intro (L.length - (i + 1)) ?_ (hJ1 _ _ _ (fun Φ hΦ => hΦ _ _ _ _ _ _ _ _ _ _ _ _ _ _ _ _ _ _ _ _ _ _ _ _ _ _ _ _ _ _ _ _ _ _ _ _ _ _ _ _ _ _ _ _ _ _ _ _ _ _ _ _ _ _ _ _ _ _ _ _ _ _ _ _ _ _ _ _ _ _ _ _ _ _ _ _ _ _ _ _ _ _ _ _ _ _ _ _ _ _ _ _ _ _ _ _ _ _ _ _ _ _ _ _ _ _ _ _ _ _ _ _ _ _ _ _ _ _ _ _ _ _ _ _ _ _ _ _ _ _ _ _ _ (i + 1) ?_))
        · have := HI.out.1
          show L.length - (i + 1) < k1
          omega
        · have := HI.out.1
          exact ⟨by omega, HB2.out⟩
      · rw [e2]
        have ne1 : ((Trie.look t (Nib.of key)).toArray = #[]) = False := by simp [e1]
        have ne2 : (Trie.look t (Nib.of key)).isEmpty = false := by simp [e1]
        clear e1 e2
        generalize Trie.look t (Nib.of key) = lv at *
        go_wp2_with fail
        refine Handed.intro (L.length - (i + 1)) ?_ (hJ1 _ _ _ (fun Φ hΦ => hΦ _ _ _ _ _ _ _ _ _ _ _ _ _ _ _ _ _ _ _ _ _ _ _ _ _ _ _ _ _ _ _ _ _ _ _ _ _ _ _ _ _ _ _ _ _ _ _ _ _ _ _ _ _ _ _ _ _ _ _ _ _ _ _ _ _ _ _ _ _ _ _ _ _ _ _ _ _ _ _ _ _ _ _ _ _ _ _ _ _ _ _ _ _ _ _ _ _ _ _ _ _ _ _ _ _ _ _ _ _ _ _ _ _ _ _ _ _ _ _ _ _ _ _ _ _ _ _ _ _ _ _ _ _ (i + 1) ?_))
        · have := HI.out.1
          show L.length - (i + 1) < k1
          omega
        · have := HI.out.1
          exact ⟨by omega, HB2.out⟩
    · have hi2 : ((i : Int) < L.length) = False := by simp; omega
      have H := Lib.hid hB
      clear h1 hB hi
      go_wp2_with fail
      exact HQ.out _ _ _ _ _ _ _ _ _ _ _ _ _ _ _ _ _ _ _ _ _ _ _ _ _ _ _ _ _ _ _ _ _ _ _ _ _ _ _ _ _ _ _ _ _ _ _ _ _ _ _ _ _ _ _ _ _ _ _ _ _ _ _ _ _ _ _ _ _ _ _ _ _ _ _ _ _ _ _ _ _ _ _ _ _ _ _ _ _ _ _ _ _ _ _ _ _ _ _ _ _ _ _ _ _ _ _ _ _ _ _ _ _ _ _ _ _ _ _ _ _ _ _ _ _ _ _ _ _ _ _ _ _ _ _ _ _ H.out

set_option maxRecDepth 100000 in
set_option maxHeartbeats 1000000 in
theorem law_TrieMap (w : World) (A0 : Option Addr) (c0 : Nat) (L0 : List Act10) (HR0 : Reads w w.heap.size 3 A0 L0.length (acts L0)) (hT : Tbl w) :
    Calls Tryd.prog 5 #[.slice A0 L0.length c0] w fun e w' => e = .returned (.bool true) ∧ Below w.heap.size w w' := by
  have HP : Hid (∀ w', Below w.heap.size w w' → (fun e w' => e = Ending.returned (.bool true) ∧ Below w.heap.size w w') (Ending.returned (.bool true)) w') := Lib.hid (fun W' a2 => ⟨rfl, a2⟩)
  generalize (fun e w' => e = Ending.returned (.bool true) ∧ Below w.heap.size w w') = P at HP ⊢
  have HTb := Lib.hid hT
  have HA := Lib.hid HR0
  have hmm := @run_makeMap Tryd.prog
  clear hT HR0
  have HL0 : Hid (∀ W, Below w.heap.size w W → Calls Tryd.prog 29 #[.slice A0 L0.length c0, .int .i64 30] W fun e w' => e = .returned (.bool (longW L0 30)) ∧ Below W.heap.size W w') := Lib.hid (fun W hW => law10_long W A0 c0 L0 30 ((HA.out.below hW).more hW.size) (by omega))
  go_enter Tryd.func5, Tryd.ntmps5
  go_wp2_with fail
  refine (law10_works _ HTb.out).mono ?_
  rintro e w1 ⟨rfl, hb1⟩
  have HB1 := Lib.hid hb1
  clear hb1
  go_wp2_with fail
  refine (HL0.out _ HB1.out).mono ?_
  rintro e w2 ⟨rfl, hb2⟩
  have HB2 := Lib.hid (HB1.out.nxt hb2)
  clear hb2
  cases hlo0 : longW L0 30 with
  | true =>
    go_wp2_with fail
    exact HP.out _ HB2.out
  | false =>
  have hs0 : L0.any longA = false := by simp [longW] at hlo0 ⊢; exact hlo0.2
  have hl0 : L0.length ≤ 30 := by simp [longW] at hlo0; omega
  have HM0 : Hid (∀ W, Below w.heap.size w W → Calls Tryd.prog 35 #[.slice A0 L0.length c0] W (NewEnd W (Trie.madeW L0))) := Lib.hid (fun W hW => law10_made W A0 c0 L0 ((HA.out.below hW).more hW.size) hs0 (HTb.out.next hW))
  have HS := Lib.hid hs0
  have HL := Lib.hid hl0
  have HC0 := Lib.hid (Trie.made_count L0)
  have HWt : Hid (Trie.Wt (L0.foldl Trie.actB []) (Trie.madeW L0)) := Lib.hid (by
    have := Trie.Wt.acts L0 [] .nil Trie.Wt.nil Trie.Good.nil
    unfold Trie.madeW
    rw [List.take_of_length_le hl0]
    exact this)
  clear hlo0 hs0 hl0 HL0
  go_wp2_with fail
  have HBm : Hid (BMap (w2.alloc (.map #[] 0)) w2.heap.size []) := Lib.hid (BMap.made w2 0)
  have HB3 : Hid (Below w.heap.size w (w2.alloc (.map #[] 0))) := Lib.hid (HB2.out.nxt (by go_grown))
  refine tmap_one w A0 c0 L0 HA.out HL.out _ w2.heap.size HB2.out.size HBm.out HB3.out _ ?_ _ _ _ _ _ _ _ _ _ _ _ _ _ _ _ _ _ _ _ _ _ _ _ _ _ _ _ _ _ _ _ _ _ _ _ _ _ _ _ _ _ _ _ _ _ _ _ _ _ _ _ _ _ _ _ _ _ _ _ _ _ _ _ _ _ _ _ _ _ _ _ _ _ _ _ _ _ _ _ _ _ _ _ _ _ _ _ _ _ _ _ _ _ _ _ _ _ _ _ _ _ _ _ _ _ _ _ _ _ _ _ _ _ _ _ _ _ _ _ _ _ _ _ _ _ _ _ _ _ _ _ _ _ _
  intro s1 s2 s4 s5 s6 s7 s8 s9 s10 s11 s12 s13 s14 s15 s16 s17 s18 s19 s20 s21 s22 s23 s24 s25 s26 s27 s28 s29 s30 s31 s32 s33 s34 s35 s36 s37 s38 s39 s40 s41 s42 s43 s44 s45 s46 s47 s48 s49 s50 s51 s52 s53 s54 s55 s56 s57 s58 s59 s60 s61 s62 s63 s64 s65 s66 s67 s68 s69 s70 s71 s72 s73 s74 s75 s76 s77 s78 s79 s80 s81 s82 s83 s84 s85 s86 s87 s88 s89 s90 s91 s92 s93 s94 s95 s96 s97 s98 s99 s100 s101 s102 s103 s104 s105 s106 s107 s108 s109 s110 s111 s112 s113 s114 s115 s116 s117 s118 s119 s120 s121 s122 s123 s124 s125 s126 s127 s128 s129 s130 s131 s132 s133 s134 s135 s136 s137 s138 w4 hm4 hb4
  have HM4 := Lib.hid hm4
  have HB4 := Lib.hid hb4
  clear hm4 hb4 HBm HB3
  generalize L0.foldl Trie.actB [] = D at *
  generalize Trie.madeW L0 = t at *
  go_wp2_with fail
  refine (HM0.out _ HB4.out).mono ?_
  rintro e w5 ⟨v5, rfl, hk5, hb5⟩
  have HB5 := Lib.hid (HB4.out.nxt hb5)
  have HM5 := Lib.hid (HM4.out.next hb5)
  have HK5 := Lib.hid hk5
  clear hb5 hk5 HM0 HM4
  obtain ⟨_, bt, xt, rfl, _, _⟩ := id HK5.out
  go_wp2_with fail
  refine (trie_Items _ _ _ HK5.out (by have := HC0.out.1; omega)).mono ?_
  rintro e w6 ⟨A6, n6, c6, rfl, rfl, own6, hb6⟩
  have HB6 := Lib.hid (HB5.out.nxt hb6)
  have HM6 := Lib.hid (HM5.out.next hb6)
  have HK6 := Lib.hid (HK5.out.next hb6)
  have R6 := Lib.hid (Reads.of_own own6)
  have HLn : Hid ((Trie.itemsW t).length = Trie.count t ∧ D.length = Trie.count t ∧ Trie.count t ≤ 30) := Lib.hid ⟨Trie.itemsW_length t, HWt.out.length HC0.out.2, HC0.out.1⟩
  have HRi : Hid (Trie.rises (Trie.itemsW t)) := Lib.hid (Trie.rises_itemsW HC0.out.2)
  have HDD : Hid (∀ x ∈ Trie.itemsW t, (lookB D x.1).getD [] = x.2) := Lib.hid (fun x hx => by
    rw [HWt.out.look]
    exact ((Trie.mem_itemsW HC0.out.2 x.1 x.2).1 hx).1)
  have hln := HLn.out.1
  have hcn := HLn.out.2.2
  rw [hln]
  generalize hgl : Trie.itemsW t = l at *
  have HGL := Lib.hid hgl
  clear hb6 own6 HM5 HK5 hgl
  rw [← hln]
  clear hln
  have hlc : (l.length : Int) ≤ 30 := by have := HLn.out; omega
  go_wp2_with fail
  refine tmap_two w6 w2.heap.size D HM6.out A6 c6 l R6.out (by have := HLn.out; omega) HRi.out HDD.out _ _ _ ?_ _ _ _ _ _ _ _ _ _ _ _ _ _ _ _ _ _ _ _ _ _ _ _ _ _ _ _ _ _ _ _ _ _ _ _ _ _ _ _ _ _ _ _ _ _ _ _ _ _ _ _ _ _ _ _ _ _ _ _ _ _ _ _ _ _ _ _ _ _ _ _ _ _ _ _ _ _ _ _ _ _ _ _ _ _ _ _ _ _ _ _ _ _ _ _ _ _ _ _ _ _ _ _ _ _ _ _ _ _ _ _ _ _ _ _ _ _ _ _ _ _ _ _ _ _ _ _ _ _ _ _ _
  intro s1 s2 s4 s5 s6 s9 s10 s11 s12 s13 s14 s15 s16 s17 s18 s19 s20 s21 s22 s23 s24 s25 s26 s27 s28 s29 s30 s31 s32 s33 s34 s35 s36 s37 s38 s39 s40 s41 s42 s43 s44 s45 s46 s47 s48 s49 s50 s51 s52 s53 s54 s55 s56 s57 s58 s59 s60 s61 s62 s63 s64 s65 s66 s67 s68 s69 s70 s71 s72 s73 s74 s75 s76 s77 s78 s79 s80 s81 s82 s83 s84 s85 s86 s87 s88 s89 s90 s91 s92 s93 s94 s95 s96 s97 s98 s99 s100 s101 s102 s103 s104 s105 s106 s107 s108 s109 s110 s111 s112 s113 s114 s115 s116 s117 s118 s119 s120 s121 s122 s123 s124 s125 s126 s127 s128 s129 s130 s131 s132 s133 s134 s135 s136 s137 s138 w7 hb7
  have HB7 := Lib.hid (HB6.out.nxt hb7)
  have HM7 := Lib.hid (HM6.out.next hb7)
  have HK7 := Lib.hid (HK6.out.next hb7)
  clear hb7 HM6 HK6
  go_wp2_with fail
  refine tmap_three w A0 c0 L0 HA.out HL.out HS.out w7 HB7.out w2.heap.size D t _ HM7.out HK7.out HWt.out _ _ ?_ _ _ _ _ _ _ _ _ _ _ _ _ _ _ _ _ _ _ _ _ _ _ _ _ _ _ _ _ _ _ _ _ _ _ _ _ _ _ _ _ _ _ _ _ _ _ _ _ _ _ _ _ _ _ _ _ _ _ _ _ _ _ _ _ _ _ _ _ _ _ _ _ _ _ _ _ _ _ _ _ _ _ _ _ _ _ _ _ _ _ _ _ _ _ _ _ _ _ _ _ _ _ _ _ _ _ _ _ _ _ _ _ _ _ _ _ _ _ _ _ _ _ _ _ _ _ _ _ _ _ _ _ _
  intro s0 s1 s2 s4 s5 s6 s9 s10 s11 s12 s13 s14 s15 s16 s17 s18 s19 s20 s21 s22 s23 s24 s25 s26 s27 s28 s29 s30 s31 s32 s33 s34 s35 s36 s37 s38 s39 s40 s41 s42 s43 s44 s45 s46 s47 s48 s49 s50 s51 s52 s53 s54 s55 s56 s57 s58 s59 s60 s61 s62 s63 s64 s65 s66 s67 s68 s69 s70 s71 s72 s73 s74 s75 s76 s77 s78 s79 s80 s81 s82 s83 s84 s85 s86 s87 s88 s89 s90 s91 s92 s93 s94 s95 s96 s97 s98 s99 s100 s101 s102 s103 s104 s105 s106 s107 s108 s109 s110 s111 s112 s113 s114 s115 s116 s117 s118 s119 s120 s121 s122 s123 s124 s125 s126 s127 s128 s129 s130 s131 s132 s133 s134 s135 s136 s137 s138 w8 hb8
  have HB8 := Lib.hid (HB7.out.nxt hb8)
  have HM8 := Lib.hid (HM7.out.next hb8)
  have HK8 := Lib.hid (HK7.out.next hb8)
  clear hb8 HM7 HK7
  have hrun := fun ty => HM8.out.len Tryd.underlying60 ty
  have hDl : Hid (D.length = l.length) := Lib.hid (by have := HLn.out; omega)
  rw [hDl.out] at hrun
  go_wp2_with fail
  refine (trie_Len _ _ _ HK8.out).mono ?_
  have hcl : Hid (Trie.count t = l.length) := Lib.hid HLn.out.1.symm
  rw [hcl.out]
  rintro e w9 ⟨rfl, rfl⟩
  go_wp2_with fail
  exact HP.out _ HB8.out
end Go.Proofs.YtaplecncnkkigaaDoor
