import Derived.Test.YtcjafcbekegmlaaGreatDoorJ36
import Derived.OneCell
set_option linter.unusedSimpArgs false
set_option linter.unusedVariables false
namespace Go.Proofs.YtcjafcbekegmlaaGreatDoor
set_option linter.unusedVariables false
open Go.RowKit Go.Instr
attribute [local go_sem] ba_get ByteArray.mk_append_mk
def KsT (kids : Fin 16 → Trie.T) (i : Nat) : List (List UInt8) := List.ofFn fun j : Fin 16 => if j.val < i then Trie.sumT (kids j) else []
theorem KsT_len (kids : Fin 16 → Trie.T) (i : Nat) : (KsT kids i).length = 16 := by simp [KsT]
theorem KsT_zero (kids : Fin 16 → Trie.T) : KsT kids 0 = List.replicate 16 [] := by
  apply List.ext_getElem?
  intro j
  simp only [KsT, List.getElem?_ofFn, List.getElem?_replicate]
  split <;> simp
theorem KsT_all (v : List UInt8) (kids : Fin 16 → Trie.T) : KsT kids 16 = Trie.sumsT (.branch v kids) := by
  unfold KsT Trie.sumsT Trie.kidsT
  congr 1
  funext j
  rw [if_pos j.isLt]
theorem KsT_succ (kids : Fin 16 → Trie.T) (i : Fin 16) : KsT kids (i.val + 1) = (KsT kids i.val).set i.val (Trie.sumT (kids i)) := by
  apply List.ext_getElem?
  intro j
  rw [List.getElem?_set]
  simp only [KsT, List.getElem?_ofFn, List.length_ofFn]
  by_cases hj : j < 16
  · by_cases e : i.val = j
    · subst e
      simp
    · simp only [hj, dite_true, e, if_false]
      by_cases h2 : j < i.val
      · rw [if_pos h2, if_pos (by omega)]
      · rw [if_neg h2, if_neg (by omega)]
  · simp [hj]
    intro e; omega
theorem KsT_nil (kids : Fin 16 → Trie.T) (i : Fin 16) (h : kids i = .nil) : KsT kids (i.val + 1) = KsT kids i.val := by
  unfold KsT
  congr 1
  funext j
  by_cases e : j = i
  · subst e
    rw [h]
    simp [Trie.sumT]
  · have : j.val ≠ i.val := fun h => e (Fin.ext h)
    by_cases h2 : j.val < i.val
    · rw [if_pos h2, if_pos (by omega)]
    · rw [if_neg h2, if_neg (by omega)]
theorem nodeV_set (k : Nat) (p v : List UInt8) (K : List (List UInt8)) (i : Nat) (s : List UInt8) : (nodeV k p v K).toArray.setIfInBounds (3 + i) (.string ⟨s.toArray⟩) = (nodeV k p v (K.set i s)).toArray := by
  rw [List.setIfInBounds_toArray]
  congr 1
  simp only [nodeV, strv]
  rw [show 3 + i = i + 1 + 1 + 1 by omega, List.set_cons_succ, List.set_cons_succ, List.set_cons_succ, List.map_set]
def flatK (kids : Fin 16 → Trie.T) : List Trie.KV := (List.finRange 16).flatMap fun j => Trie.items (kids j) [Trie.hb j]
theorem flatK_head (kids : Fin 16 → Trie.T) : ∀ x ∈ flatK kids, x.1 ≠ [] := by
  intro x hx
  unfold flatK at hx
  rw [List.mem_flatMap] at hx
  obtain ⟨j, _, hx⟩ := hx
  rw [Trie.items_pl, List.mem_map] at hx
  obtain ⟨y, _, rfl⟩ := hx
  simp
theorem goKids_len {v : List UInt8} {kids : Fin 16 → Trie.T} (hw : Trie.wf (.branch v kids)) (hc : Trie.count (.branch v kids) ≤ 20000) (pl : List UInt8) (i : Nat) : (Trie.goKids allW kids pl i).length ≤ 100000 := by
  have h := Trie.goT_short hw hc allW pl
  simp only [Trie.goT] at h
  have e : allW pl = true := rfl
  rw [if_pos e, ← Trie.goKids_all, List.length_cons] at h
  have h2 : (Trie.goKids allW kids pl i).length ≤ (Trie.goKids allW kids pl 16).length := by
    unfold Trie.goKids
    rw [show (List.finRange 16).take 16 = List.finRange 16 from List.take_of_length_le (by simp)]
    conv => rhs; rw [← List.take_append_drop i (List.finRange 16), List.flatMap_append, List.length_append]
    omega
  omega
end Go.Proofs.YtcjafcbekegmlaaGreatDoor

namespace Go.Proofs.YtcjafcbekegmlaaGreatDoor
set_option linter.unusedVariables false
open Go.RowKit Go.Instr
attribute [local go_sem] ba_get ByteArray.mk_append_mk
set_option maxRecDepth 100000 in
set_option maxHeartbeats 8000000 in
theorem grown_outer (w w0 : World) (v : List UInt8) (kids : Fin 16 → Trie.T) (pl : List UInt8) (ha : Trie.At pl (.branch v kids)) (hc : Trie.count (.branch v kids) ≤ 2000) (IH : ∀ i, GrownAt (kids i) (pl ++ [Trie.hb i]))
    (l : List Trie.KV) (hl : l = flatK kids) (hll : l.length ≤ 2000) (A : Option Addr) (c : Nat) (HR : Reads w w.heap.size 2 A l.length (icells l)) (nb : Nat) (F : Hid (Live w w0 [(nb, 107, (nodeV 3 [] v (KsT kids 0)).toArray)]))
    (Q : Exit → Act → World → Prop)
    (hQ : ∀ (s0 s2 s3 s4 s5 s6 s7 s10 s11 s12 s13 s14 s15 s16 s17 s18 s19 s20 s21 s22 s23 s24 s25 s26 s27 s28 s29 s30 s31 s32 s33 s34 s35 s36 s37 s38 s39 s40 s41 s42 s43 s44 s45 s46 s47 s48 s49 s50 s51 s52 s53 s54 s55 s56 s57 s58 s59 s60 s61 s62 s63 s64 s65 s66 s67 s68 s69 s70 s71 s72 s73 s74 s75 s76 s77 s78 s79 s80 s81 s82 s83 s84 s85 s86 s87 s88 s89 s90 s91 s92 s93 s94 s95 s96 s97 s98 s99 s100 s101 s102 s103 s104 s105 s106 s107 s108 s109 s110 s111 s112 s113 s114 s115 s116 s117 s118 s119 s120 s121 s122 s123 s124 s125 s126 s127 s128 s129 s130 s131 s132 s133 s134 s135 s136 s137 s138 : Value) (A2 : Option Addr) (n2 c2 : Nat) (w2 : World), n2 = (Trie.goKids allW kids pl 16).length → w2.ownsRow w.heap.size 114 22 (.slice A2 n2 c2) n2 (spv (Trie.goKids allW kids pl 16)) → Live w w2 [(nb, 107, (nodeV 3 [] v (KsT kids 16)).toArray)] → Q (.exit 0) { tmps := #[s0, .string ⟨pl.toArray⟩, s2, s3, s4, s5, s6, s7, .pointer (some ⟨nb, 0, none⟩), .slice A2 n2 c2, s10, s11, s12, s13, s14, s15, s16, s17, s18, s19, s20, s21, s22, s23, s24, s25, s26, s27, s28, s29, s30, s31, s32, s33, s34, s35, s36, s37, s38, s39, s40, s41, s42, s43, s44, s45, s46, s47, s48, s49, s50, s51, s52, s53, s54, s55, s56, s57, s58, s59, s60, s61, s62, s63, s64, s65, s66, s67, s68, s69, s70, s71, s72, s73, s74, s75, s76, s77, s78, s79, s80, s81, s82, s83, s84, s85, s86, s87, s88, s89, s90, s91, s92, s93, s94, s95, s96, s97, s98, s99, s100, s101, s102, s103, s104, s105, s106, s107, s108, s109, s110, s111, s112, s113, s114, s115, s116, s117, s118, s119, s120, s121, s122, s123, s124, s125, s126, s127, s128, s129, s130, s131, s132, s133, s134, s135, s136, s137, s138], defers := [] } w2)
    (s2 s3 s4 s5 s6 s7 s11 s12 s13 s14 s15 s16 s17 s18 s19 s20 s21 s22 s23 s24 s25 s26 s27 s28 s29 s30 s31 s32 s33 s34 s35 s36 s37 s38 s39 s40 s41 s42 s43 s44 s45 s46 s47 s48 s49 s50 s51 s52 s53 s54 s55 s56 s57 s58 s59 s60 s61 s62 s63 s64 s65 s66 s67 s68 s69 s70 s71 s72 s73 s74 s75 s76 s77 s78 s79 s80 s81 s82 s83 s84 s85 s86 s87 s88 s89 s90 s91 s92 s93 s94 s95 s96 s97 s98 s99 s100 s101 s102 s103 s104 s105 s106 s107 s108 s109 s110 s111 s112 s113 s114 s115 s116 s117 s118 s119 s120 s121 s122 s123 s124 s125 s126 s127 s128 s129 s130 s131 s132 s133 s134 s135 s136 s137 s138 : Value) :
    Code.wp Tryz.prog (.loop (loopAt Tryz.f88 0)) Q { tmps := #[.slice A l.length c, .string ⟨pl.toArray⟩, s2, s3, s4, s5, s6, s7, .pointer (some ⟨nb, 0, none⟩), .slice none 0 0, .int .i64 0, s11, s12, s13, s14, s15, s16, s17, s18, s19, s20, s21, s22, s23, s24, s25, s26, s27, s28, s29, s30, s31, s32, s33, s34, s35, s36, s37, s38, s39, s40, s41, s42, s43, s44, s45, s46, s47, s48, s49, s50, s51, s52, s53, s54, s55, s56, s57, s58, s59, s60, s61, s62, s63, s64, s65, s66, s67, s68, s69, s70, s71, s72, s73, s74, s75, s76, s77, s78, s79, s80, s81, s82, s83, s84, s85, s86, s87, s88, s89, s90, s91, s92, s93, s94, s95, s96, s97, s98, s99, s100, s101, s102, s103, s104, s105, s106, s107, s108, s109, s110, s111, s112, s113, s114, s115, s116, s117, s118, s119, s120, s121, s122, s123, s124, s125, s126, s127, s128, s129, s130, s131, s132, s133, s134, s135, s136, s137, s138], defers := [] } w0 := by
  have HQ := Lib.hid hQ
  have HRR := Lib.hid HR
  have HC := Lib.hid (And.intro ha hc)
  have HIH := Lib.hid IH
  have HL := Lib.hid (And.intro hl hll)
  have HPl := Lib.hid (Trie.At.len ha (by simp))
  clear hQ HR ha hc IH hll hl
  refine wp_loop_ghost_k (fun k a wr => ∀ Φ : Act → Prop, (∀ (s2 s3 s4 s5 s6 s7 s11 s12 s13 s14 s15 s16 s17 s18 s19 s20 s21 s22 s23 s24 s25 s26 s27 s28 s29 s30 s31 s32 s33 s34 s35 s36 s37 s38 s39 s40 s41 s42 s43 s44 s45 s46 s47 s48 s49 s50 s51 s52 s53 s54 s55 s56 s57 s58 s59 s60 s61 s62 s63 s64 s65 s66 s67 s68 s69 s70 s71 s72 s73 s74 s75 s76 s77 s78 s79 s80 s81 s82 s83 s84 s85 s86 s87 s88 s89 s90 s91 s92 s93 s94 s95 s96 s97 s98 s99 s100 s101 s102 s103 s104 s105 s106 s107 s108 s109 s110 s111 s112 s113 s114 s115 s116 s117 s118 s119 s120 s121 s122 s123 s124 s125 s126 s127 s128 s129 s130 s131 s132 s133 s134 s135 s136 s137 s138 : Value) (i n c2 : Nat) (O : Option Addr), (i + k = 16 ∧ n = (Trie.goKids allW kids pl i).length ∧ wr.ownsRow w.heap.size 114 22 (.slice O n c2) n (spv (Trie.goKids allW kids pl i)) ∧ Live w wr [(nb, 107, (nodeV 3 [] v (KsT kids i)).toArray)]) → Φ { tmps := #[.slice A l.length c, .string ⟨pl.toArray⟩, s2, s3, s4, s5, s6, s7, .pointer (some ⟨nb, 0, none⟩), .slice O n c2, .int .i64 (i : Int), s11, s12, s13, s14, s15, s16, s17, s18, s19, s20, s21, s22, s23, s24, s25, s26, s27, s28, s29, s30, s31, s32, s33, s34, s35, s36, s37, s38, s39, s40, s41, s42, s43, s44, s45, s46, s47, s48, s49, s50, s51, s52, s53, s54, s55, s56, s57, s58, s59, s60, s61, s62, s63, s64, s65, s66, s67, s68, s69, s70, s71, s72, s73, s74, s75, s76, s77, s78, s79, s80, s81, s82, s83, s84, s85, s86, s87, s88, s89, s90, s91, s92, s93, s94, s95, s96, s97, s98, s99, s100, s101, s102, s103, s104, s105, s106, s107, s108, s109, s110, s111, s112, s113, s114, s115, s116, s117, s118, s119, s120, s121, s122, s123, s124, s125, s126, s127, s128, s129, s130, s131, s132, s133, s134, s135, s136, s137, s138], defers := [] }) → Φ a) (16) ?_ ?_
  · refine fun Φ hΦ => hΦ _ _ _ _ _ _ _ _ _ _ _ _ _ _ _ _ _ _ _ _ _ _ _ _ _ _ _ _ _ _ _ _ _ _ _ _ _ _ _ _ _ _ _ _ _ _ _ _ _ _ _ _ _ _ _ _ _ _ _ _ _ _ _ _ _ _ _ _ _ _ _ _ _ _ _ _ _ _ _ _ _ _ _ _ _ _ _ _ _ _ _ _ _ _ _ _ _ _ _ _ _ _ _ _ _ _ _ _ _ _ _ _ _ _ _ _ _ _ _ _ _ _ _ _ _ _ _ _ _ _ _ _ _ _ (0) (0) (0) (none) ?_
    exact ⟨by omega, rfl, World.ownsRow_nil _ _ _ _, F.out⟩
  · intro k1 a1 wr1 hI1 J1 K1 hJ1 hK1
    refine hI1 (fun a => Code.wp _ _ _ a _) ?_
    clear hI1 a1
    intro s0 s1 s2 s3 s4 s5 s6 s7 s8 s9 s10 s11 s12 s13 s14 s15 s16 s17 s18 s19 s20 s21 s22 s23 s24 s25 s26 s27 s28 s29 s30 s31 s32 s33 s34 s35 s36 s37 s38 s39 s40 s41 s42 s43 s44 s45 s46 s47 s48 s49 s50 s51 s52 s53 s54 s55 s56 s57 s58 s59 s60 s61 s62 s63 s64 s65 s66 s67 s68 s69 s70 s71 s72 s73 s74 s75 s76 s77 s78 s79 s80 s81 s82 s83 s84 s85 s86 s87 s88 s89 s90 s91 s92 s93 s94 s95 s96 s97 s98 s99 s100 s101 s102 s103 s104 s105 s106 s107 s108 s109 s110 s111 s112 s113 s114 s115 s116 s117 s118 s119 s120 s121 s122 s123 s124 s125 s126 s127 s128 s129 s130 s131 s132 s133 i n c2 O hrel
    show Code.wp _ _ _ _ _
    clear F
    conv => arg 2; whnf
    obtain ⟨h1, h2, own, hF⟩ := hrel
    have F := Lib.hid hF
    clear hF
    by_cases hi : i < 16
    · have hi1 : (i : Int) < 16 := by omega
      have HI := Lib.hid h1
      have O1 := Lib.hid (And.intro h2 own)
      clear h1 h2 own
      go_upto_region 21 with fail
      refine grown_inner wr1 l A c ((HRR.out.below F.out.b).more F.out.b.size) HL.out.2 (by rw [HL.out.1]; exact flatK_head kids) i hi pl nb (.slice O n c2) _ ?_ _ _ _ _ _ _ _ _ _ _ _ _ _ _ _ _ _ _ _ _ _ _ _ _ _ _ _ _ _ _ _ _ _ _ _ _ _ _ _ _ _ _ _ _ _ _ _ _ _ _ _ _ _ _ _ _ _ _ _ _ _ _ _ _ _ _ _ _ _ _ _ _ _ _ _ _ _ _ _ _ _ _ _ _ _ _ _ _ _ _ _ _ _ _ _ _ _ _ _ _ _ _ _ _ _ _ _ _ _ _ _ _ _ _ _ _ _ _ _ _ _ _ _ _ _ _ _ _ _ _ _ _
      intro s2 s3 s4 s5 s6 s7 s12 s13 s14 s15 s16 s17 s18 s19 s20 s21 s22 s23 s24 s25 s26 s27 s28 s29 s30 s31 s32 s33 s34 s35 s36 s37 s38 s39 s40 s41 s42 s43 s44 s45 s46 s47 s48 s49 s50 s51 s52 s53 s54 s55 s56 s57 s58 s59 s60 s61 s62 s63 s64 s65 s66 s67 s68 s69 s70 s71 s72 s73 s74 s75 s76 s77 s78 s79 s80 s81 s82 s83 s84 s85 s86 s87 s88 s89 s90 s91 s92 s93 s94 s95 s96 s97 s98 s99 s100 s101 s102 s103 s104 s105 s106 s107 s108 s109 s110 s111 s112 s113 s114 s115 s116 s117 s118 s119 s120 s121 s122 s123 s124 s125 s126 s127 s128 s129 s130 s131 s132 s133 s134 s135 s136 s137 s138 A2 n2 c2' w2 g1 g2 g3
      have F2 := Live.hb F g3
      have O2 := Lib.hid (And.intro O1.out.1 (own_below O1.out.2 g3))
      have hsw : someW l i = Trie.items (kids ⟨i, hi⟩) [Trie.hb ⟨i, hi⟩] := by rw [HL.out.1]; exact Trie.kid_filter kids ⟨i, hi⟩
      have hat := HC.out.1.kid ⟨i, hi⟩
      have hcn : Trie.count (kids ⟨i, hi⟩) ≤ 2000 := Nat.le_trans (Trie.count_kid v kids ⟨i, hi⟩) HC.out.2
      rw [hsw] at g1 g2
      have hlen : (Trie.items (kids ⟨i, hi⟩) [Trie.hb ⟨i, hi⟩]).length = Trie.count (kids ⟨i, hi⟩) := Trie.length_items _ _
      have HLs : Hid (∀ W, Below w2.heap.size w2 W → Calls Tryz.prog 121 #[.slice A2 n2 c2', .int .i64 1] W (ItemsEnd W (Trie.items (kids ⟨i, hi⟩) []))) := Lib.hid (fun W hb => by
        subst g1
        have := ref10_less W A2 c2' (Trie.items (kids ⟨i, hi⟩) [Trie.hb ⟨i, hi⟩]) (((Reads.of_own g2).below hb).more hb.size) (by omega) 1 (fun y hy => by
          rw [Trie.items_pl, List.mem_map] at hy
          obtain ⟨y0, hy0, rfl⟩ := hy
          have := (Trie.items_short hat y0 hy0).1
          simp only [List.cons_append, List.nil_append, List.length_cons]
          omega)
        rw [show lessW (Trie.items (kids ⟨i, hi⟩) [Trie.hb ⟨i, hi⟩]) 1 = Trie.items (kids ⟨i, hi⟩) [] from Trie.less_items (kids ⟨i, hi⟩) [Trie.hb ⟨i, hi⟩]] at this
        exact this)
      have HG : Hid (∀ (W : World) (A1 : Option Addr) (n1 c1 : Nat), n1 = (Trie.items (kids ⟨i, hi⟩) []).length → n1 ≤ c1 → Reads W W.heap.size 2 A1 n1 (icells (Trie.items (kids ⟨i, hi⟩) [])) → Calls Tryz.prog 88 #[.slice A1 n1 c1, .string ⟨(pl ++ [UInt8.ofNat i]).toArray⟩] W (SpotsEnd W (Trie.goT allW (kids ⟨i, hi⟩) (pl ++ [UInt8.ofNat i])))) := Lib.hid (fun W A1 n1 c1 hn1 hcc hr => HIH.out ⟨i, hi⟩ W A1 c1 n1 (by rw [hn1, Trie.length_items]) hcc hr)
      have HGT : Hid ((kids ⟨i, hi⟩ = .nil → Trie.goT allW (kids ⟨i, hi⟩) (pl ++ [UInt8.ofNat i]) = []) ∧ (kids ⟨i, hi⟩ ≠ .nil → ∀ (W : World) (base : Nat) (A1 : Option Addr) (n1 c1 : Nat), n1 = (Trie.goT allW (kids ⟨i, hi⟩) (pl ++ [UInt8.ofNat i])).length → W.ownsRow base 114 22 (.slice A1 n1 c1) n1 (spv (Trie.goT allW (kids ⟨i, hi⟩) (pl ++ [UInt8.ofNat i]))) → ∃ g, A1 = some ⟨g, 0, none⟩ ∧ g < W.heap.size ∧ 0 < n1 ∧ W.cell? ⟨g, 2, none⟩ = some (.string ⟨(Trie.sumT (kids ⟨i, hi⟩)).toArray⟩))) := Lib.hid ⟨fun h => by rw [h]; rfl, fun htn W base A1 n1 c1 hn1 hr => by
        obtain ⟨D0, hD0⟩ := goT_head htn (pl ++ [UInt8.ofNat i])
        have hp : 0 < n1 := by rw [hn1, hD0]; simp
        obtain ⟨g, cap, hv, _, hlt⟩ := hr.form hp
        have hA : A1 = some ⟨g, 0, none⟩ := by injection hv
        subst hA
        refine ⟨g, rfl, hlt, hp, ?_⟩
        have := hr.cells (g := g) rfl 2 (.string ⟨(Trie.sumT (kids ⟨i, hi⟩)).toArray⟩) (by rw [hD0]; rfl)
        exact this⟩
      have HSu : Hid (Trie.goKids allW kids pl (i + 1) = Trie.goKids allW kids pl i ++ Trie.goT allW (kids ⟨i, hi⟩) (pl ++ [UInt8.ofNat i])) := Lib.hid (Trie.goKids_succ allW kids pl ⟨i, hi⟩)
      have HLn : Hid ((Trie.goKids allW kids pl i).length ≤ 100000 ∧ (Trie.goT allW (kids ⟨i, hi⟩) (pl ++ [UInt8.ofNat i])).length ≤ 100000) := Lib.hid ⟨goKids_len HC.out.1.wf (by have := HC.out.2; omega) pl i, Trie.goT_short hat.wf (by omega) _ _⟩
      generalize Trie.goT allW (kids ⟨i, hi⟩) (pl ++ [UInt8.ofNat i]) = GT at *
      generalize Trie.goKids allW kids pl i = GK at *
      generalize Trie.items (kids ⟨i, hi⟩) [] = I at *
      clear hsw hat hcn hlen g1 g2 g3 F O1 HIH
      have hplen := HPl.out
      have b0 : (0 : Int) ≤ (i : Int) := by omega
      have b1 : (i : Int) < 256 := by omega
      have e1 : IntKind.u8.wrap (i : Int) = i := IntWalk.u8_in _ (by omega)
      have FA := Live.ha F2 #[.int .u8 (i : Int)] 5
      have cd := conv1b (FA.out.blk 0 rfl).drew b0 b1
      rw [Int.toNat_natCast] at cd
      have hn1 : (9223372036854775807 < pl.length + 1) = False := by simp; omega
      have hn2 : pl.length + 1 ≤ 9223372036854775807 := by omega
      go_upto_region 25 with fail
      refine wp_region_noPanic ?_
      go_region_law (first | (refine step_call rfl 121 #[.slice A2 n2 c2', .int .i64 1] (by go_simp) _ (HLs.out _ (by first | exact (Below.refl _ _).drew | exact ((Below.refl _ _).alloc (Nat.le_refl _) _).drew)) ?_; rintro e w3 ⟨A3, n3, c3, rfl, hn3, own3, hb⟩; refine ⟨_, rfl, ?_⟩; have OW := Lib.hid (And.intro hn3 own3); have OC := Lib.hid (own_cap own3); (first | (have F3 := Live.hbd FA hb; have cd1 := conv1b (F3.out.blk 0 rfl) b0 b1) | (have F3 := Live.hbd F2 hb; have F3 := Live.ha F3 #[.int .u8 (i : Int)] 5; have cd1 := conv1b (F3.out.blk 0 rfl) b0 b1)); rw [Int.toNat_natCast] at cd1; have B3 : Below w2.heap.size w2 w3 := (by first | exact Below.nxt (Below.refl _ _).drew hb | exact Below.nxt ((Below.refl _ _).alloc (Nat.le_refl _) _).drew hb); clear own3 hn3 hb) | (refine step_call rfl 88 #[.slice A3 n3 c3, .string ⟨(pl ++ [UInt8.ofNat i]).toArray⟩] (by go_simp) _ (HG.out _ A3 n3 c3 OW.out.1 OC.out (by first | exact Reads.of_own OW.out.2 | exact Reads.of_own (OW.out.2.alloc _))) ?_; rintro e w4 ⟨A4, c4, n4, rfl, hn4, own4, hb⟩; refine ⟨_, rfl, ?_⟩; have B4 : Hid (Below w2.heap.size w2 w4) := Lib.hid (by first | exact Below.nxt B3 hb | exact Below.nxt (B3.alloc B3.size _) hb); have OG := Lib.hid (And.intro hn4 (own_lower (base' := w2.heap.size) own4 (by first | exact B3.size | exact Nat.le_trans B3.size (by simp)))); clear own4 hn4 hb))
      all_goals refine NoPanic.normal ?_
      all_goals clear cd e1 hn1 hn2 b0 b1 FA HLs HG cd1 F3 OW OC HPl HRR HC
      all_goals
        have F := Live.hb F2 B4.out
        have ALL := Lib.hid (And.intro O2.out.1 (own_below O2.out.2 B4.out))
        by_cases hnil : kids ⟨i, hi⟩ = .nil
        · have hn0 : n4 = 0 := by rw [OG.out.1, HGT.out.1 hnil]; rfl
          have HK : Hid (KsT kids (i + 1) = KsT kids i) := Lib.hid (KsT_nil kids ⟨i, hi⟩ hnil)
          subst hn0
          clear hnil
          go_upto_region 28 with fail
          have hcA := own_cap OG.out.2
          obtain ⟨i0, hi0, hz0, hz1, hz2⟩ := info_parts info_spot
          have R4 := Reads.of_own OG.out.2
          have own := ALL.out.2
          have hnA := ALL.out.1
          have hnB := OG.out.1
          have HnA := Lib.hid (And.intro hnA hnB)
          have hml : n + 0 ≤ 200000 := by have := HLn.out.1; have := HLn.out.2; omega
          clear hnA hnB
          go_wp2_with (at_builtin; refine wpList_append_any w4 rfl _ _ 85 rfl w.heap.size 114 i0 _ 22 344 Tryz.underlying85 hi0 hz0 hz1 hz2 rfl (by decide) (.slice O n c2) n (spv GK) rfl own w4.heap.size A4 0 c4 (spv GT) rfl R4 (spv_one _) (by simp only [maxLen]; omega) (by omega) F.out.b.size ?_; intro v5 w6 own5 hg5 _; obtain ⟨A5, c5, rfl, _, _, _⟩ := own_form own5; have F5 := Live.hp F own (Nat.le_refl _) (by simp) hg5; have O5 := Lib.hid own5; clear own5 hg5 own R4)
          refine Handed.intro (16 - (i + 1)) ?_ (hJ1 _ _ _ (fun Φ hΦ => hΦ _ _ _ _ _ _ _ _ _ _ _ _ _ _ _ _ _ _ _ _ _ _ _ _ _ _ _ _ _ _ _ _ _ _ _ _ _ _ _ _ _ _ _ _ _ _ _ _ _ _ _ _ _ _ _ _ _ _ _ _ _ _ _ _ _ _ _ _ _ _ _ _ _ _ _ _ _ _ _ _ _ _ _ _ _ _ _ _ _ _ _ _ _ _ _ _ _ _ _ _ _ _ _ _ _ _ _ _ _ _ _ _ _ _ _ _ _ _ _ _ _ _ _ _ _ _ _ _ _ _ _ _ _ _ (i + 1) (n + 0) (c5) (A5) ?_))
          · have := HI.out; omega
          · refine ⟨by have := HI.out; omega, ?_, ?_, by rw [HK.out]; exact F5.out⟩
            · rw [HSu.out, List.length_append, ← HnA.out.1, ← HnA.out.2]
            · rw [HSu.out, show spv (GK ++ GT) = spv GK ++ spv GT by simp [spv]]; exact O5.out
        · have HK : Hid (KsT kids (i + 1) = (KsT kids i).set i (Trie.sumT (kids ⟨i, hi⟩))) := Lib.hid (KsT_succ kids ⟨i, hi⟩)
          obtain ⟨g4, hA4, hlt4, hp4, hs4⟩ := HGT.out.2 hnil w4 w2.heap.size A4 n4 c4 OG.out.1 OG.out.2
          subst hA4
          have n4p : (0 : Int) < (n4 : Int) := by omega
          have k3 : ∃ u, w4.cell? ⟨nb, 3 + i, none⟩ = some u := ⟨_, F.out.cell 0 (3 + i) rfl (by simp only [nodeV, List.getElem?_toArray]; rw [show 3 + i = i + 1 + 1 + 1 by omega]; simp only [List.getElem?_cons_succ]; exact strv_getD (by rw [KsT_len]; exact hi))⟩
          obtain ⟨u3, k3⟩ := k3
          have f3 : w4.frozen? ⟨nb, 3 + i, none⟩ = false := F.out.frozen 0 (3 + i) rfl
          generalize Trie.sumT (kids ⟨i, hi⟩) = S at *
          clear hnil
          go_upto_region 28 with fail
          have hgn : g4 ≠ nb := by have := (OG.out.2.lt g4 rfl).1; have := F2.out.lt 0 rfl; omega
          have OG := Lib.hid (And.intro OG.out.1 (ownsRow_setCell_other OG.out.2 (a := ⟨nb, 3 + i, none⟩) (by simp [Value.ownBlock, hgn]) (.string ⟨S.toArray⟩)))
          have ALL := Lib.hid (And.intro ALL.out.1 (ownsRow_setCell_other ALL.out.2 (a := ⟨nb, 3 + i, none⟩) (own_blk_ne ALL.out.2 (F.out.blk 0 rfl) (by decide)) (.string ⟨S.toArray⟩)))
          have F := Live.hs F 0 (3 + i) (.string ⟨S.toArray⟩) rfl
          rw [nodeV_set] at F
          clear k3 f3 hs4 hgn
          generalize w4.setCell ⟨nb, 3 + i, none⟩ (.string ⟨S.toArray⟩) = w5 at F OG ALL ⊢
          replace F : Hid (Live w w5 [(nb, 107, (nodeV 3 [] v ((KsT kids i).set i S)).toArray)]) := F
          generalize (some ⟨g4, 0, none⟩ : Option Addr) = A4 at *
          have hcA := own_cap OG.out.2
          obtain ⟨i0, hi0, hz0, hz1, hz2⟩ := info_parts info_spot
          have R4 := Reads.of_own OG.out.2
          have own := ALL.out.2
          have hnA := ALL.out.1
          have hnB := OG.out.1
          have HnA := Lib.hid (And.intro hnA hnB)
          have hml : n + n4 ≤ 200000 := by have := HLn.out.1; have := HLn.out.2; omega
          clear hnA hnB
          go_wp2_with (at_builtin; refine wpList_append_any w5 rfl _ _ 85 rfl w.heap.size 114 i0 _ 22 344 Tryz.underlying85 hi0 hz0 hz1 hz2 rfl (by decide) (.slice O n c2) n (spv GK) rfl own w5.heap.size A4 n4 c4 (spv GT) rfl R4 (spv_one _) (by simp only [maxLen]; omega) (by omega) F.out.b.size ?_; intro v5 w6 own5 hg5 _; obtain ⟨A5, c5, rfl, _, _, _⟩ := own_form own5; have F5 := Live.hp F own (Nat.le_refl _) (by simp) hg5; have O5 := Lib.hid own5; clear own5 hg5 own R4)
          refine Handed.intro (16 - (i + 1)) ?_ (hJ1 _ _ _ (fun Φ hΦ => hΦ _ _ _ _ _ _ _ _ _ _ _ _ _ _ _ _ _ _ _ _ _ _ _ _ _ _ _ _ _ _ _ _ _ _ _ _ _ _ _ _ _ _ _ _ _ _ _ _ _ _ _ _ _ _ _ _ _ _ _ _ _ _ _ _ _ _ _ _ _ _ _ _ _ _ _ _ _ _ _ _ _ _ _ _ _ _ _ _ _ _ _ _ _ _ _ _ _ _ _ _ _ _ _ _ _ _ _ _ _ _ _ _ _ _ _ _ _ _ _ _ _ _ _ _ _ _ _ _ _ _ _ _ _ _ (i + 1) (n + n4) (c5) (A5) ?_))
          · have := HI.out; omega
          · refine ⟨by have := HI.out; omega, ?_, ?_, by rw [HK.out]; exact F5.out⟩
            · rw [HSu.out, List.length_append, ← HnA.out.1, ← HnA.out.2]
            · rw [HSu.out, show spv (GK ++ GT) = spv GK ++ spv GT by simp [spv]]; exact O5.out
    · have e16 : i = 16 := by omega
      subst e16
      have O1 := Lib.hid (And.intro h2 own)
      clear own h2
      go_wp2
      exact HQ.out _ _ _ _ _ _ _ _ _ _ _ _ _ _ _ _ _ _ _ _ _ _ _ _ _ _ _ _ _ _ _ _ _ _ _ _ _ _ _ _ _ _ _ _ _ _ _ _ _ _ _ _ _ _ _ _ _ _ _ _ _ _ _ _ _ _ _ _ _ _ _ _ _ _ _ _ _ _ _ _ _ _ _ _ _ _ _ _ _ _ _ _ _ _ _ _ _ _ _ _ _ _ _ _ _ _ _ _ _ _ _ _ _ _ _ _ _ _ _ _ _ _ _ _ _ _ _ _ _ _ _ _ _ _ _ _ _ _ _ _ O1.out.1 O1.out.2 F.out
end Go.Proofs.YtcjafcbekegmlaaGreatDoor

namespace Go.Proofs.YtcjafcbekegmlaaGreatDoor
set_option linter.unusedVariables false
open Go.RowKit Go.Instr
attribute [local go_sem] ba_get ByteArray.mk_append_mk
set_option maxRecDepth 100000 in
theorem item_size (w : World) : (sizeOf 76).run Tryz.prog w = .ok 2 w := by
  go_simp
  try rfl
set_option maxRecDepth 100000 in
theorem item_cut1 (A : Option Addr) (x : Trie.KV) (l : List Trie.KV) (m c : Nat) (hn : l.length = m) (hc : m + 1 ≤ c) (w : World) (B : Nat) (hr : Reads w B 2 A (m + 1) (icells (x :: l))) :
    ∃ A1 c1, (∀ w, (Instr.sliceAt 39 (.slice A (m + 1) c) (some (.int .i64 1)) none none).run Tryz.prog w = .ok (.slice A1 m c1) w) ∧ Reads w B 2 A1 l.length (icells l) ∧ m ≤ c1 := by
  refine ⟨if c = 1 then A else A.map (·.add (1 * 2)), c - 1, fun w => ?_, ?_, by omega⟩
  · rw [run_sliceAt_slice _ _ _ _ _ _ Tryz.underlying39, run_slice_l _ _ _ _ _ Tryz.underlying39 _ _ (by omega) (by omega)]
    rw [show (sizeOf (Program.elem Tryz.prog 39)).run Tryz.prog w = .ok 2 w from item_size w]
    rfl
  · have := hr.cut (k := 1) (cap := c) (by omega) hc
    rw [show m + 1 - 1 = l.length by omega, show (icells (x :: l)).drop (1 * 2) = icells l from rfl] at this
    exact this
set_option maxRecDepth 100000 in
set_option maxHeartbeats 4000000 in
theorem grown_branch (v : List UInt8) (kids : Fin 16 → Trie.T) (pl : List UInt8) (ha : Trie.At pl (.branch v kids)) (hc : Trie.count (.branch v kids) ≤ 2000) (IH : ∀ i, GrownAt (kids i) (pl ++ [Trie.hb i])) : GrownAt (.branch v kids) pl := by
  intro w A c n hn hcap HR
  have HP : Hid (∀ e w', SpotsEnd w ((pl, .branch v kids) :: Trie.goKids allW kids pl 16) e w' → SpotsEnd w (Trie.goT allW (.branch v kids) pl) e w') := Lib.hid (fun e w' h => by rw [Trie.goKids_all] at h; exact h)
  generalize SpotsEnd w (Trie.goT allW (.branch v kids) pl) = P at HP ⊢
  have hw := ha.wf
  have h2 : 2 ≤ Trie.count (.branch v kids) := Trie.items_two hw
  obtain ⟨m, hm⟩ : ∃ m, Trie.count (.branch v kids) = m + 1 := ⟨Trie.count (.branch v kids) - 1, by omega⟩
  have hm1 : 1 ≤ m ∧ m ≤ 1999 := by omega
  obtain rfl : n = m + 1 := hn.trans hm
  obtain ⟨L, hL⟩ : ∃ L, Trie.items (.branch v kids) [] = L := ⟨_, rfl⟩
  have hLl : L.length = m + 1 := by rw [← hL, Trie.length_items]; exact hm
  obtain ⟨x, L0, e1⟩ : ∃ x L0, L = x :: L0 := by
    cases L with
    | nil => simp at hLl
    | cons a b => exact ⟨a, b, rfl⟩
  obtain ⟨L1, z, e2⟩ : ∃ L1 z, L0 = L1 ++ [z] := by
    rcases List.eq_nil_or_concat L0 with e | ⟨a, b, e⟩
    · rw [e1, e] at hLl; simp at hLl; omega
    · exact ⟨a, b, by rw [e]; simp⟩
  have hap := Trie.branch_apart hw x z L1 (by rw [hL, e1, e2])
  have hsx := Trie.items_short ha x (by rw [hL, e1]; simp)
  have hsz := Trie.items_short ha z (by rw [hL, e1, e2]; simp)
  rw [hL, ← hLl] at HR
  obtain ⟨ad, off, rfl, hbl, hcell0⟩ := item_cells HR (i := 0) (by omega)
  obtain ⟨ad', off', hA', _, hcellz⟩ := item_cells HR (i := m) (by omega)
  injection hA' with hA'
  injection hA' with hA1 hA2
  subst hA1 hA2
  have ez : L[m]'(by omega) = z := by
    have : L[m]? = some z := by
      have hl1 : L1.length + 1 = m := by rw [e1, e2] at hLl; simp at hLl; omega
      rw [e1, e2, ← hl1, List.getElem?_cons_succ, List.getElem?_append_right (by omega), Nat.sub_self]; rfl
    rw [List.getElem?_eq_getElem (by omega)] at this
    exact Option.some.inj this
  have ex : L[0]'(by omega) = x := by simp [e1]
  simp only [ex, ez, Nat.zero_mul, Nat.add_zero] at hcell0 hcellz
  have HCl : Hid (∀ w', Below w.heap.size w w' → w'.cell? ⟨ad, off, none⟩ = some (.string ⟨x.1.toArray⟩) ∧ w'.cell? ⟨ad, off + m * 2, none⟩ = some (.string ⟨z.1.toArray⟩)) := Lib.hid (fun w' hb => ⟨(hcell0 w' hb).1, (hcellz w' hb).1⟩)
  have HCv : Hid (∀ w', Below w.heap.size w w' → w'.cell? ⟨ad, off + 1, none⟩ = some (.string ⟨x.2.toArray⟩)) := Lib.hid (fun w' hb => (hcell0 w' hb).2)
  have HCm : Hid (∀ W, Calls Tryz.prog 120 #[.string ⟨x.1.toArray⟩, .string ⟨z.1.toArray⟩] W (Ret W (.int .i64 0))) := Lib.hid (fun W => by
    have := refnib_Common x.1 z.1 W (by have := hsx.1; omega) (by have := hsz.1; omega)
    rw [hap] at this
    exact this)
  have HSp : Hid (∀ W A1 c1 n1, n1 = (Trie.goKids allW kids pl 16).length → Below w.heap.size w W → Reads W W.heap.size 22 A1 n1 (spv (Trie.goKids allW kids pl 16)) → Calls Tryz.prog 119 #[.string ⟨pl.toArray⟩, .agg (nodeV 3 [] v (KsT kids 16)).toArray, .slice A1 n1 c1] W (fun e w' => ∃ A n c, e = .returned (.slice A n c) ∧ P (.returned (.slice A n c)) w')) := Lib.hid (fun W A1 c1 n1 hn1 hb hr => by
    subst hn1
    rw [KsT_all v kids]
    exact (ref10_spot W pl (.branch v kids) (by simp) hw ha.small _ (goKids_len hw (by omega) pl 16) A1 c1 hr).mono fun e w' ⟨A, c, n, he, h1, h2, h3⟩ => ⟨A, n, c, he, HP.out _ _ ⟨A, c, n, rfl, h1, own_lower h2 hb.size, Below.nxt hb h3⟩⟩)
  have HX : Hid ((v = [] ∧ L = flatK kids) ∨ (v ≠ [] ∧ L = ([], v) :: flatK kids)) := Lib.hid (by
    rw [← hL]
    by_cases hv : v = []
    · left; refine ⟨hv, ?_⟩; subst hv; rfl
    · right; refine ⟨hv, ?_⟩; simp only [Trie.items, if_neg hv]; rfl)
  obtain ⟨q0, qz⟩ := HCl.out _ (Below.refl _ _)
  have HH := Lib.hid (And.intro ha (And.intro hc IH))
  have HRR := Lib.hid HR
  have HLl := Lib.hid hLl
  have Hcap := Lib.hid hcap
  obtain ⟨zk, zv⟩ := z
  have HE := Lib.hid e1
  clear ha hc IH hn hm h2 hw hap hsx hsz hcell0 hcellz ez ex e2 e1 hL HP HR hLl hcap
  obtain ⟨hm1, hm2⟩ := hm1
  have i0 : (0 : Int) < (m : Int) + 1 := by omega
  have i1 : (1 : Int) ≤ (m : Int) := by omega
  have i2 : (m : Int) ≤ 2000 := by omega
  have i3 : IntKind.i64.wrap (m : Int) = m := IntWalk.i64_in _ (by omega)
  have i4 : IntKind.i64.wrap ((m : Int) + 1 - 1) = m := by rw [Int.add_sub_cancel]; exact i3
  have i5 : (0 : Int) ≤ (m : Int) := by omega
  have i6 : (m : Int) < (m : Int) + 1 := by omega
  simp only at HCm HCl qz
  rcases HX.out with ⟨hv, hl⟩ | ⟨hv, hl⟩
  · subst hv
    subst hl
    have hne := flatK_head kids x (by rw [HE.out]; simp)
    obtain ⟨xk, xv⟩ := x
    simp only at hne HCm HCl HCv q0
    obtain ⟨a, r, hxk⟩ : ∃ a r, xk = a :: r := by
      cases xk with
      | nil => exact absurd rfl hne
      | cons a r => exact ⟨a, r, rfl⟩
    have g1 : (xk.toArray = #[]) = False := by rw [hxk]; simp
    have g2 : xk.isEmpty = false := by rw [hxk]; rfl
    have g3 : (xk = []) = False := by rw [hxk]; simp
    clear hne hxk HE HX
    go_enter Tryz.func88, Tryz.ntmps88
    go_upto_region 5 with fail
    go_region_held3 (fun w' => w'.cell? ⟨ad, off, none⟩ = some (.string ⟨xk.toArray⟩) ∧ w'.cell? ⟨ad, off + m * 2, none⟩ = some (.string ⟨zk.toArray⟩)) (first | go_keep | (constructor <;> assumption)) ((go_at_call 120; refine (HCm.out _).mono ?_; rintro e w1 ⟨rfl, hb⟩; have B1 : Below w.heap.size w w1 := (by first | exact hb | exact hb.start); obtain ⟨z0, z1⟩ := HCl.out _ B1; clear hb))
    clear z1
    have F0 := Live.ha (Live.hb (Lib.hid (Live.start w)) B1) #[.int .i64 0, .string ⟨#[]⟩, .string ⟨#[]⟩, .string ⟨#[]⟩, .string ⟨#[]⟩, .string ⟨#[]⟩, .string ⟨#[]⟩, .string ⟨#[]⟩, .string ⟨#[]⟩, .string ⟨#[]⟩, .string ⟨#[]⟩, .string ⟨#[]⟩, .string ⟨#[]⟩, .string ⟨#[]⟩, .string ⟨#[]⟩, .string ⟨#[]⟩, .string ⟨#[]⟩, .string ⟨#[]⟩, .string ⟨#[]⟩] 107
    have TH := F0.out.there 0 19 rfl (by decide)
    have HON : (#[.int .i64 3, .string ⟨#[]⟩, .string ⟨#[]⟩, .string ⟨#[]⟩, .string ⟨#[]⟩, .string ⟨#[]⟩, .string ⟨#[]⟩, .string ⟨#[]⟩, .string ⟨#[]⟩, .string ⟨#[]⟩, .string ⟨#[]⟩, .string ⟨#[]⟩, .string ⟨#[]⟩, .string ⟨#[]⟩, .string ⟨#[]⟩, .string ⟨#[]⟩, .string ⟨#[]⟩, .string ⟨#[]⟩, .string ⟨#[]⟩] : Array Value).all (·.oneCell') = true := all_oneCell_toArray (cs := [.int .i64 3, .string ⟨#[]⟩, .string ⟨#[]⟩, .string ⟨#[]⟩, .string ⟨#[]⟩, .string ⟨#[]⟩, .string ⟨#[]⟩, .string ⟨#[]⟩, .string ⟨#[]⟩, .string ⟨#[]⟩, .string ⟨#[]⟩, .string ⟨#[]⟩, .string ⟨#[]⟩, .string ⟨#[]⟩, .string ⟨#[]⟩, .string ⟨#[]⟩, .string ⟨#[]⟩, .string ⟨#[]⟩, .string ⟨#[]⟩]) (by simp [Value.oneCell'])
    go_upto_region 12 with (first | (refine wpList_build_eq rfl 107 _ rfl #[.int .i64 3, .string ⟨#[]⟩, .string ⟨#[]⟩, .string ⟨#[]⟩, .string ⟨#[]⟩, .string ⟨#[]⟩, .string ⟨#[]⟩, .string ⟨#[]⟩, .string ⟨#[]⟩, .string ⟨#[]⟩, .string ⟨#[]⟩, .string ⟨#[]⟩, .string ⟨#[]⟩, .string ⟨#[]⟩, .string ⟨#[]⟩, .string ⟨#[]⟩, .string ⟨#[]⟩, .string ⟨#[]⟩, .string ⟨#[]⟩] (by simp only [List.map_toArray, List.map_cons, List.map_nil]; kernel_rfl) ?_) | ((with_reducible refine at_store 74 ?_); refine wpList_store_mid rfl 107 _ _ rfl w1.heap.size 0 #[.int .i64 3, .string ⟨#[]⟩, .string ⟨#[]⟩, .string ⟨#[]⟩, .string ⟨#[]⟩, .string ⟨#[]⟩, .string ⟨#[]⟩, .string ⟨#[]⟩, .string ⟨#[]⟩, .string ⟨#[]⟩, .string ⟨#[]⟩, .string ⟨#[]⟩, .string ⟨#[]⟩, .string ⟨#[]⟩, .string ⟨#[]⟩, .string ⟨#[]⟩, .string ⟨#[]⟩, .string ⟨#[]⟩, .string ⟨#[]⟩] rfl rfl TH info_node HON ?_))
    have F := Live.hall F0 0 (#[.int .i64 3, .string ⟨#[]⟩, .string ⟨#[]⟩, .string ⟨#[]⟩, .string ⟨#[]⟩, .string ⟨#[]⟩, .string ⟨#[]⟩, .string ⟨#[]⟩, .string ⟨#[]⟩, .string ⟨#[]⟩, .string ⟨#[]⟩, .string ⟨#[]⟩, .string ⟨#[]⟩, .string ⟨#[]⟩, .string ⟨#[]⟩, .string ⟨#[]⟩, .string ⟨#[]⟩, .string ⟨#[]⟩, .string ⟨#[]⟩] : Array Value).toList rfl rfl
    clear TH F0 HON
    generalize World.setCells _ w1.heap.size 0 _ = W4 at F ⊢
    replace F : Hid (Live w W4 [(w1.heap.size, 107, (nodeV 3 [] [] (KsT kids 0)).toArray)]) := by rw [KsT_zero]; exact F
    generalize w1.heap.size = nb at F ⊢
    have z0 := (HCl.out _ F.out.b).1
    go_upto_region 17 with fail
    have hll := HLl.out
    rw [← HLl.out]
    refine grown_outer w W4 [] kids pl HH.out.1 HH.out.2.1 HH.out.2.2 _ rfl (by omega) _ c HRR.out nb F _ ?_ _ _ _ _ _ _ _ _ _ _ _ _ _ _ _ _ _ _ _ _ _ _ _ _ _ _ _ _ _ _ _ _ _ _ _ _ _ _ _ _ _ _ _ _ _ _ _ _ _ _ _ _ _ _ _ _ _ _ _ _ _ _ _ _ _ _ _ _ _ _ _ _ _ _ _ _ _ _ _ _ _ _ _ _ _ _ _ _ _ _ _ _ _ _ _ _ _ _ _ _ _ _ _ _ _ _ _ _ _ _ _ _ _ _ _ _ _ _ _ _ _ _ _ _ _ _ _ _ _ _ _ _ _ _
    intro s0 s2 s3 s4 s5 s6 s7 s10 s11 s12 s13 s14 s15 s16 s17 s18 s19 s20 s21 s22 s23 s24 s25 s26 s27 s28 s29 s30 s31 s32 s33 s34 s35 s36 s37 s38 s39 s40 s41 s42 s43 s44 s45 s46 s47 s48 s49 s50 s51 s52 s53 s54 s55 s56 s57 s58 s59 s60 s61 s62 s63 s64 s65 s66 s67 s68 s69 s70 s71 s72 s73 s74 s75 s76 s77 s78 s79 s80 s81 s82 s83 s84 s85 s86 s87 s88 s89 s90 s91 s92 s93 s94 s95 s96 s97 s98 s99 s100 s101 s102 s103 s104 s105 s106 s107 s108 s109 s110 s111 s112 s113 s114 s115 s116 s117 s118 s119 s120 s121 s122 s123 s124 s125 s126 s127 s128 s129 s130 s131 s132 s133 s134 s135 s136 s137 s138 A2 n2 c2 w5 g1 g2 g3
    have F := Lib.hid g3
    have OG := Lib.hid (And.intro g1 g2)
    clear g1 g2 g3
    have RA := F.out.range1 nb 0 rfl
    have SZ : (Tryz.prog.info? 107).map (·.size) = some (nodeV 3 [] [] (KsT kids 16)).length := by rw [nodeV_size (KsT_len kids 16)]; exact info_node
    have HS5 := Lib.hid (HSp.out w5 A2 c2 n2 OG.out.1 F.out.b (Reads.of_own OG.out.2))
    clear HSp
    generalize nodeV 3 [] [] (KsT kids 16) = NV at *
    go_wp2_with (first | ((with_reducible refine at_load 136 ?_); refine wpList_load_mid rfl 107 _ rfl nb 0 rfl _ _ RA Tryz.underlying107 rfl SZ ?_) | (go_at_call 119; refine HS5.out.mono ?_; rintro e w6 ⟨A6, n6, c6, rfl, hp⟩; have HF := Lib.hid hp; clear hp))
    exact HF.out
  · subst hl
    injection HE.out with hx0 _
    subst hx0
    clear HE HX
    simp only at HCm HCl HCv q0
    have hvl : 0 < v.length := List.length_pos_iff.2 hv
    clear hv
    have HRt : Hid (∃ A1 c1, (∀ w, (Instr.sliceAt 39 (.slice (some ⟨ad, off, none⟩) (m + 1) c) (some (.int .i64 1)) none none).run Tryz.prog w = .ok (.slice A1 m c1) w) ∧ Reads w w.heap.size 2 A1 (flatK kids).length (icells (flatK kids))) := by
      obtain ⟨A1, c1, h1, h2, _⟩ := item_cut1 (some ⟨ad, off, none⟩) ([], v) (flatK kids) m c (by have := HLl.out; simpa using this) Hcap.out w w.heap.size (by have := HRR.out; rw [HLl.out] at this; exact this)
      exact Lib.hid ⟨A1, c1, h1, h2⟩
    have HLl2 : Hid ((flatK kids).length = m) := Lib.hid (by have := HLl.out; simpa using this)
    obtain ⟨A1, c1, hcut, HR1⟩ := HRt.out
    go_enter Tryz.func88, Tryz.ntmps88
    go_upto_region 5 with fail
    go_region_held3 (fun w' => w'.cell? ⟨ad, off, none⟩ = some (.string ⟨#[]⟩) ∧ w'.cell? ⟨ad, off + m * 2, none⟩ = some (.string ⟨zk.toArray⟩)) (first | go_keep | (constructor <;> assumption)) ((go_at_call 120; refine (HCm.out _).mono ?_; rintro e w1 ⟨rfl, hb⟩; have B1 : Below w.heap.size w w1 := (by first | exact hb | exact hb.start); obtain ⟨z0, z1⟩ := HCl.out _ B1; clear hb))
    clear z1
    have F0 := Live.ha (Live.hb (Lib.hid (Live.start w)) B1) #[.int .i64 0, .string ⟨#[]⟩, .string ⟨#[]⟩, .string ⟨#[]⟩, .string ⟨#[]⟩, .string ⟨#[]⟩, .string ⟨#[]⟩, .string ⟨#[]⟩, .string ⟨#[]⟩, .string ⟨#[]⟩, .string ⟨#[]⟩, .string ⟨#[]⟩, .string ⟨#[]⟩, .string ⟨#[]⟩, .string ⟨#[]⟩, .string ⟨#[]⟩, .string ⟨#[]⟩, .string ⟨#[]⟩, .string ⟨#[]⟩] 107
    have TH := F0.out.there 0 19 rfl (by decide)
    have HON : (#[.int .i64 3, .string ⟨#[]⟩, .string ⟨#[]⟩, .string ⟨#[]⟩, .string ⟨#[]⟩, .string ⟨#[]⟩, .string ⟨#[]⟩, .string ⟨#[]⟩, .string ⟨#[]⟩, .string ⟨#[]⟩, .string ⟨#[]⟩, .string ⟨#[]⟩, .string ⟨#[]⟩, .string ⟨#[]⟩, .string ⟨#[]⟩, .string ⟨#[]⟩, .string ⟨#[]⟩, .string ⟨#[]⟩, .string ⟨#[]⟩] : Array Value).all (·.oneCell') = true := all_oneCell_toArray (cs := [.int .i64 3, .string ⟨#[]⟩, .string ⟨#[]⟩, .string ⟨#[]⟩, .string ⟨#[]⟩, .string ⟨#[]⟩, .string ⟨#[]⟩, .string ⟨#[]⟩, .string ⟨#[]⟩, .string ⟨#[]⟩, .string ⟨#[]⟩, .string ⟨#[]⟩, .string ⟨#[]⟩, .string ⟨#[]⟩, .string ⟨#[]⟩, .string ⟨#[]⟩, .string ⟨#[]⟩, .string ⟨#[]⟩, .string ⟨#[]⟩]) (by simp [Value.oneCell'])
    go_upto_region 12 with (first | (refine wpList_build_eq rfl 107 _ rfl #[.int .i64 3, .string ⟨#[]⟩, .string ⟨#[]⟩, .string ⟨#[]⟩, .string ⟨#[]⟩, .string ⟨#[]⟩, .string ⟨#[]⟩, .string ⟨#[]⟩, .string ⟨#[]⟩, .string ⟨#[]⟩, .string ⟨#[]⟩, .string ⟨#[]⟩, .string ⟨#[]⟩, .string ⟨#[]⟩, .string ⟨#[]⟩, .string ⟨#[]⟩, .string ⟨#[]⟩, .string ⟨#[]⟩, .string ⟨#[]⟩] (by simp only [List.map_toArray, List.map_cons, List.map_nil]; kernel_rfl) ?_) | ((with_reducible refine at_store 74 ?_); refine wpList_store_mid rfl 107 _ _ rfl w1.heap.size 0 #[.int .i64 3, .string ⟨#[]⟩, .string ⟨#[]⟩, .string ⟨#[]⟩, .string ⟨#[]⟩, .string ⟨#[]⟩, .string ⟨#[]⟩, .string ⟨#[]⟩, .string ⟨#[]⟩, .string ⟨#[]⟩, .string ⟨#[]⟩, .string ⟨#[]⟩, .string ⟨#[]⟩, .string ⟨#[]⟩, .string ⟨#[]⟩, .string ⟨#[]⟩, .string ⟨#[]⟩, .string ⟨#[]⟩, .string ⟨#[]⟩] rfl rfl TH info_node HON ?_))
    have F := Live.hall F0 0 (#[.int .i64 3, .string ⟨#[]⟩, .string ⟨#[]⟩, .string ⟨#[]⟩, .string ⟨#[]⟩, .string ⟨#[]⟩, .string ⟨#[]⟩, .string ⟨#[]⟩, .string ⟨#[]⟩, .string ⟨#[]⟩, .string ⟨#[]⟩, .string ⟨#[]⟩, .string ⟨#[]⟩, .string ⟨#[]⟩, .string ⟨#[]⟩, .string ⟨#[]⟩, .string ⟨#[]⟩, .string ⟨#[]⟩, .string ⟨#[]⟩] : Array Value).toList rfl rfl
    clear TH F0 HON
    generalize World.setCells _ w1.heap.size 0 _ = W4 at F ⊢
    replace F : Hid (Live w W4 [(w1.heap.size, 107, (nodeV 3 [] [] (KsT kids 0)).toArray)]) := by rw [KsT_zero]; exact F
    generalize w1.heap.size = nb at F ⊢
    have z0 := (HCl.out _ F.out.b).1
    have z2 := HCv.out _ F.out.b
    have k2 : W4.cell? ⟨nb, 2, none⟩ = some (.string ⟨#[]⟩) := F.out.cell 0 2 rfl rfl
    have f2 : W4.frozen? ⟨nb, 2, none⟩ = false := F.out.frozen 0 2 rfl
    go_upto_region 17 with fail
    have F := Live.hs F 0 2 (.string ⟨v.toArray⟩) rfl
    generalize W4.setCell ⟨nb, 2, none⟩ (.string ⟨v.toArray⟩) = W5 at F ⊢
    replace F : Hid (Live w W5 [(nb, 107, (nodeV 3 [] v (KsT kids 0)).toArray)]) := F
    rw [← HLl2.out]
    refine grown_outer w W5 v kids pl HH.out.1 HH.out.2.1 HH.out.2.2 _ rfl (by rw [HLl2.out]; omega) _ c1 HR1 nb F _ ?_ _ _ _ _ _ _ _ _ _ _ _ _ _ _ _ _ _ _ _ _ _ _ _ _ _ _ _ _ _ _ _ _ _ _ _ _ _ _ _ _ _ _ _ _ _ _ _ _ _ _ _ _ _ _ _ _ _ _ _ _ _ _ _ _ _ _ _ _ _ _ _ _ _ _ _ _ _ _ _ _ _ _ _ _ _ _ _ _ _ _ _ _ _ _ _ _ _ _ _ _ _ _ _ _ _ _ _ _ _ _ _ _ _ _ _ _ _ _ _ _ _ _ _ _ _ _ _ _ _ _ _ _ _ _
    intro s0 s2 s3 s4 s5 s6 s7 s10 s11 s12 s13 s14 s15 s16 s17 s18 s19 s20 s21 s22 s23 s24 s25 s26 s27 s28 s29 s30 s31 s32 s33 s34 s35 s36 s37 s38 s39 s40 s41 s42 s43 s44 s45 s46 s47 s48 s49 s50 s51 s52 s53 s54 s55 s56 s57 s58 s59 s60 s61 s62 s63 s64 s65 s66 s67 s68 s69 s70 s71 s72 s73 s74 s75 s76 s77 s78 s79 s80 s81 s82 s83 s84 s85 s86 s87 s88 s89 s90 s91 s92 s93 s94 s95 s96 s97 s98 s99 s100 s101 s102 s103 s104 s105 s106 s107 s108 s109 s110 s111 s112 s113 s114 s115 s116 s117 s118 s119 s120 s121 s122 s123 s124 s125 s126 s127 s128 s129 s130 s131 s132 s133 s134 s135 s136 s137 s138 A2 n2 c2 w5 g1 g2 g3
    have F := Lib.hid g3
    have OG := Lib.hid (And.intro g1 g2)
    clear g1 g2 g3
    have RA := F.out.range1 nb 0 rfl
    have SZ : (Tryz.prog.info? 107).map (·.size) = some (nodeV 3 [] v (KsT kids 16)).length := by rw [nodeV_size (KsT_len kids 16)]; exact info_node
    have HS5 := Lib.hid (HSp.out w5 A2 c2 n2 OG.out.1 F.out.b (Reads.of_own OG.out.2))
    clear HSp
    generalize nodeV 3 [] v (KsT kids 16) = NV at *
    go_wp2_with (first | ((with_reducible refine at_load 136 ?_); refine wpList_load_mid rfl 107 _ rfl nb 0 rfl _ _ RA Tryz.underlying107 rfl SZ ?_) | (go_at_call 119; refine HS5.out.mono ?_; rintro e w6 ⟨A6, n6, c6, rfl, hp⟩; have HF := Lib.hid hp; clear hp))
    exact HF.out
theorem ref10_grown (t : Trie.T) : ∀ pl, Trie.At pl t → Trie.count t ≤ 2000 → GrownAt t pl := by
  induction t with
  | nil => intro pl _ _; exact grown_nil pl
  | leaf p v => intro pl ha _; exact grown_leaf p v pl ha
  | ext p t ih => intro pl ha hc; exact grown_ext p t pl ha hc (ih (pl ++ p) ha.below hc)
  | branch v kids ih => intro pl ha hc; exact grown_branch v kids pl ha hc fun i => ih i _ (ha.kid i) (Nat.le_trans (Trie.count_kid v kids i) hc)
end Go.Proofs.YtcjafcbekegmlaaGreatDoor

namespace Go.Proofs.YtcjafcbekegmlaaGreatDoor
set_option linter.unusedVariables false
open Go.RowKit Go.Instr
attribute [local go_sem] ba_get ByteArray.mk_append_mk
def spotV (x : List UInt8 × Trie.T) : List Value := .string ⟨x.1.toArray⟩ :: .string ⟨(Trie.textT x.2).toArray⟩ :: .string ⟨(Trie.sumT x.2).toArray⟩ :: nodeV (Trie.kindT x.2) (Trie.pathT x.2) (Trie.valT x.2) (Trie.sumsT x.2)
theorem spotV_len (x : List UInt8 × Trie.T) : (spotV x).length = 22 := by
  have h2 := nodeV_size (k := Trie.kindT x.2) (p := Trie.pathT x.2) (v := Trie.valT x.2) (Trie.sumsT_length x.2)
  simp [spotV, h2]
theorem spv_at : ∀ (D : List (List UInt8 × Trie.T)) (i j : Nat) (x : List UInt8 × Trie.T), D[i]? = some x → j < 22 → (spv D)[i * 22 + j]? = (spotV x)[j]?
  | [], i, j, x, h, _ => by simp at h
  | y :: D, 0, j, x, h, hj => by
    obtain rfl : y = x := by simpa using h
    rw [show spv (y :: D) = spotV y ++ spv D from rfl, List.getElem?_append_left (by rw [spotV_len]; omega)]
    simp
  | y :: D, i + 1, j, x, h, hj => by
    rw [show spv (y :: D) = spotV y ++ spv D from rfl, List.getElem?_append_right (by rw [spotV_len]; omega), spotV_len, show (i + 1) * 22 + j - 22 = i * 22 + j by omega]
    exact spv_at D i j x (by simpa using h) hj
theorem spot_cells {w : World} {B : Nat} {A : Option Addr} {D : List (List UInt8 × Trie.T)} (h : Reads w B 22 A D.length (spv D)) {i : Nat} (hi : i < D.length) :
    ∃ ad off, A = some ⟨ad, off, none⟩ ∧ ad < B ∧ ∀ w', Below B w w' → w'.cell? ⟨ad, off + i * 22, none⟩ = some (.string ⟨D[i].1.toArray⟩) ∧ w'.cell? ⟨ad, off + i * 22 + 1, none⟩ = some (.string ⟨(Trie.textT D[i].2).toArray⟩) ∧ w'.cell? ⟨ad, off + i * 22 + 2, none⟩ = some (.string ⟨(Trie.sumT D[i].2).toArray⟩) := by
  have hsl := spv_length D
  obtain ⟨ad, off, rfl, hbl, hcell⟩ := h.form (by omega) (by omega)
  have hg : ∀ j v, j < 22 → (spotV D[i])[j]? = some v → ∀ w', Below B w w' → w'.cell? ⟨ad, off + (i * 22 + j), none⟩ = some v := by
    intro j v hj hv w' hb
    have h1 := spv_at D i j D[i] (List.getElem?_eq_getElem hi) hj
    rw [hv] at h1
    have hlt : i * 22 + j < (spv D).length := (List.getElem?_eq_some_iff.1 h1).1
    have q := hcell (i * 22 + j) (by omega)
    rw [(List.getElem?_eq_some_iff.1 h1).2] at q
    exact (hb.cell (p := ⟨ad, off + (i * 22 + j), none⟩) hbl).trans q
  exact ⟨ad, off, rfl, hbl, fun w' hb => ⟨hg 0 _ (by omega) rfl w' hb, hg 1 _ (by omega) rfl w' hb, hg 2 _ (by omega) rfl w' hb⟩⟩
theorem items_of {t : Trie.T} (h : Trie.Good t) : ((Trie.itemsW t).map fun x => (Nib.of x.1, x.2)) = Trie.items t [] := by
  unfold Trie.itemsW
  rw [List.map_map]
  conv => rhs; rw [← List.map_id (Trie.items t [])]
  apply List.map_congr_left
  intro x hx
  obtain ⟨q, hq, rfl, hl⟩ := (Trie.mem_items t [] x h.wf).1 hx
  simp only [Function.comp_apply, List.nil_append, id]
  rw [Nib.of_joined q hq (h.even q hq hl).1]
def ofL (l : List Trie.KV) : List Trie.KV := l.map fun x => (Nib.of x.1, x.2)
set_option maxRecDepth 100000 in
set_option maxHeartbeats 4000000 in
theorem ref10_Spots (w : World) (t : Trie.T) (h : Trie.Good t) (hc : Trie.count t ≤ 2000) (A : Option Addr) (cp n : Nat) (hn : n = Trie.count t) (HR : Reads w w.heap.size 2 A n (icells (Trie.itemsW t))) :
    Calls Tryz.prog 50 #[.slice A n cp] w (SpotsEnd w (Trie.goT allW t [])) := by
  obtain ⟨l, hl⟩ : ∃ l, Trie.itemsW t = l := ⟨_, rfl⟩
  have hol : ofL l = Trie.items t [] := by rw [← hl]; exact items_of h
  have hll : l.length = n := by rw [hn, ← Trie.length_items t [], ← hol, ofL, List.length_map]
  have hkl : ∀ x ∈ l, x.1.length ≤ 2000 := by
    intro x hx
    have : (Nib.of x.1, x.2) ∈ ofL l := List.mem_map.2 ⟨x, hx, rfl⟩
    rw [hol] at this
    have := (Trie.items_short (Trie.At.top h) _ this).1
    rw [Nib.of_length] at this
    omega
  have HP : Hid (∀ A c n w', n = (Trie.goT allW t []).length → w'.ownsRow w.heap.size 114 22 (.slice A n c) n (spv (Trie.goT allW t [])) → Below w.heap.size w w' → SpotsEnd w (Trie.goT allW t []) (.returned (.slice A n c)) w') := Lib.hid (fun A c n w' g1 g2 g3 => ⟨A, c, n, rfl, g1, g2, g3⟩)
  generalize SpotsEnd w (Trie.goT allW t []) = P at HP ⊢
  have HG := Lib.hid (ref10_grown t [] (Trie.At.top h) hc)
  have HO : Hid (Trie.count t = n) := Lib.hid hn.symm
  rw [hl] at HR
  have HRR := Lib.hid HR
  have HK := Lib.hid hkl
  have HOl := Lib.hid hol
  have hn2 : n ≤ 2000 := by omega
  subst hll
  have HL := Lib.hid hn2
  clear HR hkl hl hol hc hn h hn2
  go_enter Tryz.func50, Tryz.ntmps50
  go_upto_region 3 with fail
  refine wp_loop_ghost_k (fun k a wr => ∀ Φ : Act → Prop, (∀ (s1 s2 s5 s6 s7 s8 s9 s10 s11 s12 s13 s14 s15 s16 s17 s18 s19 s20 s21 s22 s23 s24 s25 s26 s27 : Value) (i n c2 : Nat) (O : Option Addr), (i + k = l.length ∧ n = i ∧ wr.ownsRow w.heap.size 76 2 (.slice O n c2) n (icells (ofL (l.take i))) ∧ Below w.heap.size w wr) → Φ { tmps := #[.slice A l.length cp, s1, s2, .slice O n c2, .int .i64 (i : Int), s5, s6, s7, s8, s9, s10, s11, s12, s13, s14, s15, s16, s17, s18, s19, s20, s21, s22, s23, s24, s25, s26, s27], defers := [] }) → Φ a) (l.length) ?_ ?_
  · refine fun Φ hΦ => hΦ _ _ _ _ _ _ _ _ _ _ _ _ _ _ _ _ _ _ _ _ _ _ _ _ _ (0) (0) (0) (none) ?_
    exact ⟨by omega, rfl, World.ownsRow_nil _ _ _ _, Below.refl _ _⟩
  · intro k1 a1 wr1 hI1 J1 K1 hJ1 hK1
    refine hI1 (fun a => Code.wp _ _ _ a _) ?_
    clear hI1 a1
    intro s0 s1 s2 s3 s4 s5 s6 s7 s8 s9 s10 s11 s12 s13 s14 s15 s16 s17 s18 s19 s20 s21 s22 s23 s24 i n c2 O hrel
    show Code.wp _ _ _ _ _
    obtain ⟨h1, rfl, own, hb⟩ := hrel
    by_cases hi : n < l.length
    · obtain ⟨ad, off, rfl, hbl, hcell⟩ := item_cells HRR.out hi
      obtain ⟨q0, q1⟩ := hcell _ hb
      have hcx := HK.out _ (List.getElem_mem hi)
      have HS : Hid (ofL (l.take (n + 1)) = ofL (l.take n) ++ [(Nib.of l[n].1, l[n].2)]) := Lib.hid (by
        unfold ofL; rw [List.take_succ_eq_append_getElem hi, List.map_append]; rfl)
      have hi1 : (n : Int) < l.length := by omega
      have hi0 : (0 : Int) ≤ n := by omega
      have hn2 := HL.out
      have hn3 : n ≤ 2000 := by omega
      have HI := Lib.hid h1
      have HCl := Lib.hid hcell
      clear hcell h1
      generalize l[n] = x at *
      obtain ⟨xk, xv⟩ := x
      simp only at q0 q1 hcx HS HCl
      have HOf := Lib.hid (fun W => refnib_Of xk W hcx)
      clear hcx
      generalize Nib.of xk = xo at *
      have HOwn := Lib.hid own
      have HB := Lib.hid hb
      go_upto_region 5 with fail
      go_region_held3 (fun w' => w'.cell? ⟨ad, off + n * 2, none⟩ = some (.string ⟨xk.toArray⟩) ∧ w'.cell? ⟨ad, off + n * 2 + 1, none⟩ = some (.string ⟨xv.toArray⟩)) (first | go_keep | (constructor <;> assumption)) (first | (go_at_call 73; refine (HOf.out _).mono ?_; rintro e w2 ⟨rfl, hb'⟩; have hb2 : Below wr1.heap.size wr1 w2 := (by first | exact hb' | exact hb'.start); have B2 : Below w.heap.size w w2 := Below.nxt HB.out hb2; obtain ⟨q0, q1⟩ := HCl.out _ B2; have own2 := own_below HOwn.out hb2; clear hb' hb2) | (refine step_append_row w2 76 [.string ⟨xo.toArray⟩, .string ⟨xv.toArray⟩] rfl _ _ 39 rfl w.heap.size 2 32 _ info_item Tryz.underlying39 rfl (by decide) (.slice O n c2) n _ rfl own2 1 1 rfl rfl (by simp [Value.oneCell']) (by simp only [maxLen]; omega) (by omega) w.heap.size w B2 (Nat.le_refl _) B2.size ?_; intro v3 w3 hown3 hb3 hgr3 ho3 hlt3; obtain ⟨A3, cc3, rfl, _, _, _⟩ := own_form hown3; obtain ⟨q0, q1⟩ := HCl.out _ hb3; have O3 := Lib.hid (And.intro hown3 hb3); clear hown3 hb3 hgr3 ho3 hlt3))
      go_wp2
      refine Handed.intro (l.length - (n + 1)) ?_ (hJ1 _ _ _ (fun Φ hΦ => hΦ _ _ _ _ _ _ _ _ _ _ _ _ _ _ _ _ _ _ _ _ _ _ _ _ _ (n + 1) (n + 1) (cc3) (A3) ?_))
      · have := HI.out; omega
      · refine ⟨by have := HI.out; omega, rfl, ?_, O3.out.2⟩
        rw [HS.out, icells_snoc]
        exact O3.out.1
    · have hi2 : ((n : Int) < l.length) = False := by simp; omega
      have e : l.take n = l := List.take_of_length_le (by omega)
      rw [e, HOl.out] at own
      have hnl : n = l.length := by omega
      have HGc := Lib.hid (HG.out wr1 O c2 n (by rw [HO.out]; exact hnl) (own_cap own) (Reads.of_own own))
      have HB := Lib.hid hb
      clear own hb e hnl hi h1
      go_wp2_with fail
      refine HGc.out.mono ?_
      rintro e w2 ⟨A2, c3, n2, rfl, hn2, own2, hb2⟩
      have OG := Lib.hid (And.intro hn2 (And.intro (own_lower own2 HB.out.size) (Below.nxt HB.out hb2)))
      clear hn2 own2 hb2
      go_wp2
      exact HP.out _ _ _ _ OG.out.1 OG.out.2.1 OG.out.2.2
end Go.Proofs.YtcjafcbekegmlaaGreatDoor
