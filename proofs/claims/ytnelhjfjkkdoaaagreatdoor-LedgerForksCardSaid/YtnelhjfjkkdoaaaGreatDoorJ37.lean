import Derived.Test.YtnelhjfjkkdoaaaGreatDoorJ32
import Derived.Test.YtnelhjfjkkdoaaaGreatDoorJ33
import Derived.Test.YtnelhjfjkkdoaaaGreatDoorJ01
import Derived.Test.YtnelhjfjkkdoaaaGreatDoorJ31
import Derived.Test.YtnelhjfjkkdoaaaGreatDoorJ34
set_option linter.unusedSimpArgs false
set_option linter.unusedVariables false
namespace Go.Proofs.YtnelhjfjkkdoaaaGreatDoor
open Go.RowKit Go.Instr
attribute [local go_sem] ba_get ByteArray.mk_append_mk
attribute [local go_sem ↓] Go.wp_at_zero Go.wp_at_succ
set_option maxRecDepth 100000 in
set_option maxHeartbeats 4000000 in
theorem grown_loop (w w3 W0 : World) (h3 : Below w.heap.size w w3) (lb : Nat) (g : LgM) (ad off : Nat) (hA : g.aA = some ⟨ad,off,none⟩) (hG : LgRd w lb g) (lk : List Nat) (hlt : ∀ x ∈ lk,x < g.es.length) (h22 : lk.length ≤ 22) (LA : Option Addr) (lc : Nat) (bs : Nat) (hLO : W0.ownsRow bs 3 1 (.slice LA lk.length lc) lk.length (ints lk))
  (L : List (Nat × Nat × Array Value)) (hL : ∀ x ∈ L,9 ≠ x.2.1) (hb : Nat) (H10 : List Value) (h10 : H10.length = 10) (hI0 : LoopI w w3 W0 L hb H10 [] none 0)
  (v1 v2 v6 v7 v8 v9 v10 v11 v12 v13 : Value) (Q : Exit → Act → World → Prop)
  (hQ : ∀ (s3 s4 s5 s15 s16 s17 s18 s19 s20 s21 s22 s23 s24 s25 s26 s27 s28 s29 s30 s31 s32 s33 s34 s35 s36 s37 s38 s39 s40 s41 s42 s43 s44 s45 s46 s47 s48 s49 s50 s51 s52 s53 s54 s55 s56 s57 s58 s59 s60 s61 s62 s63 s64 s65 s66 s67 s68 s69 s70 s71 s72 s73 s74 s75 s76 s77 s78 s79 s80 s81 s82 s83 s84 s85 s86 s87 s88 s89 s90 s91 s92 s93 s94 s95 s96 s97 s98 s99 s100 s101 s102 s103 s104 s105 s106 s107 s108 s109 s114 s115 s116 s117 s118 s119 s120 s121 s122 s123 s124 s125 s126 s127 s128 s129 s130 s131 s132 s133 s134 s135 s136 s137 s138 s139 s140 s141 s142 : Value) (W2 : World) (S : List (List UInt8)) (SA : Option Addr) (SC : Nat),S = lk.map (Led.sumAt g.L) → LoopI w w3 W2 L hb H10 S SA SC → Q (.exit 0) { tmps:=#[.pointer (some ⟨lb,0,none⟩),v1,v2,s3,s4,s5,v6,v7,v8,v9,v10,v11,v12,v13,.pointer (some ⟨hb,0,none⟩),s15,s16,s17,s18,s19,s20,s21,s22,s23,s24,s25,s26,s27,s28,s29,s30,s31,s32,s33,s34,s35,s36,s37,s38,s39,s40,s41,s42,s43,s44,s45,s46,s47,s48,s49,s50,s51,s52,s53,s54,s55,s56,s57,s58,s59,s60,s61,s62,s63,s64,s65,s66,s67,s68,s69,s70,s71,s72,s73,s74,s75,s76,s77,s78,s79,s80,s81,s82,s83,s84,s85,s86,s87,s88,s89,s90,s91,s92,s93,s94,s95,s96,s97,s98,s99,s100,s101,s102,s103,s104,s105,s106,s107,s108,s109,.slice LA lk.length lc,.int .i64 (lk.length : Int),.int .i64 (lk.length : Int),.bool false,s114,s115,s116,s117,s118,s119,s120,s121,s122,s123,s124,s125,s126,s127,s128,s129,s130,s131,s132,s133,s134,s135,s136,s137,s138,s139,s140,s141,s142],defers := [] } W2)
  (s3 s4 s5 s15 s16 s17 s18 s19 s20 s21 s22 s23 s24 s25 s26 s27 s28 s29 s30 s31 s32 s33 s34 s35 s36 s37 s38 s39 s40 s41 s42 s43 s44 s45 s46 s47 s48 s49 s50 s51 s52 s53 s54 s55 s56 s57 s58 s59 s60 s61 s62 s63 s64 s65 s66 s67 s68 s69 s70 s71 s72 s73 s74 s75 s76 s77 s78 s79 s80 s81 s82 s83 s84 s85 s86 s87 s88 s89 s90 s91 s92 s93 s94 s95 s96 s97 s98 s99 s100 s101 s102 s103 s104 s105 s106 s107 s108 s109 s113 s114 s115 s116 s117 s118 s119 s120 s121 s122 s123 s124 s125 s126 s127 s128 s129 s130 s131 s132 s133 s134 s135 s136 s137 s138 s139 s140 s141 s142 : Value) :
  Code.wp Tryz.prog (.loop (loopAt Tryz.f89 0)) Q { tmps:=#[.pointer (some ⟨lb,0,none⟩),v1,v2,s3,s4,s5,v6,v7,v8,v9,v10,v11,v12,v13,.pointer (some ⟨hb,0,none⟩),s15,s16,s17,s18,s19,s20,s21,s22,s23,s24,s25,s26,s27,s28,s29,s30,s31,s32,s33,s34,s35,s36,s37,s38,s39,s40,s41,s42,s43,s44,s45,s46,s47,s48,s49,s50,s51,s52,s53,s54,s55,s56,s57,s58,s59,s60,s61,s62,s63,s64,s65,s66,s67,s68,s69,s70,s71,s72,s73,s74,s75,s76,s77,s78,s79,s80,s81,s82,s83,s84,s85,s86,s87,s88,s89,s90,s91,s92,s93,s94,s95,s96,s97,s98,s99,s100,s101,s102,s103,s104,s105,s106,s107,s108,s109,.slice LA lk.length lc,.int .i64 (lk.length : Int),.int .i64 0,s113,s114,s115,s116,s117,s118,s119,s120,s121,s122,s123,s124,s125,s126,s127,s128,s129,s130,s131,s132,s133,s134,s135,s136,s137,s138,s139,s140,s141,s142],defers := [] } W0:=by
 have HQ:=Lib.hid hQ
 have HGG:=Lib.hid hG
 have HLt:=Lib.hid hlt
 have H22:=Lib.hid h22
 have HLL:=Lib.hid (And.intro hL h10)
 have HI0:=Lib.hid (And.intro hLO hI0)
 have HB3:=Lib.hid h3
 have HAA:=Lib.hid hA
 have HL0 : Hid (∀ W,Below w.heap.size w W → W.cell? ⟨lb,0,none⟩ = some (.slice (some ⟨ad,off,none⟩) g.es.length g.ac)):=Lib.hid (fun W hW=>by rw [← hA]; exact (hG.blk.below hW hG.blk.lt).cell 0)
 clear hQ hG hlt h22 hL h10 hLO hI0 h3 hA
 refine wp_loop_ghost_k (fun k a wr => ∀ Φ : Act → Prop,(∀ (s3 s4 s5 s15 s16 s17 s18 s19 s20 s21 s22 s23 s24 s25 s26 s27 s28 s29 s30 s31 s32 s33 s34 s35 s36 s37 s38 s39 s40 s41 s42 s43 s44 s45 s46 s47 s48 s49 s50 s51 s52 s53 s54 s55 s56 s57 s58 s59 s60 s61 s62 s63 s64 s65 s66 s67 s68 s69 s70 s71 s72 s73 s74 s75 s76 s77 s78 s79 s80 s81 s82 s83 s84 s85 s86 s87 s88 s89 s90 s91 s92 s93 s94 s95 s96 s97 s98 s99 s100 s101 s102 s103 s104 s105 s106 s107 s108 s109 s113 s114 s115 s116 s117 s118 s119 s120 s121 s122 s123 s124 s125 s126 s127 s128 s129 s130 s131 s132 s133 s134 s135 s136 s137 s138 s139 s140 s141 s142 : Value) (i : Nat) (S : List (List UInt8)) (SA : Option Addr) (SC : Nat),(i + k = lk.length ∧ S = (lk.take i).map (Led.sumAt g.L) ∧ S.length = i ∧ wr.ownsRow bs 3 1 (.slice LA lk.length lc) lk.length (ints lk) ∧ LoopI w w3 wr L hb H10 S SA SC) → Φ { tmps:=#[.pointer (some ⟨lb,0,none⟩),v1,v2,s3,s4,s5,v6,v7,v8,v9,v10,v11,v12,v13,.pointer (some ⟨hb,0,none⟩),s15,s16,s17,s18,s19,s20,s21,s22,s23,s24,s25,s26,s27,s28,s29,s30,s31,s32,s33,s34,s35,s36,s37,s38,s39,s40,s41,s42,s43,s44,s45,s46,s47,s48,s49,s50,s51,s52,s53,s54,s55,s56,s57,s58,s59,s60,s61,s62,s63,s64,s65,s66,s67,s68,s69,s70,s71,s72,s73,s74,s75,s76,s77,s78,s79,s80,s81,s82,s83,s84,s85,s86,s87,s88,s89,s90,s91,s92,s93,s94,s95,s96,s97,s98,s99,s100,s101,s102,s103,s104,s105,s106,s107,s108,s109,.slice LA lk.length lc,.int .i64 (lk.length : Int),.int .i64 (i : Int),s113,s114,s115,s116,s117,s118,s119,s120,s121,s122,s123,s124,s125,s126,s127,s128,s129,s130,s131,s132,s133,s134,s135,s136,s137,s138,s139,s140,s141,s142],defers := [] }) → Φ a) (lk.length) ?_ ?_
 ·refine fun Φ hΦ=>hΦ _ _ _ _ _ _ _ _ _ _ _ _ _ _ _ _ _ _ _ _ _ _ _ _ _ _ _ _ _ _ _ _ _ _ _ _ _ _ _ _ _ _ _ _ _ _ _ _ _ _ _ _ _ _ _ _ _ _ _ _ _ _ _ _ _ _ _ _ _ _ _ _ _ _ _ _ _ _ _ _ _ _ _ _ _ _ _ _ _ _ _ _ _ _ _ _ _ _ _ _ _ _ _ _ _ _ _ _ _ _ _ _ _ _ _ _ _ _ _ _ _ _ _ _ _ _ _ _ (0) ([]) (none) (0) ?_
  exact ⟨by omega,rfl,rfl,HI0.out.1,HI0.out.2⟩
 ·intro k1 a1 wr1 hI1 J1 K1 hJ1 hK1
  refine hI1 (fun a=>Code.wp _ _ _ a _) ?_
  clear hI1 a1
  intro s0 s1 s2 s3 s4 s5 s6 s7 s8 s9 s10 s11 s12 s13 s14 s15 s16 s17 s18 s19 s20 s21 s22 s23 s24 s25 s26 s27 s28 s29 s30 s31 s32 s33 s34 s35 s36 s37 s38 s39 s40 s41 s42 s43 s44 s45 s46 s47 s48 s49 s50 s51 s52 s53 s54 s55 s56 s57 s58 s59 s60 s61 s62 s63 s64 s65 s66 s67 s68 s69 s70 s71 s72 s73 s74 s75 s76 s77 s78 s79 s80 s81 s82 s83 s84 s85 s86 s87 s88 s89 s90 s91 s92 s93 s94 s95 s96 s97 s98 s99 s100 s101 s102 s103 s104 s105 s106 s107 s108 s109 s110 s111 s112 s113 s114 s115 s116 s117 s118 s119 s120 s121 s122 s123 s124 s125 s126 s127 i S SA SC hrel
  show Code.wp _ _ _ _ _
  conv=>arg 2; whnf
  obtain ⟨h1,h2,h3,hLO,hI⟩:=hrel
  by_cases hi : i < lk.length
  ·have hRL:=Reads.of_own hLO
   obtain ⟨la,lo,rfl,hbl,hcell⟩:=led_int_cell hRL hi
   have r0:=hcell _ (Below.refl _ _)
   have hi1 : (i : Int) < lk.length:=by omega
   have hi0 : (0 : Int) ≤ i:=by omega
   have hwi : IntKind.i64.wrap ((i : Int) + 1) = (i : Int) + 1:=IntWalk.i64_in _ (by have:=H22.out; omega)
   have hxl:=HLt.out _ (List.getElem_mem hi)
   have hsx : Led.sumAt g.L lk[i] = (g.es[lk[i]]'hxl).en.sum:=by rw [Led.sumAt_of (by rw [List.length_map]; exact hxl),List.getElem_map]
   obtain ⟨sx,hsxe⟩ : ∃ sx,(g.es[lk[i]]'hxl).en.sum = sx:=⟨_,rfl⟩
   rw [hsxe] at hsx
   have HS1 : Hid (S ++ [sx] = (lk.take (i + 1)).map (Led.sumAt g.L)):=Lib.hid (by
    rw [List.take_succ_eq_append_getElem hi,List.map_append,h2,← hsx]; rfl)
   obtain ⟨ad2,off2,hA,hbl2,hcell2⟩:=led_cells HGG.out.r hxl
   rw [HAA.out] at hA
   injection hA with hA
   injection hA with ha1 ha2 _
   subst ha1
   subst ha2
   have R1 : Hid (∀ W,Below w.heap.size w W → W.cell? ⟨ad,off + lk[i] * 16 + 11,none⟩ = some (.string ⟨sx.toArray⟩)):=Lib.hid (fun W hW=>by rw [← hsxe]; exact hcell2 W hW 11 _ rfl)
   have hx1 : (lk[i] : Int) < g.es.length:=by omega
   have hx0 : (0 : Int) ≤ lk[i]:=by omega
   have HI:=Lib.hid (And.intro h1 h3)
   have HOL:=hLO
   have F:=Lib.hid hI.f
   have FX:=Lib.hid hI.f3
   have own:=hI.own
   have hS22 : S.length < 22:=by have:=H22.out; omega
   have R0:=HL0
   clear h1 h2 h3 hLO hI hRL hcell hcell2 hbl hbl2 hsx hsxe hxl
   generalize lk[i] = x at *
   generalize g.es.length = gn at *
   generalize g.ac = gc at *
   go_upto_region 21 with fail
   have k0:=R0.out _ F.out.b
   have k1:=R1.out _ F.out.b
   refine wp_region_noPanic ?_
   refine wp_region_held_drew (S:=fun w'=>w'.cell? ⟨lb,0,none⟩ = some (.slice (some ⟨ad,off,none⟩) gn gc) ∧ w'.cell? ⟨ad,off + x * 16 + 11,none⟩ = some (.string ⟨sx.toArray⟩)) (by kernel_rfl) ⟨k0,k1⟩ (fun hHeld => ?_)
   clear r0 k0 k1
   have F:=live_drew F
   have FX:=live_drew FX
   have own:=own.drew
   have HOL:=HOL.drew
   generalize wr1.drew = Wd at F FX own HOL hHeld ⊢
   refine tk 0 116 rfl ?_
   try go_frame
   refine tk 2 118 rfl ?_
   try go_frame
   refine tk 3 119 rfl ?_
   try go_frame
   refine tk 4 120 rfl ?_
   try go_frame
   refine tk 5 121 rfl ?_
   try go_frame
   refine tk 6 122 rfl ?_
   try go_frame
   refine tk 7 123 rfl ?_
   try go_frame
   refine tk 8 124 rfl ?_
   try go_frame
   refine tk 9 125 rfl ?_
   try go_frame
   refine rd2 1 10 rfl rfl (fun K hK => ?_) (fun K hK => ?_)
   ·skip
    have khl:=(F.out.blk 0 rfl).cell 10
    rw [h10_get HLL.out.2] at khl
    go_simp
    refine hK.out _ _ hHeld (fun hHeld => ?_)
    clear hK K khl
    try go_frame
    refine rd1 10 rfl (fun K hK => ?_)
    go_simp
    have Fa:=Live.ha F #[.string ⟨sx.toArray⟩] 9
    have hHa:=And.intro (R0.out _ Fa.out.b) (R1.out _ Fa.out.b)
    refine hK.out _ _ hHa (fun hHeld => ?_)
    clear hK K
    try go_frame
    refine rd1 11 rfl (fun K hK => ?_)
    refine step_append_row Wd 9 [.string ⟨sx.toArray⟩] rfl _ _ 26 rfl w3.heap.size 1 16 _ info_str Tryz.underlying26 rfl (by decide) (.slice SA S.length SC) S.length (strv S) rfl own 1 1 rfl rfl (by simp [Value.oneCell']) (by simp only [maxLen]; omega) (by omega) w3.heap.size w3 FX.out.b (Nat.le_refl _) FX.out.b.size ?_
    intro v4 w4 own4 hb4 hg4 _ _
    obtain ⟨A4,c4,rfl,_,_,_⟩:=own_form own4
    have F4:=Live.hp F own HB3.out.size (by intro y hy; rcases List.mem_cons.1 hy with rfl | hy; (· show (9 : Nat) ≠ 65; decide); (· exact HLL.out.1 y hy)) hg4
    have FX4:=Live.hp FX own (Nat.le_refl _) (by intro y hy; rw [List.mem_singleton] at hy; subst hy; show (9 : Nat) ≠ 65; decide) hg4
    have HOL4:=HOL.kept hg4 (own_types_ne HOL own (by decide))
    refine hK.out _ _ ⟨R0.out _ F4.out.b,R1.out _ F4.out.b⟩ (fun hHeld => ?_)
    clear hK K
    try go_frame
    refine tk 12 128 rfl ?_
    try go_frame
    refine rd1 13 rfl (fun K hK => ?_)
    have kh4:=(F4.out.blk 0 rfl).cell 10
    rw [h10_get HLL.out.2] at kh4
    have fz4 : w4.frozen? ⟨hb,10,none⟩ = false:=F4.out.frozen 0 10 rfl
    go_simp
    have F5:=Live.hs F4 0 10 (.slice A4 (S.length + 1) c4) rfl
    have FX5:=Live.hs FX4 0 10 (.slice A4 (S.length + 1) c4) rfl
    have hgr:=grown_cell (World.grownBy.refl w4 (some hb)) 10 (.slice A4 (S.length + 1) c4)
    have own5:=own4.kept hgr (.inr (own_blk_ne own4 (F4.out.blk 0 rfl) (by decide)))
    have HOL5:=HOL4.kept hgr (.inr (own_blk_ne HOL4 (F4.out.blk 0 rfl) (by decide)))
    rw [h10_set HLL.out.2] at F5 FX5
    simp only [List.set_cons_zero] at F5 FX5
    generalize w4.setCell ⟨hb,10,none⟩ (.slice A4 (S.length + 1) c4) = w5 at F5 FX5 own5 HOL5 ⊢
    refine hK.out _ _ ⟨R0.out _ F5.out.b,R1.out _ F5.out.b⟩ (fun hHeld => ?_)
    clear hK K
    try go_frame
    refine wpAnyH_done (by kernel_rfl) ?_ _
    refine NoPanic.normal ?_
    have HS2 : Hid ((S ++ [sx]).length = S.length + 1):=Lib.hid (by simp)
    have LI : Hid (LoopI w w3 w5 L hb H10 (S ++ [sx]) A4 c4):=Lib.hid ⟨by rw [HS2.out,strv_snoc]; exact own5,by rw [HS2.out]; exact FX5.out,by rw [HS2.out]; exact F5.out⟩
    have HOL6:=Lib.hid HOL5
    clear own5 F5 FX5 HOL5 HOL4 F4 FX4 own4 hgr kh4 fz4 hb4 hg4 hHeld HOL own F FX
    go_wp2_with fail
    refine Handed.intro (lk.length - (i + 1)) ?_ (hJ1 _ _ _ (fun Φ hΦ=>hΦ _ _ _ _ _ _ _ _ _ _ _ _ _ _ _ _ _ _ _ _ _ _ _ _ _ _ _ _ _ _ _ _ _ _ _ _ _ _ _ _ _ _ _ _ _ _ _ _ _ _ _ _ _ _ _ _ _ _ _ _ _ _ _ _ _ _ _ _ _ _ _ _ _ _ _ _ _ _ _ _ _ _ _ _ _ _ _ _ _ _ _ _ _ _ _ _ _ _ _ _ _ _ _ _ _ _ _ _ _ _ _ _ _ _ _ _ _ _ _ _ _ _ _ _ _ _ _ _ (i + 1) (S ++ [sx]) (A4) (c4) ?_))
    ·have:=HI.out.1; omega
    exact ⟨by have:=HI.out.1; omega,HS1.out,by rw [HS2.out,HI.out.2],HOL6.out,LI.out⟩
   ·skip
    go_simp
    have Fa:=Live.ha F #[.string ⟨sx.toArray⟩] 9
    have hHa:=And.intro (R0.out _ Fa.out.b) (R1.out _ Fa.out.b)
    refine hK.out _ _ hHa (fun hHeld => ?_)
    clear hK K
    try go_frame
    refine rd1 1 rfl (fun K hK => ?_)
    have khl:=(Fa.out.blk 1 rfl).cell 10
    rw [h10_get HLL.out.2] at khl
    go_simp
    refine hK.out _ _ hHeld (fun hHeld => ?_)
    clear hK K khl
    try go_frame
    refine rd1 11 rfl (fun K hK => ?_)
    refine step_append_row Wd 9 [.string ⟨sx.toArray⟩] rfl _ _ 26 rfl w3.heap.size 1 16 _ info_str Tryz.underlying26 rfl (by decide) (.slice SA S.length SC) S.length (strv S) rfl own 1 1 rfl rfl (by simp [Value.oneCell']) (by simp only [maxLen]; omega) (by omega) w3.heap.size w3 FX.out.b (Nat.le_refl _) FX.out.b.size ?_
    intro v4 w4 own4 hb4 hg4 _ _
    obtain ⟨A4,c4,rfl,_,_,_⟩:=own_form own4
    have F4:=Live.hp F own HB3.out.size (by intro y hy; rcases List.mem_cons.1 hy with rfl | hy; (· show (9 : Nat) ≠ 65; decide); (· exact HLL.out.1 y hy)) hg4
    have FX4:=Live.hp FX own (Nat.le_refl _) (by intro y hy; rw [List.mem_singleton] at hy; subst hy; show (9 : Nat) ≠ 65; decide) hg4
    have HOL4:=HOL.kept hg4 (own_types_ne HOL own (by decide))
    refine hK.out _ _ ⟨R0.out _ F4.out.b,R1.out _ F4.out.b⟩ (fun hHeld => ?_)
    clear hK K
    try go_frame
    refine tk 12 128 rfl ?_
    try go_frame
    refine rd1 13 rfl (fun K hK => ?_)
    have kh4:=(F4.out.blk 0 rfl).cell 10
    rw [h10_get HLL.out.2] at kh4
    have fz4 : w4.frozen? ⟨hb,10,none⟩ = false:=F4.out.frozen 0 10 rfl
    go_simp
    have F5:=Live.hs F4 0 10 (.slice A4 (S.length + 1) c4) rfl
    have FX5:=Live.hs FX4 0 10 (.slice A4 (S.length + 1) c4) rfl
    have hgr:=grown_cell (World.grownBy.refl w4 (some hb)) 10 (.slice A4 (S.length + 1) c4)
    have own5:=own4.kept hgr (.inr (own_blk_ne own4 (F4.out.blk 0 rfl) (by decide)))
    have HOL5:=HOL4.kept hgr (.inr (own_blk_ne HOL4 (F4.out.blk 0 rfl) (by decide)))
    rw [h10_set HLL.out.2] at F5 FX5
    simp only [List.set_cons_zero] at F5 FX5
    generalize w4.setCell ⟨hb,10,none⟩ (.slice A4 (S.length + 1) c4) = w5 at F5 FX5 own5 HOL5 ⊢
    refine hK.out _ _ ⟨R0.out _ F5.out.b,R1.out _ F5.out.b⟩ (fun hHeld => ?_)
    clear hK K
    try go_frame
    refine wpAnyH_done (by kernel_rfl) ?_ _
    refine NoPanic.normal ?_
    have HS2 : Hid ((S ++ [sx]).length = S.length + 1):=Lib.hid (by simp)
    have LI : Hid (LoopI w w3 w5 L hb H10 (S ++ [sx]) A4 c4):=Lib.hid ⟨by rw [HS2.out,strv_snoc]; exact own5,by rw [HS2.out]; exact FX5.out,by rw [HS2.out]; exact F5.out⟩
    have HOL6:=Lib.hid HOL5
    clear own5 F5 FX5 HOL5 HOL4 F4 FX4 own4 hgr kh4 fz4 hb4 hg4 hHeld HOL own F FX
    go_wp2_with fail
    refine Handed.intro (lk.length - (i + 1)) ?_ (hJ1 _ _ _ (fun Φ hΦ=>hΦ _ _ _ _ _ _ _ _ _ _ _ _ _ _ _ _ _ _ _ _ _ _ _ _ _ _ _ _ _ _ _ _ _ _ _ _ _ _ _ _ _ _ _ _ _ _ _ _ _ _ _ _ _ _ _ _ _ _ _ _ _ _ _ _ _ _ _ _ _ _ _ _ _ _ _ _ _ _ _ _ _ _ _ _ _ _ _ _ _ _ _ _ _ _ _ _ _ _ _ _ _ _ _ _ _ _ _ _ _ _ _ _ _ _ _ _ _ _ _ _ _ _ _ _ _ _ _ _ (i + 1) (S ++ [sx]) (A4) (c4) ?_))
    ·have:=HI.out.1; omega
    exact ⟨by have:=HI.out.1; omega,HS1.out,by rw [HS2.out,HI.out.2],HOL6.out,LI.out⟩
  ·have hi1 : ((i : Int) < lk.length) = False:=by simp; omega
   obtain rfl : i = lk.length:=by omega
   have HE2 : Hid (S = lk.map (Led.sumAt g.L)):=Lib.hid (by rw [h2,List.take_of_length_le (Nat.le_refl _)])
   have HI:=Lib.hid hI
   clear h1 h2 h3 hLO hI hi
   go_wp2_with fail
   exact HQ.out _ _ _ _ _ _ _ _ _ _ _ _ _ _ _ _ _ _ _ _ _ _ _ _ _ _ _ _ _ _ _ _ _ _ _ _ _ _ _ _ _ _ _ _ _ _ _ _ _ _ _ _ _ _ _ _ _ _ _ _ _ _ _ _ _ _ _ _ _ _ _ _ _ _ _ _ _ _ _ _ _ _ _ _ _ _ _ _ _ _ _ _ _ _ _ _ _ _ _ _ _ _ _ _ _ _ _ _ _ _ _ _ _ _ _ _ _ _ _ _ _ _ _ _ _ _ _ _ S SA SC HE2.out HI.out
end Go.Proofs.YtnelhjfjkkdoaaaGreatDoor
