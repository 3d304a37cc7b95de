import Derived.Test.YtomnlhbioijfhaaGreatDoorJ12
import Derived.IntWalk
import Derived.Test.YtomnlhbioijfhaaGreatDoorJ08
import Derived.Test.YtomnlhbioijfhaaGreatDoorJ10
import Derived.Test.YtomnlhbioijfhaaGreatDoorJ11
import Derived.Test.YtomnlhbioijfhaaGreatDoorJ06
set_option linter.unusedSimpArgs false
set_option linter.unusedVariables false
namespace Go.Proofs.YtomnlhbioijfhaaGreatDoor
open Go.RowKit Go.Instr
attribute [local go_sem] w_u8 w_add
theorem w_mul256 (x : UInt32) : IntKind.u32.wrap ((x.toNat : Int) * 256) = ((mul256 x).toNat : Int):=by
 rw [IntKind.wrap_u32',mul256,UInt32.toNat_mul]
 simp
attribute [local go_sem] w_mul256
set_option maxRecDepth 100000 in
set_option maxHeartbeats 1000000 in
theorem rblock_one (b : List UInt8) (hb : b.length = 64) (w0 : World) (gb gw : Nat) (hB : Blk w0 gb 189 (bvals b).toArray) (hW : Blk w0 gw 201 (wvs (fillW b 0)).toArray)
  (Q : Exit → Act → World → Prop) (p2 p4 : Value)
  (hQ : ∀ (s0 s1 s6 s7 s8 s9 s10 s11 s12 s13 s14 s15 s16 s17 s18 s19 s20 s21 s22 s23 s24 s25 s26 s27 s28 s29 s30 s31 s32 s33 s34 s35 s36 s37 s38 s39 s40 s41 s42 s43 s44 s45 s46 s47 s48 s49 s50 s51 s52 s53 s54 s55 s56 s57 s58 s59 s60 s61 s62 s63 s64 s65 s66 s67 s68 s69 s70 s71 s72 s73 s74 s75 s76 s77 s78 s79 s80 s81 s82 s83 s84 s85 s86 s87 s88 s89 s90 s91 s92 s93 s94 s95 s96 s97 s98 s99 s100 s101 s102 s103 s104 s105 s106 s107 s108 s109 s110 s111 s112 s113 s114 s115 s116 s117 s118 s119 s120 s121 s122 s123 s124 s125 s126 s127 s128 s129 s130 s131 s132 s133 s134 s135 s136 s137 s138 s139 s140 s141 s142 s143 s144 s145 s146 s147 s148 s149 s150 s151 s152 s153 s154 s155 s156 s157 s158 s159 s160 s161 s162 s163 s164 s165 s166 s167 s168 s169 s170 s171 s172 s173 s174 s175 s176 s177 s178 s179 s180 s181 s182 s183 s184 s185 s186 s187 s188 s189 s190 s191 s192 s193 s194 s195 : Value) (w2 : World),Blk w2 gw 201 (wvs (fillW b 64)).toArray → w0.grownBy w2 (some gw) → w2.heap.size = w0.heap.size → Q (.exit 0) { tmps:=#[s0,s1,p2,.pointer (some ⟨gb,0,none⟩),p4,.pointer (some ⟨gw,0,none⟩),s6,s7,s8,s9,s10,s11,s12,s13,s14,s15,s16,s17,s18,s19,s20,s21,s22,s23,s24,s25,s26,s27,s28,s29,s30,s31,s32,s33,s34,s35,s36,s37,s38,s39,s40,s41,s42,s43,s44,s45,s46,s47,s48,s49,s50,s51,s52,s53,s54,s55,s56,s57,s58,s59,s60,s61,s62,s63,s64,s65,s66,s67,s68,s69,s70,s71,s72,s73,s74,s75,s76,s77,s78,s79,s80,s81,s82,s83,s84,s85,s86,s87,s88,s89,s90,s91,s92,s93,s94,s95,s96,s97,s98,s99,s100,s101,s102,s103,s104,s105,s106,s107,s108,s109,s110,s111,s112,s113,s114,s115,s116,s117,s118,s119,s120,s121,s122,s123,s124,s125,s126,s127,s128,s129,s130,s131,s132,s133,s134,s135,s136,s137,s138,s139,s140,s141,s142,s143,s144,s145,s146,s147,s148,s149,s150,s151,s152,s153,s154,s155,s156,s157,s158,s159,s160,s161,s162,s163,s164,s165,s166,s167,s168,s169,s170,s171,s172,s173,s174,s175,s176,s177,s178,s179,s180,s181,s182,s183,s184,s185,s186,s187,s188,s189,s190,s191,s192,s193,s194,s195],defers := [] } w2)
  (s0 s1 s7 s8 s9 s10 s11 s12 s13 s14 s15 s16 s17 s18 s19 s20 s21 s22 s23 s24 s25 s26 s27 s28 s29 s30 s31 s32 s33 s34 s35 s36 s37 s38 s39 s40 s41 s42 s43 s44 s45 s46 s47 s48 s49 s50 s51 s52 s53 s54 s55 s56 s57 s58 s59 s60 s61 s62 s63 s64 s65 s66 s67 s68 s69 s70 s71 s72 s73 s74 s75 s76 s77 s78 s79 s80 s81 s82 s83 s84 s85 s86 s87 s88 s89 s90 s91 s92 s93 s94 s95 s96 s97 s98 s99 s100 s101 s102 s103 s104 s105 s106 s107 s108 s109 s110 s111 s112 s113 s114 s115 s116 s117 s118 s119 s120 s121 s122 s123 s124 s125 s126 s127 s128 s129 s130 s131 s132 s133 s134 s135 s136 s137 s138 s139 s140 s141 s142 s143 s144 s145 s146 s147 s148 s149 s150 s151 s152 s153 s154 s155 s156 s157 s158 s159 s160 s161 s162 s163 s164 s165 s166 s167 s168 s169 s170 s171 s172 s173 s174 s175 s176 s177 s178 s179 s180 s181 s182 s183 s184 s185 s186 s187 s188 s189 s190 s191 s192 s193 s194 s195 : Value) :
  Code.wp Tryz.prog (.loop (loopAt Tryz.f146 0)) Q { tmps:=#[s0,s1,p2,.pointer (some ⟨gb,0,none⟩),p4,.pointer (some ⟨gw,0,none⟩),.int .i64 0,s7,s8,s9,s10,s11,s12,s13,s14,s15,s16,s17,s18,s19,s20,s21,s22,s23,s24,s25,s26,s27,s28,s29,s30,s31,s32,s33,s34,s35,s36,s37,s38,s39,s40,s41,s42,s43,s44,s45,s46,s47,s48,s49,s50,s51,s52,s53,s54,s55,s56,s57,s58,s59,s60,s61,s62,s63,s64,s65,s66,s67,s68,s69,s70,s71,s72,s73,s74,s75,s76,s77,s78,s79,s80,s81,s82,s83,s84,s85,s86,s87,s88,s89,s90,s91,s92,s93,s94,s95,s96,s97,s98,s99,s100,s101,s102,s103,s104,s105,s106,s107,s108,s109,s110,s111,s112,s113,s114,s115,s116,s117,s118,s119,s120,s121,s122,s123,s124,s125,s126,s127,s128,s129,s130,s131,s132,s133,s134,s135,s136,s137,s138,s139,s140,s141,s142,s143,s144,s145,s146,s147,s148,s149,s150,s151,s152,s153,s154,s155,s156,s157,s158,s159,s160,s161,s162,s163,s164,s165,s166,s167,s168,s169,s170,s171,s172,s173,s174,s175,s176,s177,s178,s179,s180,s181,s182,s183,s184,s185,s186,s187,s188,s189,s190,s191,s192,s193,s194,s195],defers := [] } w0:=by
 have HQ:=Lib.hid hQ
 clear hQ
 refine wp_loop_ghost_k (fun k a wr => ∀ Φ : Act → Prop,(∀ (s0 s1 s7 s8 s9 s10 s11 s12 s13 s14 s15 s16 s17 s18 s19 s20 s21 s22 s23 s24 s25 s26 s27 s28 s29 s30 s31 s32 s33 s34 s35 s36 s37 s38 s39 s40 s41 s42 s43 s44 s45 s46 s47 s48 s49 s50 s51 s52 s53 s54 s55 s56 s57 s58 s59 s60 s61 s62 s63 s64 s65 s66 s67 s68 s69 s70 s71 s72 s73 s74 s75 s76 s77 s78 s79 s80 s81 s82 s83 s84 s85 s86 s87 s88 s89 s90 s91 s92 s93 s94 s95 s96 s97 s98 s99 s100 s101 s102 s103 s104 s105 s106 s107 s108 s109 s110 s111 s112 s113 s114 s115 s116 s117 s118 s119 s120 s121 s122 s123 s124 s125 s126 s127 s128 s129 s130 s131 s132 s133 s134 s135 s136 s137 s138 s139 s140 s141 s142 s143 s144 s145 s146 s147 s148 s149 s150 s151 s152 s153 s154 s155 s156 s157 s158 s159 s160 s161 s162 s163 s164 s165 s166 s167 s168 s169 s170 s171 s172 s173 s174 s175 s176 s177 s178 s179 s180 s181 s182 s183 s184 s185 s186 s187 s188 s189 s190 s191 s192 s193 s194 s195 : Value) (i : Nat),(i + k = 64 ∧ Blk wr gw 201 (wvs (fillW b i)).toArray ∧ w0.grownBy wr (some gw) ∧ wr.heap.size = w0.heap.size) → Φ { tmps:=#[s0,s1,p2,.pointer (some ⟨gb,0,none⟩),p4,.pointer (some ⟨gw,0,none⟩),.int .i64 i,s7,s8,s9,s10,s11,s12,s13,s14,s15,s16,s17,s18,s19,s20,s21,s22,s23,s24,s25,s26,s27,s28,s29,s30,s31,s32,s33,s34,s35,s36,s37,s38,s39,s40,s41,s42,s43,s44,s45,s46,s47,s48,s49,s50,s51,s52,s53,s54,s55,s56,s57,s58,s59,s60,s61,s62,s63,s64,s65,s66,s67,s68,s69,s70,s71,s72,s73,s74,s75,s76,s77,s78,s79,s80,s81,s82,s83,s84,s85,s86,s87,s88,s89,s90,s91,s92,s93,s94,s95,s96,s97,s98,s99,s100,s101,s102,s103,s104,s105,s106,s107,s108,s109,s110,s111,s112,s113,s114,s115,s116,s117,s118,s119,s120,s121,s122,s123,s124,s125,s126,s127,s128,s129,s130,s131,s132,s133,s134,s135,s136,s137,s138,s139,s140,s141,s142,s143,s144,s145,s146,s147,s148,s149,s150,s151,s152,s153,s154,s155,s156,s157,s158,s159,s160,s161,s162,s163,s164,s165,s166,s167,s168,s169,s170,s171,s172,s173,s174,s175,s176,s177,s178,s179,s180,s181,s182,s183,s184,s185,s186,s187,s188,s189,s190,s191,s192,s193,s194,s195],defers := [] }) → Φ a) (64) ?_ ?_
 ·refine fun Φ hΦ=>hΦ _ _ _ _ _ _ _ _ _ _ _ _ _ _ _ _ _ _ _ _ _ _ _ _ _ _ _ _ _ _ _ _ _ _ _ _ _ _ _ _ _ _ _ _ _ _ _ _ _ _ _ _ _ _ _ _ _ _ _ _ _ _ _ _ _ _ _ _ _ _ _ _ _ _ _ _ _ _ _ _ _ _ _ _ _ _ _ _ _ _ _ _ _ _ _ _ _ _ _ _ _ _ _ _ _ _ _ _ _ _ _ _ _ _ _ _ _ _ _ _ _ _ _ _ _ _ _ _ _ _ _ _ _ _ _ _ _ _ _ _ _ _ _ _ _ _ _ _ _ _ _ _ _ _ _ _ _ _ _ _ _ _ _ _ _ _ _ _ _ _ _ _ _ _ _ _ _ _ _ _ _ _ _ _ _ _ _ _ _ _ _ (0) ?_
  exact ⟨by omega,hW,World.grownBy.refl _ _,rfl⟩
 ·intro k1 a1 wr1 hI1 J1 K1 hJ1 hK1
  refine hI1 (fun a=>Code.wp _ _ _ a _) ?_
  clear hI1 a1
  intro s0 s1 s2 s3 s4 s5 s6 s7 s8 s9 s10 s11 s12 s13 s14 s15 s16 s17 s18 s19 s20 s21 s22 s23 s24 s25 s26 s27 s28 s29 s30 s31 s32 s33 s34 s35 s36 s37 s38 s39 s40 s41 s42 s43 s44 s45 s46 s47 s48 s49 s50 s51 s52 s53 s54 s55 s56 s57 s58 s59 s60 s61 s62 s63 s64 s65 s66 s67 s68 s69 s70 s71 s72 s73 s74 s75 s76 s77 s78 s79 s80 s81 s82 s83 s84 s85 s86 s87 s88 s89 s90 s91 s92 s93 s94 s95 s96 s97 s98 s99 s100 s101 s102 s103 s104 s105 s106 s107 s108 s109 s110 s111 s112 s113 s114 s115 s116 s117 s118 s119 s120 s121 s122 s123 s124 s125 s126 s127 s128 s129 s130 s131 s132 s133 s134 s135 s136 s137 s138 s139 s140 s141 s142 s143 s144 s145 s146 s147 s148 s149 s150 s151 s152 s153 s154 s155 s156 s157 s158 s159 s160 s161 s162 s163 s164 s165 s166 s167 s168 s169 s170 s171 s172 s173 s174 s175 s176 s177 s178 s179 s180 s181 s182 s183 s184 s185 s186 s187 s188 s189 s190 i hrel
  show Code.wp _ _ _ _ _
  conv=>arg 2; whnf
  obtain ⟨h1,hw,hg,hs⟩:=hrel
  by_cases hi : i < 64
  ·have hne : gb ≠ gw:=hB.ne_ hW (by decide)
   have hbb:=hB.grown hg (by intro e; injection e with e; exact hne e)
   have q0 : wr1.cell? ⟨gb,i,none⟩ = some (.int .u8 ((b.getD i 0).toNat : Int)):=(hbb.cell _).trans (bvals_at (by omega))
   have c0 : wr1.cell? ⟨gw,i / 4,none⟩ = some (.int .u32 (((fillW b i).getD (i / 4) 0).toNat : Int)):=(hw.cell _).trans (wvs_at (by rw [fillW_length]; omega))
   have f0 : wr1.frozen? ⟨gw,i / 4,none⟩ = false:=hw.frozen _
   have hi1 : (i : Int) < 64:=by omega
   have hi0 : (0 : Int) ≤ i:=by omega
   have E : Hid (fillW b (i + 1) = (fillW b i).set (i / 4) (addW (mul256 ((fillW b i).getD (i / 4) 0)) (ofB (b.getD i 0)))):=Lib.hid rfl
   have H:=Lib.hid (And.intro h1 (And.intro hw (And.intro hg hs)))
   generalize b.getD i 0 = x0 at *
   generalize (fillW b i).getD (i / 4) 0 = x4 at *
   clear h1 hw hg hs hbb
   have t0 : ((i : Int) / 4).toNat = i / 4:=by omega
   have l0 : (i : Int) / 4 < 16:=by omega
   have z0 : 0 ≤ (i : Int) / 4:=by omega
   have v0 : IntKind.i64.wrap ((i : Int) / 4) = (i : Int) / 4:=IntWalk.i64_in _ (by omega)
   go_wp2
   go_still_tail 13,(by kernel_rfl)
   go_wp2
   refine Handed.intro (64 - (i + 1)) ?_ (hJ1 _ _ _ (fun Φ hΦ=>hΦ _ _ _ _ _ _ _ _ _ _ _ _ _ _ _ _ _ _ _ _ _ _ _ _ _ _ _ _ _ _ _ _ _ _ _ _ _ _ _ _ _ _ _ _ _ _ _ _ _ _ _ _ _ _ _ _ _ _ _ _ _ _ _ _ _ _ _ _ _ _ _ _ _ _ _ _ _ _ _ _ _ _ _ _ _ _ _ _ _ _ _ _ _ _ _ _ _ _ _ _ _ _ _ _ _ _ _ _ _ _ _ _ _ _ _ _ _ _ _ _ _ _ _ _ _ _ _ _ _ _ _ _ _ _ _ _ _ _ _ _ _ _ _ _ _ _ _ _ _ _ _ _ _ _ _ _ _ _ _ _ _ _ _ _ _ _ _ _ _ _ _ _ _ _ _ _ _ _ _ _ _ _ _ _ _ _ _ _ _ _ _ (i + 1) ?_))
   ·have:=H.out.1
    show 64 - (i + 1) < k1
    omega
   ·obtain ⟨h1,hw,hg,hs⟩:=H.out
    have e:=E.out
    have hw2:=hw.set_ (i / 4) (.int .u32 ((addW (mul256 x4) (ofB x0)).toNat : Int))
    rw [wvs_set,← e] at hw2
    refine ⟨by omega,hw2.drew,grown_set hg _ _, ?_⟩
    simp [hs]
  ·have e : i = 64:=by omega
   subst e
   have H:=Lib.hid (And.intro hw (And.intro hg hs))
   clear hw hg hs h1
   go_wp2
   exact HQ.out _ _ _ _ _ _ _ _ _ _ _ _ _ _ _ _ _ _ _ _ _ _ _ _ _ _ _ _ _ _ _ _ _ _ _ _ _ _ _ _ _ _ _ _ _ _ _ _ _ _ _ _ _ _ _ _ _ _ _ _ _ _ _ _ _ _ _ _ _ _ _ _ _ _ _ _ _ _ _ _ _ _ _ _ _ _ _ _ _ _ _ _ _ _ _ _ _ _ _ _ _ _ _ _ _ _ _ _ _ _ _ _ _ _ _ _ _ _ _ _ _ _ _ _ _ _ _ _ _ _ _ _ _ _ _ _ _ _ _ _ _ _ _ _ _ _ _ _ _ _ _ _ _ _ _ _ _ _ _ _ _ _ _ _ _ _ _ _ _ _ _ _ _ _ _ _ _ _ _ _ _ _ _ _ _ _ _ _ _ _ _ _ _ H.out.1 H.out.2.1 H.out.2.2
end Go.Proofs.YtomnlhbioijfhaaGreatDoor
namespace Go.Proofs.YtomnlhbioijfhaaGreatDoor
open Go.RowKit
attribute [local go_sem] ba_get ByteArray.mk_append_mk
set_option maxRecDepth 100000 in
set_option maxHeartbeats 400000 in
theorem refnib_Of (s : List UInt8) (w : World) (hs : s.length ≤ 2000) :
  Calls Tryz.prog 117 #[.string ⟨s.toArray⟩] w fun e w'=>e = .returned (.string ⟨(Nib.of s).toArray⟩) ∧ Below w.heap.size w w':=by
 go_enter Tryz.func117,Tryz.ntmps117
 go_wp2
 refine wp_loop_ghost_k (fun k a wr => ∀ Φ : Act → Prop,(∀ (s1 s2 s5 s6 s7 s8 s9 s10 s11 s12 s13 s14 s15 s16 s17 s18 s19 s20 s21 s22 s23 : Value) (i : Nat) (t : List UInt8),(i + k = s.length ∧ t.length = 2 * i ∧ t = Nib.of (s.take i) ∧ Below w.heap.size w wr) → Φ { tmps:=#[.string ⟨s.toArray⟩,s1,s2,.string ⟨t.toArray⟩,.int .i64 i,s5,s6,s7,s8,s9,s10,s11,s12,s13,s14,s15,s16,s17,s18,s19,s20,s21,s22,s23],defers := [] }) → Φ a) (s.length) ?_ ?_
 ·refine fun Φ hΦ=>hΦ _ _ _ _ _ _ _ _ _ _ _ _ _ _ _ _ _ _ _ _ _ (0) ([]) ?_
  exact ⟨by omega,rfl,rfl,Below.refl _ _⟩
 ·intro k1 a1 wr1 hI1 J1 K1 hJ1 hK1
  refine hI1 (fun a=>Code.wp _ _ _ a _) ?_
  clear hI1 a1
  intro s0 s1 s2 s3 s4 s5 s6 s7 s8 s9 s10 s11 s12 s13 s14 s15 s16 s17 s18 s19 s20 i t hrel
  show Code.wp _ _ _ _ _
  obtain ⟨h1,h2,h3,hb⟩:=hrel
  have H3:=Lib.hid h3
  clear h3
  by_cases hi : i < s.length
  ·go_wp2
   have hlt:=s[i].toNat_lt
   have hq : IntKind.u8.wrap ((s[i].toNat : Int) / 16) = (s[i].toNat : Int) / 16:=IntWalk.u8_in _ (by omega)
   have hc:=conv2d (wr1) ((s[i].toNat : Int) / 16) ((s[i].toNat : Int) % 16) (by omega) (by omega) (by omega) (by omega)
   have HE : Hid (t ++ [s[i] / 16,s[i] % 16] = Nib.of (s.take (i + 1))):=Lib.hid (by
    rw [List.take_succ_eq_append_getElem hi,Nib.of_snoc,H3.out])
   clear H3
   go_region
   go_wp2
   refine Handed.intro (s.length - (i + 1)) ?_ (hJ1 _ _ _ (fun Φ hΦ=>hΦ _ _ _ _ _ _ _ _ _ _ _ _ _ _ _ _ _ _ _ _ _ (i + 1) (t ++ [s[i] / 16,s[i] % 16]) ?_))
   ·omega
   ·exact ⟨by omega,by simp; omega,HE.out,(hb.alloc hb.size _).drew⟩
  ·have e : s.take i = s:=List.take_of_length_le (by omega)
   have e2 : t = Nib.of s:=by rw [H3.out,e]
   have E2:=Lib.hid e2
   clear e e2 H3
   go_wp2
   go_ret
   exact ⟨ret_string (by rw [E2.out]),hb⟩
set_option maxRecDepth 100000 in
set_option maxHeartbeats 400000 in
theorem refnib_Fit (s : List UInt8) (w : World) (hs : s.length ≤ 1048576) :
  Calls Tryz.prog 124 #[.string ⟨s.toArray⟩] w fun e w'=>e = .returned (.bool (Nib.fit s)) ∧ w = w':=by
 go_enter Tryz.func124,Tryz.ntmps124
 go_wp2
 refine wp_loop_ghost_k (fun k a wr => ∀ Φ : Act → Prop,(∀ (s1 s2 s4 s5 s6 s7 s8 s9 s10 s11 s12 s13 : Value) (i : Nat),(i + k = s.length ∧ Nib.fit (s.take i) = true ∧ wr = w) → Φ { tmps:=#[.string ⟨s.toArray⟩,s1,s2,.int .i64 i,s4,s5,s6,s7,s8,s9,s10,s11,s12,s13],defers := [] }) → Φ a) (s.length) ?_ ?_
 ·refine fun Φ hΦ=>hΦ _ _ _ _ _ _ _ _ _ _ _ _ (0) ?_
  exact ⟨by omega,rfl,rfl⟩
 ·intro k1 a1 wr1 hI1 J1 K1 hJ1 hK1
  refine hI1 (fun a=>Code.wp _ _ _ a _) ?_
  clear hI1 a1
  intro s0 s1 s2 s3 s4 s5 s6 s7 s8 s9 s10 s11 i hrel
  show Code.wp _ _ _ _ _
  obtain ⟨h1,h2,rfl⟩:=hrel
  have H2:=Lib.hid h2
  clear h2
  by_cases hi : i < s.length
  ·have hlt:=s[i].toNat_lt
   by_cases hc : s[i] ≤ 15
   ·have hq : (s[i].toNat : Int) ≤ 15:=by rw [UInt8.le_iff_toNat_le] at hc; simp at hc; omega
    have HE : Hid (Nib.fit (s.take (i + 1)) = true):=Lib.hid (by rw [Nib.fit_take _ _ hi,H2.out]; simpa using hc)
    clear hc H2
    go_wp2
    refine Handed.intro (s.length - (i + 1)) ?_ (hJ1 _ _ _ (fun Φ hΦ=>hΦ _ _ _ _ _ _ _ _ _ _ _ _ (i + 1) ?_))
    ·omega
    ·exact ⟨by omega,HE.out,rfl⟩
   ·have hq : 15 < (s[i].toNat : Int):=by rw [UInt8.le_iff_toNat_le] at hc; simp at hc; omega
    have HE : Hid (Nib.fit s = false):=Lib.hid (Nib.fit_false hi hc)
    clear hc H2
    go_wp2
    go_ret
    exact ⟨by rw [HE.out]; rfl,rfl⟩
  ·have HE : Hid (Nib.fit s = true):=Lib.hid (by have:=H2.out; rwa [List.take_of_length_le (by omega)] at this)
   clear H2
   go_wp2
   go_ret
   exact ⟨by rw [HE.out]; rfl,rfl⟩
set_option maxRecDepth 100000 in
set_option maxHeartbeats 400000 in
theorem refnib_Side (x y : List UInt8) (w : World) (hx : x.length ≤ 1048576) (hy : y.length ≤ 1048576) :
  Calls Tryz.prog 116 #[.string ⟨x.toArray⟩,.string ⟨y.toArray⟩] w fun e w'=>e = .returned (.int .i64 (Nib.side x y)) ∧ Below w.heap.size w w':=by
 go_enter Tryz.func116,Tryz.ntmps116
 go_wp2
 ·have h := ‹(!Op.bytesLess x y) = true›
  go_ret
  exact ⟨ret_int (by rw [Nib.side_eq,if_pos (by simpa using h)]),Below.refl _ _⟩
 ·have h := ‹(!Op.bytesLess x y) = false›
  have h2 := ‹x.length ≤ y.length›
  have h3 := ‹((({ data:=y.toArray } : ByteArray).extract 0 x.length).toList == x) = true›
  rw [ByteArray.extract_mk,ByteArray.toList_mk] at h3
  go_ret
  exact ⟨ret_int (by rw [Nib.side_eq,if_neg (by simpa using h),if_pos ⟨h2,by simpa using h3⟩]),Below.refl _ _⟩
 ·have h := ‹(!Op.bytesLess x y) = false›
  have h3 := ‹((({ data:=y.toArray } : ByteArray).extract 0 x.length).toList == x) = false›
  rw [ByteArray.extract_mk,ByteArray.toList_mk] at h3
  go_ret
  exact ⟨ret_int (by rw [Nib.side_eq,if_neg (by simpa using h),if_neg (fun hh=>by simp [hh.2] at h3)]),Below.refl _ _⟩
 ·have h := ‹(!Op.bytesLess x y) = false›
  have h2 := ‹¬ x.length ≤ y.length›
  go_ret
  exact ⟨ret_int (by rw [Nib.side_eq,if_neg (by simpa using h),if_neg (fun hh=>h2 hh.1)]),Below.refl _ _⟩
set_option maxRecDepth 100000 in
set_option maxHeartbeats 400000 in
theorem refnib_Key (s : List UInt8) (w : World) (hs : s.length ≤ 1048576) :
  Calls Tryz.prog 85 #[.string ⟨s.toArray⟩] w fun e w'=>e = .returned (.tuple #[.string ⟨(Nib.key s).1.toArray⟩,.int .i64 (Nib.key s).2]) ∧ Below w.heap.size w w':=by
 by_cases hf : Nib.fit s = true
 ·by_cases hp : s.length % 2 = 1
  ·have HE : Hid (Nib.key s = ([],4)):=Lib.hid (by unfold Nib.key; rw [if_pos hf,if_pos hp])
   have hq : (((s.length : Nat) : Int) % 2 != 0) = true:=by rw [bne_iff_ne]; omega
   have HF:=Lib.hid hf
   clear hf hp
   go_enter Tryz.func85,Tryz.ntmps85
   go_wp2_with fail
   refine (refnib_Fit s _ hs).mono ?_
   rintro e w1 ⟨rfl,rfl⟩
   rw [HF.out]
   go_wp2
   go_ret2
   exact ⟨by rw [HE.out]; rfl,Below.refl _ _⟩
  ·have HE : Hid (Nib.key s = (Nib.joined s,0)):=Lib.hid (by unfold Nib.key; rw [if_pos hf,if_neg hp])
   have hq : (((s.length : Nat) : Int) % 2 != 0) = false:=by simp; omega
   have hfit : ∀ i,(h : i < s.length) → s[i] ≤ 15:=fun i h=>by
    unfold Nib.fit at hf; rw [List.all_eq_true] at hf; simpa using hf s[i] (List.getElem_mem h)
   have HG:=Lib.hid hfit
   have HF:=Lib.hid hf
   clear hf hfit
   go_enter Tryz.func85,Tryz.ntmps85
   go_wp2_with fail
   refine (refnib_Fit s _ hs).mono ?_
   rintro e w1 ⟨rfl,rfl⟩
   rw [HF.out]
   go_wp2
   refine wp_loop_ghost_k (fun k a wr => ∀ Φ : Act → Prop,(∀ (s1 s2 s6 s7 s8 s9 s10 s11 s12 s13 s14 s15 s16 s17 s18 s19 s20 s21 s22 s23 s24 s25 s26 s27 s28 s29 s30 s31 s32 : Value) (i : Nat) (t : List UInt8),(2 * i + k = s.length ∧ t.length = i ∧ t = Nib.joined (s.take (2 * i)) ∧ Below w.heap.size w wr) → Φ { tmps:=#[.string ⟨s.toArray⟩,s1,s2,.int .i64 0,.string ⟨t.toArray⟩,.int .i64 (2 * i : Nat),s6,s7,s8,s9,s10,s11,s12,s13,s14,s15,s16,s17,s18,s19,s20,s21,s22,s23,s24,s25,s26,s27,s28,s29,s30,s31,s32],defers := [] }) → Φ a) (s.length) ?_ ?_
   ·refine fun Φ hΦ=>hΦ _ _ _ _ _ _ _ _ _ _ _ _ _ _ _ _ _ _ _ _ _ _ _ _ _ _ _ _ _ (0) ([]) ?_
    exact ⟨by omega,rfl,rfl,Below.refl _ _⟩
   ·intro k1 a1 wr1 hI1 J1 K1 hJ1 hK1
    refine hI1 (fun a=>Code.wp _ _ _ a _) ?_
    clear hI1 a1
    intro s0 s1 s2 s3 s4 s5 s6 s7 s8 s9 s10 s11 s12 s13 s14 s15 s16 s17 s18 s19 s20 s21 s22 s23 s24 s25 s26 s27 s28 i t hrel
    show Code.wp _ _ _ _ _
    obtain ⟨h1,h2,h3,hb⟩:=hrel
    have H3:=Lib.hid h3
    clear h3
    by_cases hi : 2 * i < s.length
    ·have h4 : 2 * i + 1 < s.length:=by omega
     obtain ⟨bb,hbb⟩ : ∃ bb,bb = s[2 * i] * 16 + s[2 * i + 1]:=⟨_,rfl⟩
     have HE : Hid (t ++ [bb] = Nib.joined (s.take (2 * (i + 1)))):=Lib.hid (by have:=Nib.joined_take s i h4; rw [← H3.out,← hbb] at this; exact this.symm)
     have q9:=u8_pack2 s[2 * i] s[2 * i + 1] (HG.out _ _) (HG.out _ _)
     rw [← hbb] at q9
     clear hbb
     have q2 : IntKind.i64.wrap (2 * (i : Int) + 1) = 2 * (i : Int) + 1:=IntWalk.i64_in _ (by omega)
     have q3 : (2 * (i : Int)).toNat = 2 * i:=by omega
     have q4 : (2 * (i : Int) + 1).toNat = 2 * i + 1:=by omega
     have q5 : 2 * (i : Int) < (s.length : Int):=by omega
     have q6 : 2 * (i : Int) + 1 < (s.length : Int):=by omega
     have q7 : 0 ≤ 2 * (i : Int):=by omega
     have q8 : 0 ≤ 2 * (i : Int) + 1:=by omega
     have q10 : ¬ 9223372036854775807 < i + 1:=by omega
     have hc:=conv1d wr1 (bb.toNat : Int) (by omega) (by have:=bb.toNat_lt; omega)
     go_wp2
     go_region
     all_goals go_wp2
     all_goals (refine Handed.intro (s.length - (2 * i + 2)) ?_ (hJ1 _ _ _ (fun Φ hΦ=>hΦ _ _ _ _ _ _ _ _ _ _ _ _ _ _ _ _ _ _ _ _ _ _ _ _ _ _ _ _ _ (i + 1) (t ++ [bb]) ?_)))
     any_goals omega
     all_goals exact ⟨by omega,by simp; omega,HE.out,(hb.alloc hb.size _).drew⟩
    ·have HE2 : Hid (t = Nib.joined s):=Lib.hid (by rw [H3.out,List.take_of_length_le (by omega)])
     have q5 : ¬ 2 * (i : Int) < (s.length : Int):=by omega
     clear H3
     go_wp2
     go_ret2
     exact ⟨by rw [HE.out,HE2.out]; rfl,hb⟩
 ·have HE : Hid (Nib.key s = ([],3)):=Lib.hid (by unfold Nib.key; rw [if_neg hf])
  have HF:=Lib.hid (show Nib.fit s = false by simpa using hf)
  clear hf
  go_enter Tryz.func85,Tryz.ntmps85
  go_wp2_with fail
  refine (refnib_Fit s _ hs).mono ?_
  rintro e w1 ⟨rfl,rfl⟩
  rw [HF.out]
  go_wp2
  go_ret2
  exact ⟨by rw [HE.out]; rfl,Below.refl _ _⟩
end Go.Proofs.YtomnlhbioijfhaaGreatDoor
namespace Go.Proofs.YtomnlhbioijfhaaGreatDoor
open Go.RowKit
attribute [local go_sem] ba_get ByteArray.mk_append_mk ByteArray.extract_mk
theorem packs_key_even (l : List UInt8) (leaf : Bool) (hf : Nib.fit l = true) (hp : l.length % 2 = 0) :
  Nib.key ((if leaf then 2 else 0) :: 0 :: l) = (Nib.packed l leaf,0):=by
 unfold Nib.key
 have h1 : Nib.fit ((if leaf then 2 else 0) :: 0 :: l) = true:=by unfold Nib.fit at hf ⊢; cases leaf <;> simpa using hf
 rw [if_pos h1,if_neg (by simp; omega),Nib.packed_even hp,Nib.joined_cons]
 cases leaf <;> rfl
theorem packs_key_odd (a : UInt8) (r : List UInt8) (leaf : Bool) (hf : Nib.fit (a :: r) = true) (hp : (a :: r).length % 2 = 1) :
  Nib.key ((if leaf then 3 else 1) :: a :: r) = (Nib.packed (a :: r) leaf,0):=by
 unfold Nib.key
 have h1 : Nib.fit ((if leaf then 3 else 1) :: a :: r) = true:=by unfold Nib.fit at hf ⊢; cases leaf <;> simpa using hf
 have hp' : (r.length + 1) % 2 = 1:=by simpa using hp
 rw [if_pos h1,if_neg (by simp; omega),Nib.packed_odd hp,Nib.joined_cons]
 cases leaf <;> rfl
set_option maxHeartbeats 400000 in
theorem refnib_Pack (s : List UInt8) (leaf : Bool) (w : World) (hs : s.length ≤ 1000000) :
  Calls Tryz.prog 150 #[.string ⟨s.toArray⟩,.bool leaf] w fun e w'=>e = .returned (.tuple #[.string ⟨(Nib.pack s leaf).1.toArray⟩,.int .i64 (Nib.pack s leaf).2]) ∧ Below w.heap.size w w':=by
 by_cases hf : Nib.fit s = true
 ·have e1 : Nib.pack s leaf = (Nib.packed s leaf,0):=by unfold Nib.pack; rw [if_pos hf]
  rw [e1]
  by_cases hp : s.length % 2 = 1
  ·obtain ⟨a,r,rfl⟩ : ∃ a r,s = a :: r:=by
    cases s with
    | nil=>simp at hp
    | cons a r=>exact ⟨a,r,rfl⟩
   have HK:=Lib.hid (packs_key_odd a r leaf hf hp)
   have HF:=Lib.hid hf
   have hp' : ((r.length : Int) + 1) % 2 = 1:=by simp at hp; omega
   have HP:=Lib.hid hp'
   have hq1 : (((r.length : Int) + 1) % 2 == 1) = true:=by rw [beq_iff_eq]; exact hp'
   have hs' : r.length ≤ 1000000:=by simp at hs; omega
   have hs2 : (a :: r).length ≤ 1048576:=by simp; omega
   clear hf hp e1 hs
   cases leaf
   ·go_enter Tryz.func150,Tryz.ntmps150
    go_wp2_with fail
    refine (refnib_Fit (a :: r) _ hs2).mono ?_
    rintro e w1 ⟨rfl,rfl⟩
    rw [HF.out]
    have hw : IntKind.u8.wrap (((r.length : Int) + 1) % 2) = 1:=by rw [HP.out]; rfl
    have hc1:=fun W n h=>conv1s W n h 1 (by omega) (by omega)
    have hc2:=fun W n h=>conv2s W n h 1 0 (by omega) (by omega) (by omega) (by omega)
    clear hp'
    go_wp2_with fail
    refine (refnib_Key (1 :: a :: r) _ (by simp; omega)).mono ?_
    rintro e w1 ⟨rfl,hb1⟩
    have hk:=HK.out
    simp only [Bool.false_eq_true,if_false,if_true] at hk
    rw [hk]
    go_wp2
    go_ret2
    exact ⟨rfl,Below.nxt (by go_grown) hb1⟩
   ·go_enter Tryz.func150,Tryz.ntmps150
    go_wp2_with fail
    refine (refnib_Fit (a :: r) _ hs2).mono ?_
    rintro e w1 ⟨rfl,rfl⟩
    rw [HF.out]
    have hw : IntKind.u8.wrap (((r.length : Int) + 1) % 2) = 1:=by rw [HP.out]; rfl
    have hc1:=fun W n h=>conv1s W n h 3 (by omega) (by omega)
    have hc2:=fun W n h=>conv2s W n h 3 0 (by omega) (by omega) (by omega) (by omega)
    clear hp'
    go_wp2_with fail
    refine (refnib_Key (3 :: a :: r) _ (by simp; omega)).mono ?_
    rintro e w1 ⟨rfl,hb1⟩
    have hk:=HK.out
    simp only [Bool.false_eq_true,if_false,if_true] at hk
    rw [hk]
    go_wp2
    go_ret2
    exact ⟨rfl,Below.nxt (by go_grown) hb1⟩
  ·have HK:=Lib.hid (packs_key_even s leaf hf (by omega))
   have HF:=Lib.hid hf
   have hp' : (s.length : Int) % 2 = 0:=by omega
   have HP:=Lib.hid hp'
   have hq1 : ((s.length : Int) % 2 == 1) = false:=by rw [beq_eq_false_iff_ne]; omega
   have hs2 : s.length ≤ 1048576:=by omega
   clear hf hp e1
   cases leaf
   ·go_enter Tryz.func150,Tryz.ntmps150
    go_wp2_with fail
    refine (refnib_Fit s _ hs2).mono ?_
    rintro e w1 ⟨rfl,rfl⟩
    rw [HF.out]
    have hw : IntKind.u8.wrap ((s.length : Int) % 2) = 0:=by rw [HP.out]; rfl
    have hc1:=fun W n h=>conv1s W n h 0 (by omega) (by omega)
    have hc2:=fun W n h=>conv2s W n h 0 0 (by omega) (by omega) (by omega) (by omega)
    clear hp'
    go_wp2_with fail
    refine (refnib_Key (0 :: 0 :: s) _ (by simp; omega)).mono ?_
    rintro e w1 ⟨rfl,hb1⟩
    have hk:=HK.out
    simp only [Bool.false_eq_true,if_false,if_true] at hk
    rw [hk]
    go_wp2
    go_ret2
    exact ⟨rfl,Below.nxt (by go_grown) hb1⟩
   ·go_enter Tryz.func150,Tryz.ntmps150
    go_wp2_with fail
    refine (refnib_Fit s _ hs2).mono ?_
    rintro e w1 ⟨rfl,rfl⟩
    rw [HF.out]
    have hw : IntKind.u8.wrap ((s.length : Int) % 2) = 0:=by rw [HP.out]; rfl
    have hc1:=fun W n h=>conv1s W n h 2 (by omega) (by omega)
    have hc2:=fun W n h=>conv2s W n h 2 0 (by omega) (by omega) (by omega) (by omega)
    clear hp'
    go_wp2_with fail
    refine (refnib_Key (2 :: 0 :: s) _ (by simp; omega)).mono ?_
    rintro e w1 ⟨rfl,hb1⟩
    have hk:=HK.out
    simp only [Bool.false_eq_true,if_false,if_true] at hk
    rw [hk]
    go_wp2
    go_ret2
    exact ⟨rfl,Below.nxt (by go_grown) hb1⟩
 ·have e1 : Nib.pack s leaf = ([],3):=by unfold Nib.pack; rw [if_neg hf]
  rw [e1]
  have HF:=Lib.hid (show Nib.fit s = false by simpa using hf)
  clear hf e1
  go_enter Tryz.func150,Tryz.ntmps150
  go_wp2_with fail
  refine (refnib_Fit s _ (by omega)).mono ?_
  rintro e w1 ⟨rfl,rfl⟩
  rw [HF.out]
  go_wp2
  go_ret2
  exact ⟨rfl,Below.refl _ _⟩
end Go.Proofs.YtomnlhbioijfhaaGreatDoor
namespace Go.Proofs.YtomnlhbioijfhaaGreatDoor
open Go.RowKit Go.Instr
attribute [local go_sem] ba_get ByteArray.mk_append_mk
theorem strv_getD {K : List (List UInt8)} {i : Nat} (h : i < K.length) : (strv K)[i]? = some (.string ⟨(K.getD i []).toArray⟩):=by
 rw [strv_at h,List.getD_eq_getElem?_getD,List.getElem?_eq_getElem h]; rfl
set_option maxRecDepth 100000 in
set_option maxHeartbeats 1000000 in
theorem refkids_loop (w w0 : World) (kk : Nat) (p v : List UInt8) (K : List (List UInt8)) (hK : K.length = 16) (F : Hid (Live w w0 [(w.heap.size,117,(nodeV kk p v K).toArray)]))
  (Q : Exit → Act → World → Prop)
  (hQ : ∀ (s0 s1 s2 s4 s5 s6 s7 s8 s9 s10 s11 s12 s13 s14 s15 s16 s17 s18 s19 s20 s21 : Value) (A : Option Addr) (c n : Nat) (w2 : World),n = (kidsW K).length → w2.ownsRow w.heap.size 9 1 (.slice A n c) n (strv (kidsW K)) → Below w.heap.size w w2 → Q (.exit 0) { tmps:=#[s0,s1,s2,.slice A n c,s4,s5,s6,s7,s8,s9,s10,s11,s12,s13,s14,s15,s16,s17,s18,s19,s20,s21],defers := [] } w2)
  (s0 s2 s5 s6 s7 s8 s9 s10 s11 s12 s13 s14 s15 s16 s17 s18 s19 s20 s21 : Value) :
  Code.wp Tryz.prog (.loop (loopAt Tryz.f149 0)) Q { tmps:=#[s0,.pointer (some ⟨w.heap.size,0,none⟩),s2,.slice none 0 0,.int .i64 0,s5,s6,s7,s8,s9,s10,s11,s12,s13,s14,s15,s16,s17,s18,s19,s20,s21],defers := [] } w0:=by
 have HQ:=Lib.hid hQ
 clear hQ
 refine wp_loop_ghost_k (fun k a wr => ∀ Φ : Act → Prop,(∀ (s0 s2 s5 s6 s7 s8 s9 s10 s11 s12 s13 s14 s15 s16 s17 s18 s19 s20 s21 : Value) (i n c : Nat) (A : Option Addr),(i + k = 16 ∧ n = (kidsW (K.take i)).length ∧ n ≤ i ∧ wr.ownsRow w.heap.size 9 1 (.slice A n c) n (strv (kidsW (K.take i))) ∧ Live w wr [(w.heap.size,117,(nodeV kk p v K).toArray)]) → Φ { tmps:=#[s0,.pointer (some ⟨w.heap.size,0,none⟩),s2,.slice A n c,.int .i64 i,s5,s6,s7,s8,s9,s10,s11,s12,s13,s14,s15,s16,s17,s18,s19,s20,s21],defers := [] }) → Φ a) (16) ?_ ?_
 ·refine fun Φ hΦ=>hΦ _ _ _ _ _ _ _ _ _ _ _ _ _ _ _ _ _ _ _ (0) (0) (0) (none) ?_
  exact ⟨by omega,by simp [kidsW],by omega,by simpa [kidsW,strv] using World.ownsRow_nil _ _ _ _,F.out⟩
 ·intro k1 a1 wr1 hI1 J1 K1 hJ1 hK1
  refine hI1 (fun a=>Code.wp _ _ _ a _) ?_
  clear hI1 a1
  intro s0 s1 s2 s3 s4 s5 s6 s7 s8 s9 s10 s11 s12 s13 s14 s15 s16 s17 s18 i n c A hrel
  show Code.wp _ _ _ _ _
  clear F
  conv=>arg 2; whnf
  obtain ⟨h1,h2,h3,own,hF⟩:=hrel
  have F:=Lib.hid hF
  have hb:=hF.b
  clear hF
  by_cases hi : i < 16
  ·have hi1 : (i : Int) < 16:=by omega
   obtain ⟨_,_,_,RK,_⟩:=NodeAt.of (C := []) (by rw [List.append_nil]; exact F.out.blk 0 rfl)
   have ec : wr1.cell? ⟨w.heap.size,3 + i,none⟩ = some (.string ⟨(K.getD i []).toArray⟩):=by
    refine RK i _ ?_
    rw [strv_at (show i < K.length by omega),List.getD_eq_getElem?_getD,List.getElem?_eq_getElem (show i < K.length by omega)]
    rfl
   have hks:=kidsW_snoc K i (by omega)
   have hg : K.getD i [] = K[i]'(by omega):=by rw [List.getD_eq_getElem?_getD,List.getElem?_eq_getElem (show i < K.length by omega)]; rfl
   rw [← hg] at hks
   generalize K.getD i [] = s at *
   clear hg RK
   have HI:=Lib.hid (And.intro h1 (And.intro h2 h3))
   have HK:=Lib.hid hks
   have hn16 : n ≤ 16:=by omega
   generalize kidsW (K.take i) = D at *
   cases s with
   | nil =>
    have O:=Lib.hid own
    clear own h1 h2 h3 hb hks
    go_wp2
    refine Handed.intro (16 - (i + 1)) ?_ (hJ1 _ _ _ (fun Φ hΦ=>hΦ _ _ _ _ _ _ _ _ _ _ _ _ _ _ _ _ _ _ _ (i + 1) (n) (c) (A) ?_))
    ·have:=HI.out.1
     omega
    ·rw [HK.out]
     simp only [List.isEmpty_nil,if_true,List.append_nil]
     exact ⟨by have:=HI.out.1; omega,HI.out.2.1,by have:=HI.out.2.2; omega,O.out,F.out⟩
   | cons a t =>
    have ne1 : ((a :: t).toArray = #[]) = False:=by simp
    have hone : ∀ u ∈ [Value.string ⟨(a :: t).toArray⟩],u.oneCell' = true:=by intro u hu; rw [List.mem_singleton] at hu; subst hu; rfl
    clear h1 h2 h3 hks
    have se : (a :: t).isEmpty = false:=rfl
    generalize hs : (a :: t) = s at *
    go_wp2_with (at_builtin; refine wpList_append_new wr1 9 [.string ⟨s.toArray⟩] rfl _ _ 25 rfl w.heap.size 1 16 _ info_str Tryz.underlying25 rfl (by decide) (.slice A n c) n (strv D) rfl own 1 1 rfl rfl hone (by simp only [maxLen]; omega) (by omega) w.heap.size w hb (Nat.le_refl _) hb.size ?_; intro v3 w3 own3 hb3 hg3 _ _; obtain ⟨A3,c3,rfl,_,_,_⟩:=own_form own3; have F:=Live.hp F own (Nat.le_refl _) (by simp) hg3; have O3:=Lib.hid own3; clear own3 hg3)
    refine Handed.intro (16 - (i + 1)) ?_ (hJ1 _ _ _ (fun Φ hΦ=>hΦ _ _ _ _ _ _ _ _ _ _ _ _ _ _ _ _ _ _ _ (i + 1) (n + 1) (c3) (A3) ?_))
    ·have:=HI.out.1
     omega
    ·rw [HK.out,se]
     simp only [Bool.false_eq_true,if_false]
     refine ⟨by have:=HI.out.1; omega,by rw [List.length_append,← HI.out.2.1]; rfl,by have:=HI.out.2.2; omega, ?_,F.out⟩
     rw [show strv (D ++ [s]) = strv D ++ [.string ⟨s.toArray⟩] by simp [strv]]
     exact O3.out
  ·have e16 : i = 16:=by omega
   subst e16
   rw [List.take_of_length_le (by omega)] at h2 own
   have O:=Lib.hid (And.intro own hb)
   clear own hb
   go_wp2
   exact HQ.out _ _ _ _ _ _ _ _ _ _ _ _ _ _ _ _ _ _ _ _ _ _ _ _ _ h2 O.out.1 O.out.2
set_option maxRecDepth 100000 in
theorem ref08_Kids (w : World) (k : Nat) (p v : List UInt8) (K : List (List UInt8)) (hK : K.length = 16) :
  Calls Tryz.prog 149 #[.agg (nodeV k p v K).toArray] w (KidsEnd w K):=by
 have HP : Hid (∀ A c n w',n = (kidsW K).length → w'.ownsRow w.heap.size 9 1 (.slice A n c) n (strv (kidsW K)) → Below w.heap.size w w' → KidsEnd w K (.returned (.slice A n c)) w'):=Lib.hid (fun A c n w' g1 g2 g3=>⟨A,c,n,rfl,g1,g2,g3⟩)
 generalize KidsEnd w K = P at HP ⊢
 go_enter Tryz.func149,Tryz.ntmps149
 go_upto_region 1 with fail
 have F:=Live.ha (Lib.hid (Live.start w)) (nodeV k p v K).toArray 117
 generalize w.alloc (.cells (nodeV k p v K).toArray 117) = W0 at F ⊢
 go_upto_region 3 with fail
 refine refkids_loop w W0 k p v K hK F _ ?_ _ _ _ _ _ _ _ _ _ _ _ _ _ _ _ _ _ _ _
 intro s0 s1 s2 s4 s5 s6 s7 s8 s9 s10 s11 s12 s13 s14 s15 s16 s17 s18 s19 s20 s21 A c n w2 g1 g2 g3
 go_wp2
 exact HP.out _ _ _ _ g1 g2 g3
set_option maxRecDepth 100000 in
set_option maxHeartbeats 1000000 in
theorem ref02_Number (n : Nat) (hn : n < 9223372036854775808) (w : World) :
  Calls Tryz.prog 97 #[.int .i64 (n : Int)] w fun e w'=>e = .returned (.string ⟨(numW n).toArray⟩) ∧ Below w.heap.size w w':=by
 have HP : Hid (∀ w',Below w.heap.size w w' → (fun e w'=>e = Ending.returned (.string ⟨(numW n).toArray⟩) ∧ Below w.heap.size w w') (Ending.returned (.string ⟨(UInt8.ofNat (beB n).length :: beB n).toArray⟩)) w'):=Lib.hid (fun w' hb=>⟨rfl,hb⟩)
 generalize (fun e w'=>e = Ending.returned (.string ⟨(numW n).toArray⟩) ∧ Below w.heap.size w w') = P at HP ⊢
 have HL:=Lib.hid (beB_len 8 n (by omega))
 have HN:=Lib.hid hn
 clear hn
 go_enter Tryz.func97,Tryz.ntmps97
 go_wp2_with fail
 refine wp_loop_ghost_k (fun k a wr => ∀ Φ : Act → Prop,(∀ (s1 s2 s4 s5 s6 s7 s8 s9 s10 s11 s12 s13 s14 s15 s16 s17 s18 s19 s20 s21 : Value) (m : Nat) (s : List UInt8),(m = k ∧ m ≤ n ∧ beB n = beB m ++ s ∧ Below w.heap.size w wr) → Φ { tmps:=#[.int .i64 (m : Int),s1,s2,.string ⟨s.toArray⟩,s4,s5,s6,s7,s8,s9,s10,s11,s12,s13,s14,s15,s16,s17,s18,s19,s20,s21],defers := [] }) → Φ a) (n) ?_ ?_
 ·refine fun Φ hΦ=>hΦ _ _ _ _ _ _ _ _ _ _ _ _ _ _ _ _ _ _ _ _ (n) ([]) ?_
  exact ⟨rfl,Nat.le_refl _,by simp,Below.refl _ _⟩
 ·intro k1 a1 wr1 hI1 J1 K1 hJ1 hK1
  refine hI1 (fun a=>Code.wp _ _ _ a _) ?_
  clear hI1 a1
  intro s0 s1 s2 s3 s4 s5 s6 s7 s8 s9 s10 s11 s12 s13 s14 s15 s16 s17 s18 s19 m s hrel
  show Code.wp _ _ _ _ _
  obtain ⟨h1,h2,h3,hb⟩:=hrel
  have HB:=Lib.hid hb
  have H3:=Lib.hid h3
  have H2:=Lib.hid h2
  have H1:=Lib.hid h1
  have hAl : Hid (∀ f,Below w.heap.size w (wr1.alloc (.cells f 5))):=Lib.hid (fun f=>hb.trans ((show Below wr1.heap.size wr1 (wr1.alloc (.cells f 5)) from by go_grown).mono hb.size))
  clear h1 h2 h3 hb
  by_cases hm : 0 < m
  ·have hm1 : (0 : Int) < (m : Int):=by omega
   have er : (m : Int).tmod 256 = ((m % 256 : Nat) : Int):=by rw [Int.tmod_eq_emod_of_nonneg (by omega)]; omega
   have eq : (m : Int).tdiv 256 = ((m / 256 : Nat) : Int):=by rw [Int.tdiv_eq_ediv_of_nonneg (by omega)]; omega
   have ew2 : ((m % 256 : Nat) : Int) % 256 = ((m % 256 : Nat) : Int):=by omega
   have cv:=conv1d wr1 ((m : Int) % 256) (by omega) (by omega)
   have cv2:=conv1 wr1 ((m : Int) % 256) (by omega) (by omega)
   rw [show UInt8.ofNat ((m : Int) % 256).toNat = UInt8.ofNat m by rw [show ((m : Int) % 256).toNat = m % 256 by omega]; apply UInt8.toNat_inj.1; simp] at cv cv2
   have HE : Hid (beB n = beB (m / 256) ++ UInt8.ofNat m :: s):=Lib.hid (by rw [H3.out,beB_pos hm,List.append_assoc]; rfl)
   have hsl : s.length ≤ 8:=by have:=congrArg List.length HE.out; simp at this; have:=HL.out; omega
   have HMd : Hid (m / 256 < m ∧ m / 256 ≤ n):=Lib.hid ⟨by omega,by have:=H2.out; omega⟩
   have hsl2 : s.length + 1 ≤ 9223372036854775807:=by omega
   have hsl3 : 1 + s.length ≤ 9223372036854775807:=by omega
   have wd : wrap64 ((m : Int) / 256) = ((m / 256 : Nat) : Int):=by rw [IntWalk.wrap64_in _ (by have:=H2.out; have:=HN.out; omega)]; omega
   go_wp2
   simp only [wd]
   refine Handed.intro (m / 256) ?_ (hJ1 _ _ _ (fun Φ hΦ=>hΦ _ _ _ _ _ _ _ _ _ _ _ _ _ _ _ _ _ _ _ _ (m / 256) (UInt8.ofNat m :: s) ?_))
   ·have:=H1.out; have:=HMd.out.1; omega
   exact ⟨rfl,HMd.out.2,HE.out,hAl.out _⟩
  ·have hm1 : (0 < m) = False:=by simp; omega
   have HE : Hid (beB n = s):=Lib.hid (by rw [H3.out,show m = 0 by omega,beB_zero]; rfl)
   have hsl : s.length ≤ 8:=by have:=HE.out; have:=HL.out; rw [‹beB n = s›] at this; exact this
   rw [HE.out] at HP
   have cv:=conv1d wr1 (s.length : Int) (by omega) (by omega)
   have cv2:=conv1 wr1 (s.length : Int) (by omega) (by omega)
   rw [show UInt8.ofNat ((s.length : Int)).toNat = UInt8.ofNat s.length by congr 1] at cv cv2
   clear hm H3 HE
   have hsl2 : s.length + 1 ≤ 9223372036854775807:=by omega
   have hsl3 : 1 + s.length ≤ 9223372036854775807:=by omega
   go_wp2
   exact HP.out _ (hAl.out _)
set_option maxRecDepth 100000 in
theorem ref02_Text (s : List UInt8) (hs : s.length ≤ 9223372036854775000) (w : World) :
  Calls Tryz.prog 133 #[.string ⟨s.toArray⟩] w fun e w'=>e = .returned (.string ⟨(textW s).toArray⟩) ∧ Below w.heap.size w w':=by
 have HP : Hid (∀ w',Below w.heap.size w w' → (fun e w'=>e = Ending.returned (.string ⟨(textW s).toArray⟩) ∧ Below w.heap.size w w') (Ending.returned (.string ⟨(numW s.length ++ s).toArray⟩)) w'):=Lib.hid (fun w' hb=>⟨rfl,hb⟩)
 generalize (fun e w'=>e = Ending.returned (.string ⟨(textW s).toArray⟩) ∧ Below w.heap.size w w') = P at HP ⊢
 go_enter Tryz.func133,Tryz.ntmps133
 go_wp2_with fail
 refine (ref02_Number s.length (by omega) _).mono ?_
 rintro e w1 ⟨rfl,hb⟩
 have hl:=numW_len s.length (by omega)
 generalize numW s.length = N at *
 have hsum : N.length + s.length ≤ 9223372036854775807:=by omega
 go_wp2
 exact HP.out _ hb
end Go.Proofs.YtomnlhbioijfhaaGreatDoor
