import Derived.Test.YtnelhjfjkkdoaaaGreatDoorK30
set_option linter.unusedSimpArgs false
set_option linter.unusedVariables false
set_option maxHeartbeats 4000000
set_option maxRecDepth 100000
namespace Go.Proofs.YtnelhjfjkkdoaaaGreatDoor
section
open Go.RowKit Go.Instr
attribute [local go_sem] w_add
theorem zeros16 (b:List UInt8):(wvs (fillW b 0)).toArray=#[.int .u32 0,.int .u32 0,.int .u32 0,.int .u32 0,.int .u32 0,.int .u32 0,.int .u32 0,.int .u32 0,.int .u32 0,.int .u32 0,.int .u32 0,.int .u32 0,.int .u32 0,.int .u32 0,.int .u32 0,.int .u32 0]:=rfl
theorem rsha_Block (h:List UInt32) (hh:h.length=8) (b:List UInt8) (hb:b.length=64) (w:World):
  Calls Tryz.prog 147 #[.agg (wvs h).toArray,.agg (bvals b).toArray] w fun e w'=>e= .returned (.agg (wvs (blockW h b)).toArray)∧Below w.heap.size w w':=by
 have HS:Hid (blockW h b=plusW (roundsW h (spreadW b) 64) h 8):=ι rfl;have HPL:=ι (fun v (hv:v.length=8)=>plusW_eight h v hh hv);have HRL:=ι (roundsW_length h (spreadW b) hh 64);generalize blockW h b=S at HS ⊢;have I8:=ι (size_of8 hh);have IB:=ι (size_ofb hb);have A8:=ι (wvs_all h);have HB:=ι hb;have HFA:=ι (fillW_all b);obtain ⟨u0,u1,u2,u3,u4,u5,u6,u7,hu⟩:=eight hh;have HU:=ι hu;clear hh hb hu;go_enter Tryz.func147,Tryz.ntmps147
 go_upto_region 1 with fail
 obtain ⟨f1,f2,f3,f4⟩:=three_new w (wvs h).toArray (bvals b).toArray #[ω,ω,ω,ω,ω,ω,ω,ω] 224 226 224;have F0:=ι (And.intro f1 (And.intro f2 (And.intro f3 f4)));clear f1 f2 f3 f4;generalize (((w.alloc (.cells (wvs h).toArray 224)).alloc (.cells (bvals b).toArray 226)).alloc (.cells #[ω,ω,ω,ω,ω,ω,ω,ω] 224))=W0 at F0 ⊢;go_wp2_with fail
 have F1:Hid (Blk (W0.alloc (.cells (wvs (fillW b 0)).toArray 257)) w.heap.size 224 (wvs h).toArray∧Blk (W0.alloc (.cells (wvs (fillW b 0)).toArray 257)) (w.heap.size+1) 226 (bvals b).toArray∧Blk (W0.alloc (.cells (wvs (fillW b 0)).toArray 257)) (w.heap.size+2) 224 #[ω,ω,ω,ω,ω,ω,ω,ω]∧Blk (W0.alloc (.cells (wvs (fillW b 0)).toArray 257)) W0.heap.size 257 (wvs (fillW b 0)).toArray∧Below w.heap.size w (W0.alloc (.cells (wvs (fillW b 0)).toArray 257))∧w.heap.size+2<W0.heap.size):=ι (by
  obtain ⟨f1,f2,f3,f4⟩:=F0.out;exact ⟨f1.alloc _,f2.alloc _,f3.alloc _,Blk.new _ _ _,f4.alloc (by have:=f4.size; exact this) _,f3.lt⟩)
 rw [←zeros16 b];generalize W0.alloc (.cells (wvs (fillW b 0)).toArray 257)=W1 at F1 ⊢;generalize W0.heap.size=gw at *;clear F0;refine rblock_one b HB.out W1 (w.heap.size+1) gw F1.out.2.1 F1.out.2.2.2.1 _ _ _ ?_ _ _ _ _ _ _ _ _ _ _ _ _ _ _ _ _ _ _ _ _ _ _ _ _ _ _ _ _ _ _ _ _ _ _ _ _ _ _ _ _ _ _ _ _ _ _ _ _ _ _ _ _ _ _ _ _ _ _ _ _ _ _ _ _ _ _ _ _ _ _ _ _ _ _ _ _ _ _ _ _ _ _ _ _ _ _ _ _ _ _ _ _ _ _ _ _ _ _ _ _ _ _ _ _ _ _ _ _ _ _ _ _ _ _ _ _ _ _ _ _ _ _ _ _ _ _ _ _ _ _ _ _ _ _ _ _ _ _ _ _ _ _ _ _ _ _ _ _ _ _ _ _ _ _ _ _ _ _ _ _ _ _ _ _ _ _ _ _ _ _ _ _ _ _ _ _ _ _ _ _ _ _ _ _ _ _ _ _ _ _ _;intro s0 s1 s6 s7 s8 s9 s10 s11 s12 s13 s14 s15 s16 s17 s18 s19 s20 s21 s22 s23 s24 s25 s26 s27 s28 s29 s30 s31 s32 s33 s34 s35 s36 s37 s38 s39 s40 s41 s42 s43 s44 s45 s46 s47 s48 s49 s50 s51 s52 s53 s54 s55 s56 s57 s58 s59 s60 s61 s62 s63 s64 s65 s66 s67 s68 s69 s70 s71 s72 s73 s74 s75 s76 s77 s78 s79 s80 s81 s82 s83 s84 s85 s86 s87 s88 s89 s90 s91 s92 s93 s94 s95 s96 s97 s98 s99 s100 s101 s102 s103 s104 s105 s106 s107 s108 s109 s110 s111 s112 s113 s114 s115 s116 s117 s118 s119 s120 s121 s122 s123 s124 s125 s126 s127 s128 s129 s130 s131 s132 s133 s134 s135 s136 s137 s138 s139 s140 s141 s142 s143 s144 s145 s146 s147 s148 s149 s150 s151 s152 s153 s154 s155 s156 s157 s158 s159 s160 s161 s162 s163 s164 s165 s166 s167 s168 s169 s170 s171 s172 s173 s174 s175 s176 s177 s178 s179 s180 s181 s182 s183 s184 s185 s186 s187 s188 s189 s190 s191 s192 s193 s194 s195 w2 hw2 hg2 hs2;have Fc:Hid (Blk w2 w.heap.size 224 (wvs h).toArray∧Blk w2 (w.heap.size+2) 224 #[ω,ω,ω,ω,ω,ω,ω,ω]∧Blk w2 gw 257 (wvs (winW b 0)).toArray∧Below w.heap.size w w2∧w.heap.size+2<gw):=ι (by
  obtain ⟨f1,f2,f3,f4,f5,f6⟩:=F1.out;rw [HFA.out] at hw2;exact ⟨f1.grown hg2 (by intro e; injection e with e; omega),f3.grown hg2 (by intro e; injection e with e; omega),hw2,f5.grown hg2 f5.size (by intro k e; injection e with e; omega),f6⟩)
 clear F1 hw2 hg2 hs2;have c0:w2.cell? ⟨w.heap.size,0,none⟩=some (.int .u32 (u0.toNat:Int)):=by have:=(Fc.out.1).cell 0; rw [HU.out] at this; exact this
 have c1:w2.cell? ⟨w.heap.size,1,none⟩=some (.int .u32 (u1.toNat:Int)):=by have:=(Fc.out.1).cell 1; rw [HU.out] at this; exact this
 have c2:w2.cell? ⟨w.heap.size,2,none⟩=some (.int .u32 (u2.toNat:Int)):=by have:=(Fc.out.1).cell 2; rw [HU.out] at this; exact this
 have c3:w2.cell? ⟨w.heap.size,3,none⟩=some (.int .u32 (u3.toNat:Int)):=by have:=(Fc.out.1).cell 3; rw [HU.out] at this; exact this
 have c4:w2.cell? ⟨w.heap.size,4,none⟩=some (.int .u32 (u4.toNat:Int)):=by have:=(Fc.out.1).cell 4; rw [HU.out] at this; exact this
 have c5:w2.cell? ⟨w.heap.size,5,none⟩=some (.int .u32 (u5.toNat:Int)):=by have:=(Fc.out.1).cell 5; rw [HU.out] at this; exact this
 have c6:w2.cell? ⟨w.heap.size,6,none⟩=some (.int .u32 (u6.toNat:Int)):=by have:=(Fc.out.1).cell 6; rw [HU.out] at this; exact this
 have c7:w2.cell? ⟨w.heap.size,7,none⟩=some (.int .u32 (u7.toNat:Int)):=by have:=(Fc.out.1).cell 7; rw [HU.out] at this; exact this
 go_wp2
 go_quiet (fail)
 go_wp2
 go_quiet (fail)
 go_wp2_with fail
 clear c0 c1 c2 c3 c4 c5 c6 c7;refine rblock_two h (by rw [HU.out]; rfl) b _ gw ?_ _ _ _ _ u0 u1 u2 u3 u4 u5 u6 u7 HU.out ?_ _ _ _ _ _ _ _ _ _ _ _ _ _ _ _ _ _ _ _ _ _ _ _ _ _ _ _ _ _ _ _ _ _ _ _ _ _ _ _ _ _ _ _ _ _ _ _ _ _ _ _ _ _ _ _ _ _ _ _ _ _ _ _ _ _ _ _ _ _ _ _ _ _ _ _ _ _ _ _ _ _ _ _ _ _ _ _ _ _ _ _ _ _ _ _ _ _ _ _ _ _ _ _ _ _ _ _ _ _ _ _ _ _ _ _ _ _ _ _ _ _ _ _ _ _ _ _ _ _ _ _ _ _ _ _ _ _ _ _ _ _ _ _ _ _ _ _ _ _ _ _ _ _ _ _ _ _ _ _ _ _ _ _ _ _ _ _ _ _ _ _ _ _ _ _ _ _ _ _ _ _ _ _
 ·exact Fc.out.2.2.1
 intro v0 v1 v2 v3 v4 v5 v6 v7 hv s0 s1 s6 s15 s16 s17 s18 s19 s20 s21 s22 s23 s24 s25 s26 s27 s28 s29 s30 s31 s32 s33 s34 s35 s36 s37 s38 s39 s40 s41 s42 s43 s44 s45 s46 s47 s48 s49 s50 s51 s52 s53 s54 s55 s56 s57 s58 s59 s60 s61 s62 s63 s64 s65 s66 s67 s68 s69 s70 s71 s72 s73 s74 s75 s76 s77 s78 s79 s80 s81 s82 s83 s84 s85 s86 s87 s88 s89 s90 s91 s92 s93 s94 s95 s96 s97 s98 s99 s100 s101 s102 s103 s104 s105 s106 s107 s108 s109 s110 s111 s112 s113 s114 s115 s116 s117 s118 s119 s120 s121 s122 s123 s124 s125 s126 s127 s128 s129 s130 s131 s132 s133 s134 s135 s136 s137 s138 s139 s140 s141 s142 s143 s144 s145 s146 s147 s148 s149 s150 s151 s152 s153 s154 s155 s156 s157 s158 s159 s160 s161 s162 s163 s164 s165 s166 s167 s168 s169 s170 s171 s172 s173 s174 s175 s176 s177 s178 s179 s180 s181 s182 s183 s184 s185 s186 s187 s188 s189 s190 s191 s192 s193 s194 s195 w3 hg3;have Fd:Hid (Blk w3 w.heap.size 224 (wvs h).toArray∧Blk w3 (w.heap.size+2) 224 #[ω,ω,ω,ω,ω,ω,ω,ω]∧Below w.heap.size w w3):=ι (by
  obtain ⟨f1,f2,f3,f4,f5⟩:=Fc.out;have g1:w2.grownBy w3 (some gw):=⟨hg3.os,hg3.tape,hg3.output,hg3.size,hg3.block⟩
  exact ⟨f1.grown g1 (by intro e; injection e with e; omega),f2.grown g1 (by intro e; injection e with e; omega),f4.grown g1 f4.size (by intro k e; injection e with e; omega)⟩)
 have HV:=ι hv;clear hg3 hv Fc;have d0:w3.cell? ⟨w.heap.size,0,none⟩=some (.int .u32 (u0.toNat:Int)):=by have:=(Fd.out.1).cell 0; rw [HU.out] at this; exact this
 have d1:w3.cell? ⟨w.heap.size,1,none⟩=some (.int .u32 (u1.toNat:Int)):=by have:=(Fd.out.1).cell 1; rw [HU.out] at this; exact this
 have d2:w3.cell? ⟨w.heap.size,2,none⟩=some (.int .u32 (u2.toNat:Int)):=by have:=(Fd.out.1).cell 2; rw [HU.out] at this; exact this
 have d3:w3.cell? ⟨w.heap.size,3,none⟩=some (.int .u32 (u3.toNat:Int)):=by have:=(Fd.out.1).cell 3; rw [HU.out] at this; exact this
 have d4:w3.cell? ⟨w.heap.size,4,none⟩=some (.int .u32 (u4.toNat:Int)):=by have:=(Fd.out.1).cell 4; rw [HU.out] at this; exact this
 have d5:w3.cell? ⟨w.heap.size,5,none⟩=some (.int .u32 (u5.toNat:Int)):=by have:=(Fd.out.1).cell 5; rw [HU.out] at this; exact this
 have d6:w3.cell? ⟨w.heap.size,6,none⟩=some (.int .u32 (u6.toNat:Int)):=by have:=(Fd.out.1).cell 6; rw [HU.out] at this; exact this
 have d7:w3.cell? ⟨w.heap.size,7,none⟩=some (.int .u32 (u7.toNat:Int)):=by have:=(Fd.out.1).cell 7; rw [HU.out] at this; exact this
 have HE:Hid (Value.agg (wvs S).toArray= .agg #[.int .u32 ((addW u0 v0).toNat:Int),.int .u32 ((addW u1 v1).toNat:Int),.int .u32 ((addW u2 v2).toNat:Int),.int .u32 ((addW u3 v3).toNat:Int),.int .u32 ((addW u4 v4).toNat:Int),.int .u32 ((addW u5 v5).toNat:Int),.int .u32 ((addW u6 v6).toNat:Int),.int .u32 ((addW u7 v7).toNat:Int)]):=ι (by
  rw [HS.out,HPL.out _ HRL.out,HV.out,HU.out]; rfl)
 have IU:Hid ((Tryz.prog.info? 224).map (·.size)=some (#[.int .u32 ((addW u0 v0).toNat:Int),.int .u32 ((addW u1 v1).toNat:Int),.int .u32 ((addW u2 v2).toNat:Int),.int .u32 ((addW u3 v3).toNat:Int),.int .u32 ((addW u4 v4).toNat:Int),.int .u32 ((addW u5 v5).toNat:Int),.int .u32 ((addW u6 v6).toNat:Int),.int .u32 ((addW u7 v7).toNat:Int)]:Array Value).size):=ι info_w8;have AU:Hid ((#[.int .u32 ((addW u0 v0).toNat:Int),.int .u32 ((addW u1 v1).toNat:Int),.int .u32 ((addW u2 v2).toNat:Int),.int .u32 ((addW u3 v3).toNat:Int),.int .u32 ((addW u4 v4).toNat:Int),.int .u32 ((addW u5 v5).toNat:Int),.int .u32 ((addW u6 v6).toNat:Int),.int .u32 ((addW u7 v7).toNat:Int)]:Array Value).all (·.oneCell')=true):=ι (wvs_all [addW u0 v0,addW u1 v1,addW u2 v2,addW u3 v3,addW u4 v4,addW u5 v5,addW u6 v6,addW u7 v7]);have ZU:Hid ((#[ω,ω,ω,ω,ω,ω,ω,ω]:Array Value).size=(#[.int .u32 ((addW u0 v0).toNat:Int),.int .u32 ((addW u1 v1).toNat:Int),.int .u32 ((addW u2 v2).toNat:Int),.int .u32 ((addW u3 v3).toNat:Int),.int .u32 ((addW u4 v4).toNat:Int),.int .u32 ((addW u5 v5).toNat:Int),.int .u32 ((addW u6 v6).toNat:Int),.int .u32 ((addW u7 v7).toNat:Int)]:Array Value).size):=ι rfl;clear HS HPL HRL HV HFA HB IB;go_wp2_with ((with_reducible refine at_storeR 195 ?_); refine wpList_store_row rfl 224 _ _ rfl (w.heap.size+2) #[.int .u32 ((addW u0 v0).toNat:Int),.int .u32 ((addW u1 v1).toNat:Int),.int .u32 ((addW u2 v2).toNat:Int),.int .u32 ((addW u3 v3).toNat:Int),.int .u32 ((addW u4 v4).toNat:Int),.int .u32 ((addW u5 v5).toNat:Int),.int .u32 ((addW u6 v6).toNat:Int),.int .u32 ((addW u7 v7).toNat:Int)] rfl rfl _ _ Fd.out.2.1 IU.out ZU.out AU.out ?_)
 refine bodyPost_ret (v:= .agg #[.int .u32 ((addW u0 v0).toNat:Int),.int .u32 ((addW u1 v1).toNat:Int),.int .u32 ((addW u2 v2).toNat:Int),.int .u32 ((addW u3 v3).toNat:Int),.int .u32 ((addW u4 v4).toNat:Int),.int .u32 ((addW u5 v5).toNat:Int),.int .u32 ((addW u6 v6).toNat:Int),.int .u32 ((addW u7 v7).toNat:Int)]) (results_cell_row (by rfl) _ _ (w.heap.size+2) 224 #[.int .u32 ((addW u0 v0).toNat:Int),.int .u32 ((addW u1 v1).toNat:Int),.int .u32 ((addW u2 v2).toNat:Int),.int .u32 ((addW u3 v3).toNat:Int),.int .u32 ((addW u4 v4).toNat:Int),.int .u32 ((addW u5 v5).toNat:Int),.int .u32 ((addW u6 v6).toNat:Int),.int .u32 ((addW u7 v7).toNat:Int)] (0,0) _ rfl (setRow_heap w3 _ _ _ _ _ Fd.out.2.1) Tryz.underlying224 rfl IU.out) rfl ⟨by rw [HE.out],?_⟩;exact below_setRow Fd.out.2.2 (by omega) _
end
section
open Go.RowKit Go.Instr
attribute [local go_sem] w_shr8 w_shr16 w_shr24 w_toB ByteArray.mk_append_mk
theorem conv4 (w:World) (a b c d:UInt8):(convert 118 9 (.slice (some ⟨w.heap.size,0,none⟩) 4 4)).run Tryz.prog (w.alloc (.cells #[.int .u8 (a.toNat:Int),.int .u8 (b.toNat:Int),.int .u8 (c.toNat:Int),.int .u8 (d.toNat:Int)] 5))= .ok (.string ⟨#[a,b,c,d]⟩) (w.alloc (.cells #[.int .u8 (a.toNat:Int),.int .u8 (b.toNat:Int),.int .u8 (c.toNat:Int),.int .u8 (d.toNat:Int)] 5)):=by
 refine conv_reads _ (w.heap.size+1) _ _ _ [a,b,c,d] ⟨rfl,fun _=>⟨_,rfl,by simp,fun j u hu=> ?_⟩⟩;have ha:(⟨w.heap.size,0,none⟩:Addr).add j=⟨w.heap.size,j,none⟩:=by unfold Addr.add; split<;>simp_all
 rw [ha,World.cell?_alloc_at _ _ _ _ rfl];simpa [bvals] using hu
def bytes4 (x:UInt32):List UInt8:= [toB (shrW x 24),toB (shrW x 16),toB (shrW x 8),toB x]
def rtd (h:List UInt32):List UInt8:=h.flatMap bytes4
theorem rtd_snoc (h:List UInt32) (i:Nat) (hi:i<h.length):rtd (h.take (i+1))=rtd (h.take i)++ [toB (shrW (h.getD i 0) 24),toB (shrW (h.getD i 0) 16),toB (shrW (h.getD i 0) 8),toB (h.getD i 0)]:=by
 rw [List.take_succ_eq_append_getElem hi,rtd,List.flatMap_append,List.getD_eq_getElem?_getD,List.getElem?_eq_getElem hi];simp [bytes4,rtd]
theorem rsha_Told (h:List UInt32) (hh:h.length=8) (w:World):
  Calls Tryz.prog 148 #[.agg (wvs h).toArray] w fun e w'=>e= .returned (.string ⟨(tdW h 8).toArray⟩)∧Below w.heap.size w w':=by
 have HP:Hid (∀ w',Below w.heap.size w w'→(fun e w'=>e=Ending.returned (.string ⟨(tdW h 8).toArray⟩)∧Below w.heap.size w w') (Ending.returned (.string ⟨(rtd h).toArray⟩)) w'):=ι (fun W' a2=>⟨by rw [tdW_eight h hh]; rfl,a2⟩);generalize (fun e w'=>e=Ending.returned (.string ⟨(tdW h 8).toArray⟩)∧Below w.heap.size w w')=P at HP ⊢;have HH:=ι hh;clear hh;have HBl:Hid (∀ W,Below (w.alloc (.cells (wvs h).toArray 224)).heap.size (w.alloc (.cells (wvs h).toArray 224)) W→Blk W w.heap.size 224 (wvs h).toArray∧Below w.heap.size w W∧w.heap.size<W.heap.size):=ι (fun W hW=>by
  have b1:=(Blk.new w 224 (wvs h).toArray).below hW (Blk.new _ _ _).lt;exact ⟨b1,(show Below w.heap.size w (w.alloc (.cells (wvs h).toArray 224)) by go_grown).nxt hW,b1.lt⟩)
 go_enter Tryz.func148,Tryz.ntmps148
 go_wp2_with fail
 generalize (w.alloc (.cells (wvs h).toArray 224))=w1 at HBl ⊢;refine wp_loop_ghost_k (fun k a wr=>∀ Φ:Act→Prop,(∀ ⦃s0 s2 s5 s6 s7 s8 s9 s1 s3 s4 a0 a3 a4 a5 a6 a7 a8 a9 b0 b2 b3 b4 b5 b6 b7 b8 b9 c1 c2 c3:Value⦄ (i:Nat) (s:List UInt8),(i+k=8∧rtd (h.take i)=s∧s.length=4*i∧Below w1.heap.size w1 wr)→Φ {tmps:=#[s0,.pointer (some ⟨w.heap.size,0,none⟩),s2,.string ⟨s.toArray⟩,.int .i64 (i:Int),s5,s6,s7,s8,s9,s1,s3,s4,a0,a3,a4,a5,a6,a7,a8,a9,b0,b2,b3,b4,b5,b6,b7,b8,b9,c1,c2,c3],defers:= []})→Φ a) (8) ?_ ?_
 ·refine fun Φ hΦ=>hΦ (0) ([]) ?_;exact ⟨by omega,by simp [rtd],rfl,Below.refl _ _⟩
 ·intro k1 a1 wr1 hI1 J1 K1 hJ1 hK1;refine hI1 (fun a=>Code.wp _ _ _ a _) ?_;clear hI1 a1;iterate 30 (intro _)
  intro i s hrel
  show Code.wp _ _ _ _ _;obtain ⟨h1,h2,h3,hb⟩:=hrel;by_cases hi:i<8
  ·obtain ⟨k1',k2,k3⟩:=HBl.out _ hb;have c0:wr1.cell? ⟨w.heap.size,i,none⟩=some (.int .u32 ((h.getD i 0).toNat:Int)):=(k1'.cell _).trans (wvs_at (by rw [HH.out]; exact hi));have HS:Hid (rtd (h.take (i+1))=s++ [toB (shrW (h.getD i 0) 24),toB (shrW (h.getD i 0) 16),toB (shrW (h.getD i 0) 8),toB (h.getD i 0)]):=ι (by rw [rtd_snoc h i (by rw [HH.out]; exact hi),h2]);have HI:=ι (And.intro h1 hb);have hi1:(i:Int)<8:=by omega
   have hi0:(0:Int)≤i:=by omega
   have hsl:(s.length:Int)≤100:=by omega
   have hne:=World.new_ne wr1 ⟨w.heap.size,i,none⟩ c0;clear h1 h2 hb k1';generalize h.getD i 0=x at *;have cv:=conv4 wr1 (toB (shrW x 24)) (toB (shrW x 16)) (toB (shrW x 8)) (toB x);have cvd:(convert 118 9 (.slice (some ⟨wr1.heap.size,0,none⟩) 4 4)).run Tryz.prog (wr1.alloc (.cells #[.int .u8 ((toB (shrW x 24)).toNat:Int),.int .u8 ((toB (shrW x 16)).toNat:Int),.int .u8 ((toB (shrW x 8)).toNat:Int),.int .u8 ((toB x).toNat:Int)] 5)).drew= .ok (.string ⟨#[toB (shrW x 24),toB (shrW x 16),toB (shrW x 8),toB x]⟩) (wr1.alloc (.cells #[.int .u8 ((toB (shrW x 24)).toNat:Int),.int .u8 ((toB (shrW x 16)).toNat:Int),.int .u8 ((toB (shrW x 8)).toNat:Int),.int .u8 ((toB x).toNat:Int)] 5)).drew:=conv4 wr1.drew _ _ _ _;go_upto_region 5 with (fail)
   have hcat:(9223372036854775807<4*i+4)=False:=by simp; omega
   have cS:(wr1.alloc (.cells #[.int .u8 ((toB (shrW x 24)).toNat:Int),.int .u8 ((toB (shrW x 16)).toNat:Int),.int .u8 ((toB (shrW x 8)).toNat:Int),.int .u8 ((toB x).toNat:Int)] 5)).drew.cell? ⟨w.heap.size,i,none⟩=some (.int .u32 (x.toNat:Int)):=(((Below.refl wr1.heap.size wr1).alloc (Nat.le_refl _) (.cells #[.int .u8 ((toB (shrW x 24)).toNat:Int),.int .u8 ((toB (shrW x 16)).toNat:Int),.int .u8 ((toB (shrW x 8)).toNat:Int),.int .u8 ((toB x).toNat:Int)] 5)).cell (p:=⟨w.heap.size,i,none⟩) (World.block_lt_of_cell? _ _ c0)).trans c0;refine wp_region_held_drew (S:=fun w'=>w'.cell? ⟨w.heap.size,i,none⟩=some (.int .u32 (x.toNat:Int))) (by kernel_rfl) c0 (fun hHeld=> ?_);refine tk 0 9 rfl ?_;try go_frame
   refine tk 1 10 rfl ?_;try go_frame
   refine tk 2 11 rfl ?_;try go_frame
   refine tk 3 12 rfl ?_;try go_frame
   refine tk 4 13 rfl ?_;try go_frame
   refine tk 5 14 rfl ?_;try go_frame
   refine tk 6 15 rfl ?_;try go_frame
   refine tk 7 16 rfl ?_;try go_frame
   refine tk 8 17 rfl ?_;try go_frame
   refine tk 9 18 rfl ?_;try go_frame
   refine tk 10 19 rfl ?_;try go_frame
   refine tk 11 20 rfl ?_;try go_frame
   refine tk 12 21 rfl ?_;try go_frame
   refine tk 13 22 rfl ?_;try go_frame
   refine tk 14 23 rfl ?_;try go_frame
   refine tk 15 24 rfl ?_;try go_frame
   refine tk 16 25 rfl ?_;try go_frame
   refine tk 17 26 rfl ?_;try go_frame
   refine tk 18 27 rfl ?_;try go_frame
   refine tk 19 28 rfl ?_;try go_frame
   refine wpAnyH_ready (rs:= [20]) (by kernel_rfl) (by simp) ?_;refine AllReadyH.cons (o:=⟨some 29,_,_,_,_,_⟩) rfl (fun K hK=> ?_) AllReadyH.nil;go_simp
   refine hK.out _ _ cS (fun hHeld=> ?_);clear hK K;try go_frame
   refine wpAnyH_ready (rs:= [21]) (by kernel_rfl) (by simp) ?_;refine AllReadyH.cons (o:=⟨some 30,_,_,_,_,_⟩) rfl (fun K hK=> ?_) AllReadyH.nil;go_simp
   refine hK.out _ _ cS (fun hHeld=> ?_);clear hK K;try go_frame
   refine wpAnyH_ready (rs:= [22]) (by kernel_rfl) (by simp) ?_;refine AllReadyH.cons (o:=⟨some 31,_,_,_,_,_⟩) rfl (fun K hK=> ?_) AllReadyH.nil;go_simp
   refine hK.out _ _ cS (fun hHeld=> ?_);clear hK K;try go_frame
   refine tk 23 3 rfl ?_;try go_frame
   refine wpAnyH_done (by kernel_rfl) ?_ _;go_wp2
   refine Handed.intro (8 - (i+1)) ?_ (hJ1 _ _ _ (fun Φ hΦ=>hΦ (i+1) (s++ [toB (shrW x 24),toB (shrW x 16),toB (shrW x 8),toB x]) ?_))
   ·have:=HI.out.1
    omega
   ·have:=HI.out.1
    exact ⟨by omega,HS.out,by simp; omega,HI.out.2.nxt (by first|go_grown|exact ((Below.refl _ _).alloc (Nat.le_refl _) _).drew)⟩
  ·have e:h.take i=h:=List.take_of_length_le (by rw [HH.out]; omega);rw [e] at h2;subst h2;have hi2:((i:Int)<8)=False:=by simp; omega
   have H:=ι (HBl.out _ hb).2.1;clear h1 hb hi e;go_wp2
   exact HP.out _ H.out
end
section
open Go.RowKit Go.Instr
attribute [local go_sem] ByteArray.mk_append_mk
def endB (m i:Nat):List UInt8:=(bitsB m 8).drop (8 - i)
theorem endB_succ (m i:Nat) (hi:i<8):endB m (i+1)=UInt8.ofNat (8*m / 256 ^ i)::endB m i:=by
 have hl:(bitsB m 8).length=8:=bitsB_length m 8;unfold endB;rw [List.drop_eq_getElem_cons (by omega),show 8 - (i+1)+1=8 - i by omega]
 congr 1
 have e:(bitsB m 8)[8 - (i+1)]?=some (UInt8.ofNat (8*m / 256 ^ i)):=by
  rw [bits_end m,List.getElem?_map,List.getElem?_range (by omega)];simp only [Option.map_some];rw [show 7 - (8 - (i+1))=i by omega]
 rw [List.getElem?_eq_getElem (by omega)] at e;exact Option.some.inj e
theorem u8_ofNat_mod (n:Nat):UInt8.ofNat (n % 256)=UInt8.ofNat n:=by
 apply UInt8.toNat_inj.1
 simp
theorem rsum_one (m:Nat) (hm:m≤1000000) (w0:World)
  (Q:Exit→Act→World→Prop) (p0 p3:Value)
  (hQ:∀ ⦃s1 s2 s4 s6 s7 s8 s9 s0 s3 s5 a0 a2 a3 a4 a5 a6 a7 a8 a9 b0 b1 b2 b3 b4 b5 b6 b7 b8 b9 c0 c1 c2 c3 c4 c5 c6 c7 c8 c9 d0 d1 d2 d3 d4 d5 d6 d7 d8 d9 e0 e1 e2 e3 e4 e5 e6 e7 e8 e9 f0 f1 f2:Value⦄ (w2:World),Below w0.heap.size w0 w2→Q (.exit 0) {tmps:=#[p0,s1,s2,p3,s4,.string ⟨(bitsB m 8).toArray⟩,s6,s7,s8,s9,s0,s3,s5,a0,a2,a3,a4,a5,a6,a7,a8,a9,b0,b1,b2,b3,b4,b5,b6,b7,b8,b9,c0,c1,c2,c3,c4,c5,c6,c7,c8,c9,d0,d1,d2,d3,d4,d5,d6,d7,d8,d9,e0,e1,e2,e3,e4,e5,e6,e7,e8,e9,f0,f1,f2],defers:= []} w2)
  (s1 s2 s7 s8 s9 s0 s3 s5 a0 a2 a3 a4 a5 a6 a7 a8 a9 b0 b1 b2 b3 b4 b5 b6 b7 b8 b9 c0 c1 c2 c3 c4 c5 c6 c7 c8 c9 d0 d1 d2 d3 d4 d5 d6 d7 d8 d9 e0 e1 e2 e3 e4 e5 e6 e7 e8 e9 f0 f1 f2:Value):
  Code.wp Tryz.prog (.loop (loopAt Tryz.f110 0)) Q {tmps:=#[p0,s1,s2,p3,.int .i64 ((8*m:Nat):Int),.string ⟨#[]⟩,.int .i64 0,s7,s8,s9,s0,s3,s5,a0,a2,a3,a4,a5,a6,a7,a8,a9,b0,b1,b2,b3,b4,b5,b6,b7,b8,b9,c0,c1,c2,c3,c4,c5,c6,c7,c8,c9,d0,d1,d2,d3,d4,d5,d6,d7,d8,d9,e0,e1,e2,e3,e4,e5,e6,e7,e8,e9,f0,f1,f2],defers:= []} w0:=by
 have HQ:=ι hQ;clear hQ;refine wp_loop_ghost_k (fun k a wr=>∀ Φ:Act→Prop,(∀ ⦃s1 s2 s7 s8 s9 s0 s3 s5 a0 a2 a3 a4 a5 a6 a7 a8 a9 b0 b1 b2 b3 b4 b5 b6 b7 b8 b9 c0 c1 c2 c3 c4 c5 c6 c7 c8 c9 d0 d1 d2 d3 d4 d5 d6 d7 d8 d9 e0 e1 e2 e3 e4 e5 e6 e7 e8 e9 f0 f1 f2:Value⦄ (i b:Nat) (s:List UInt8),(i+k=8∧b=8*m / 256 ^ i∧endB m i=s∧s.length=i∧Below w0.heap.size w0 wr)→Φ {tmps:=#[p0,s1,s2,p3,.int .i64 (b:Int),.string ⟨s.toArray⟩,.int .i64 (i:Int),s7,s8,s9,s0,s3,s5,a0,a2,a3,a4,a5,a6,a7,a8,a9,b0,b1,b2,b3,b4,b5,b6,b7,b8,b9,c0,c1,c2,c3,c4,c5,c6,c7,c8,c9,d0,d1,d2,d3,d4,d5,d6,d7,d8,d9,e0,e1,e2,e3,e4,e5,e6,e7,e8,e9,f0,f1,f2],defers:= []})→Φ a) (8) ?_ ?_
 ·refine fun Φ hΦ=>hΦ (0) (8*m) ([]) ?_;exact ⟨by omega,by simp,by simp [endB,bitsB_length],rfl,Below.refl _ _⟩
 ·intro k1 a1 wr1 hI1 J1 K1 hJ1 hK1;refine hI1 (fun a=>Code.wp _ _ _ a _) ?_;clear hI1 a1;iterate 60 (intro _)
  intro i b s hrel
  show Code.wp _ _ _ _ _
  conv=>arg 2; whnf
  obtain ⟨h1,h2,h3,h4,hb⟩:=hrel;by_cases hi:i<8
  ·have HE:Hid (endB m (i+1)=UInt8.ofNat (b % 256)::s):=ι (by rw [endB_succ m i hi,h3,u8_ofNat_mod,h2]);have HN:Hid (b / 256=8*m / 256 ^ (i+1)):=ι (by rw [h2,Nat.pow_succ,Nat.div_div_eq_div_mul]);have hbs:b≤8000000:=by
    rw [h2];exact Nat.le_trans (Nat.div_le_self _ _) (by omega)
   have HI:=ι (And.intro h1 hb);have hi1:(i:Int)<8:=by omega
   have hi0:(0:Int)≤i:=by omega
   have hsl:(s.length:Int)≤8:=by omega
   have hb0:(0:Int)≤b:=by omega
   have hb1:(b:Int)≤8000000:=by omega
   have hmod:IntKind.u8.wrap ((b:Int) % 256)=(b:Int) % 256:=IntWalk.u8_in _ (by omega);have cv:=conv1 wr1 ((b:Int) % 256) (by omega) (by omega);have ht:((b:Int) % 256).toNat=b % 256:=by omega
   rw [ht] at cv;have hl4:=h4;clear h1 h2 h3 h4 hb ht;have HL:=ι hl4;clear hl4;go_wp2_with fail
   refine Handed.intro (8 - (i+1)) ?_ (hJ1 _ _ _ (fun Φ hΦ=>hΦ (i+1) (b / 256) (UInt8.ofNat (b % 256)::s) ?_))
   ·have:=HI.out.1
    show 8 - (i+1)<k1;omega
   ·have:=HI.out.1
    exact ⟨by omega,HN.out,HE.out,by have:=HL.out; simp; omega,HI.out.2.nxt (by go_grown)⟩
  ·have e:i=8:=by omega
   subst e;have hs:s=bitsB m 8:=by rw [←h3]; rfl
   subst hs;have hi2:((8:Int)<8)=False:=by simp
   have H:=ι hb;clear h1 h2 h3 h4 hb hi;go_wp2_with fail
   exact HQ.out _ H.out
end
section
open Go.RowKit Go.Instr
attribute [local go_sem] ba_get ByteArray.mk_append_mk
def fbW (c:List UInt8) (k:Nat):List UInt8:=c.take k++List.replicate (64 - k) 0
theorem fbW_length (c:List UInt8) (hc:c.length=64) (k:Nat) (hk:k≤64):(fbW c k).length=64:=by
 simp [fbW,hc]; omega
theorem fbW_set (c:List UInt8) (hc:c.length=64) (k:Nat) (hk:k<64):(fbW c k).set k (c[k]'(by omega))=fbW c (k+1):=by
 unfold fbW;rw [List.set_append_right _ _ (by rw [List.length_take]; omega),List.take_succ_eq_append_getElem (by omega),List.append_assoc]
 congr 1
 have e1:(c.take k).length=k:=by simp; omega
 rw [e1,Nat.sub_self,show 64 - k=(64 - (k+1))+1 by omega,List.replicate_succ];rfl
theorem fbW_all (c:List UInt8) (hc:c.length=64):fbW c 64=c:=by
 simp [fbW,←hc]
theorem rsum_three (all : List UInt8) (hl : all.length ≤ 2000000) (p : Nat) (hp : p + 64 ≤ all.length) (w0 : World) (gb : Nat) (hB : Blk w0 gb 226 (bvals (fbW ((all.drop p).take 64) 0)).toArray)
    (Q : Exit → Act → World → Prop) (p8 : Value)
    (hQ : ∀ ⦃s0 s1 s2 s3 s4 s5 s6 s7 s8 s9 a0 a2 a3 a4 a5 a6 a7 a8 a9 b0 b1 b2 b3 b4 b5 b6 b7 b8 b9 c1 c2 c3 c4 c5 c6 c7 c8 c9 d0 d1 d2 d3 d4 d5 d6 d7 d8 d9 e0 e1 e3 e4 e5 e6 e7 e8 e9 f1 f2 f3 f4 : Value⦄ (w2 : World), Blk w2 gb 226 (bvals ((all.drop p).take 64)).toArray → w0.grownBy w2 (some gb) → w2.heap.size = w0.heap.size → Q (.exit 4) { tmps := #[s0, s1, s2, s3, s4, s5, s6, .string ⟨all.toArray⟩, p8, .int .i64 (p : Int), .pointer (some ⟨gb, 0, none⟩), s7, s8, s9, a0, a2, a3, a4, a5, a6, a7, a8, a9, b0, b1, b2, b3, b4, b5, b6, b7, b8, b9, c1, c2, c3, c4, c5, c6, c7, c8, c9, d0, d1, d2, d3, d4, d5, d6, d7, d8, d9, e0, e1, e3, e4, e5, e6, e7, e8, e9, f1, f2, f3, f4], defers := [] } w2)
    (s0 s1 s2 s3 s4 s5 s6 s8 s9 a0 a2 a3 a4 a5 a6 a7 a8 a9 b0 b1 b2 b3 b4 b5 b6 b7 b8 b9 c1 c2 c3 c4 c5 c6 c7 c8 c9 d0 d1 d2 d3 d4 d5 d6 d7 d8 d9 e0 e1 e3 e4 e5 e6 e7 e8 e9 f1 f2 f3 f4 : Value) :
    Code.wp Tryz.prog (.loop (loopAt Tryz.f110 2)) Q { tmps := #[s0, s1, s2, s3, s4, s5, s6, .string ⟨all.toArray⟩, p8, .int .i64 (p : Int), .pointer (some ⟨gb, 0, none⟩), .int .i64 0, s8, s9, a0, a2, a3, a4, a5, a6, a7, a8, a9, b0, b1, b2, b3, b4, b5, b6, b7, b8, b9, c1, c2, c3, c4, c5, c6, c7, c8, c9, d0, d1, d2, d3, d4, d5, d6, d7, d8, d9, e0, e1, e3, e4, e5, e6, e7, e8, e9, f1, f2, f3, f4], defers := [] } w0 := by
  have HQ := ι hQ
  have hcl : ((all.drop p).take 64).length = 64 := by simp; omega
  have HC := ι hcl
  clear hQ hcl
  refine wp_loop_ghost_k (fun k a wr => ∀ Φ : Act → Prop, (∀ ⦃s0 s1 s2 s3 s4 s5 s6 s8 s9 a0 a2 a3 a4 a5 a6 a7 a8 a9 b0 b1 b2 b3 b4 b5 b6 b7 b8 b9 c1 c2 c3 c4 c5 c6 c7 c8 c9 d0 d1 d2 d3 d4 d5 d6 d7 d8 d9 e0 e1 e3 e4 e5 e6 e7 e8 e9 f1 f2 f3 f4 : Value⦄ (i : Nat), (i + k = 64 ∧ Blk wr gb 226 (bvals (fbW ((all.drop p).take 64) i)).toArray ∧ w0.grownBy wr (some gb) ∧ wr.heap.size = w0.heap.size) → Φ { tmps := #[s0, s1, s2, s3, s4, s5, s6, .string ⟨all.toArray⟩, p8, .int .i64 (p : Int), .pointer (some ⟨gb, 0, none⟩), .int .i64 (i : Int), s8, s9, a0, a2, a3, a4, a5, a6, a7, a8, a9, b0, b1, b2, b3, b4, b5, b6, b7, b8, b9, c1, c2, c3, c4, c5, c6, c7, c8, c9, d0, d1, d2, d3, d4, d5, d6, d7, d8, d9, e0, e1, e3, e4, e5, e6, e7, e8, e9, f1, f2, f3, f4], defers := [] }) → Φ a) (64) ?_ ?_
  · refine fun Φ hΦ => hΦ (0) ?_
    exact ⟨by omega, hB, World.grownBy.refl _ _, rfl⟩
  · intro k1 a1 wr1 hI1 J1 K1 hJ1 hK1
    refine hI1 (fun a => Code.wp _ _ _ a _) ?_
    clear hI1 a1
    iterate 60 (intro _)
    intro i hrel
    show Code.wp _ _ _ _ _
    conv => arg 2; whnf
    obtain ⟨h1, hw, hg, hs⟩ := hrel
    by_cases hi : i < 64
    · have c0 : wr1.cell? ⟨gb, i, none⟩ = some (.int .u8 (((fbW ((all.drop p).take 64) i).getD i 0).toNat : Int)) := (hw.cell _).trans (bvals_at (by rw [fbW_length _ HC.out i (by omega)]; exact hi))
      have f0 : wr1.frozen? ⟨gb, i, none⟩ = false := hw.frozen _
      have hx : ((all.drop p).take 64)[i]'(by rw [HC.out]; exact hi) = all.getD (p + i) 0 := by
        have hlt : p + i < all.length := by omega
        simp [List.getD_eq_getElem?_getD, hlt]
      have HE : Hid ((fbW ((all.drop p).take 64) i).set i (all.getD (p + i) 0) = fbW ((all.drop p).take 64) (i + 1)) := ι (by rw [← hx]; exact fbW_set _ HC.out i hi)
      have H := ι (And.intro h1 (And.intro hw (And.intro hg hs)))
      have hi1 : (i : Int) < 64 := by omega
      have hi0 : (0 : Int) ≤ i := by omega
      have hp0 : (0 : Int) ≤ p := by omega
      have hp1 : (p : Int) + i < all.length := by omega
      have hp2 : (p : Int) + i ≤ 2000000 := by omega
      have hp3 : ((p : Int) + i).toNat = p + i := by omega
      have hp4 : 0 ≤ (p : Int) + i := by omega
      clear h1 hw hg hs hx
      generalize (fbW ((all.drop p).take 64) i).getD i 0 = x0 at *
      have hix : ∀ W, (Instr.index 9 (.string ⟨all.toArray⟩) (.int .i64 ((p : Int) + i))).run Tryz.prog W = .ok (.int .u8 ((all.getD (p + i) 0).toNat : Int)) W := fun W => by
        have hlt : p + i < all.length := by omega
        have hsz : ((p : Int) + i).toNat < (ByteArray.mk all.toArray).size := by rw [hp3]; simpa [ByteArray.size] using hlt
        rw [run_index_string W 9 ⟨all.toArray⟩ .i64 ((p : Int) + i) Tryz.underlying9]
        have e : (ByteArray.mk all.toArray)[((p : Int) + i).toNat]'hsz = all.getD (p + i) 0 := by
          rw [ba_get]
          simp only [hp3]
          simp [List.getD_eq_getElem?_getD, hlt]
        rw [dif_pos ⟨hp4, by have e2 : (ByteArray.mk all.toArray).size = all.length := by simp [ByteArray.size]
                             omega⟩, e]
      generalize all.getD (p + i) 0 = x1 at *
      clear hp3 hp4
      go_wp2_with fail
      refine Handed.intro (64 - (i + 1)) ?_ (hJ1 _ _ _ (fun Φ hΦ => hΦ (i + 1) ?_))
      · have := H.out.1
        show 64 - (i + 1) < k1
        omega
      · obtain ⟨h1, hw, hg, hs⟩ := H.out
        have hw2 := hw.set_ i (.int .u8 (x1.toNat : Int))
        rw [bvals_set, HE.out] at hw2
        exact ⟨by omega, hw2, grown_set0 hg _ _, by simp [hs]⟩
    · have e : i = 64 := by omega
      subst e
      rw [fbW_all _ HC.out] at hw
      have H := ι (And.intro hw (And.intro hg hs))
      clear hw hg hs h1
      go_wp2
      exact HQ.out _ H.out.1 H.out.2.1 H.out.2.2
theorem zeros64b (c:List UInt8):(bvals (fbW c 0)).toArray=#[.int .u8 0,.int .u8 0,.int .u8 0,.int .u8 0,.int .u8 0,.int .u8 0,.int .u8 0,.int .u8 0,.int .u8 0,.int .u8 0,.int .u8 0,.int .u8 0,.int .u8 0,.int .u8 0,.int .u8 0,.int .u8 0,.int .u8 0,.int .u8 0,.int .u8 0,.int .u8 0,.int .u8 0,.int .u8 0,.int .u8 0,.int .u8 0,.int .u8 0,.int .u8 0,.int .u8 0,.int .u8 0,.int .u8 0,.int .u8 0,.int .u8 0,.int .u8 0,.int .u8 0,.int .u8 0,.int .u8 0,.int .u8 0,.int .u8 0,.int .u8 0,.int .u8 0,.int .u8 0,.int .u8 0,.int .u8 0,.int .u8 0,.int .u8 0,.int .u8 0,.int .u8 0,.int .u8 0,.int .u8 0,.int .u8 0,.int .u8 0,.int .u8 0,.int .u8 0,.int .u8 0,.int .u8 0,.int .u8 0,.int .u8 0,.int .u8 0,.int .u8 0,.int .u8 0,.int .u8 0,.int .u8 0,.int .u8 0,.int .u8 0,.int .u8 0]:=rfl
theorem rsum_two (all:List UInt8) (hl:all.length≤2000000) (hm:all.length % 64=0) (B:Nat) (w0:World) (gh:Nat) (hBg:B≤gh) (hBw:B≤w0.heap.size) (hH:Blk w0 gh 224 (wvs firstH).toArray)
  (Q:Exit→Act→World→Prop)
  (hQ:∀ ⦃s0 s1 s2 s3 s4 s5 s6 s9 a0 a2 a3 a4 a5 a6 a7 a8 a9 b0 b1 b2 b3 b4 b5 b6 b7 b8 b9 c0 c1 c2 c3 c4 c5 c6 c7 c8 c9 d0 d1 d2 d3 d4 d5 d6 d7 d8 d9 e0 e1 e2 e3 e4 e5 e6 e7 e8 e9 f0 f1 f2 f3 f4 f5:Value⦄ (w2:World),Blk w2 gh 224 (wvs (hsW firstH all (all.length / 64))).toArray→Below B w0 w2→Q (.exit 2) {tmps:=#[s0,s1,s2,s3,s4,s5,s6,.string ⟨all.toArray⟩,.pointer (some ⟨gh,0,none⟩),s9,a0,a2,a3,a4,a5,a6,a7,a8,a9,b0,b1,b2,b3,b4,b5,b6,b7,b8,b9,c0,c1,c2,c3,c4,c5,c6,c7,c8,c9,d0,d1,d2,d3,d4,d5,d6,d7,d8,d9,e0,e1,e2,e3,e4,e5,e6,e7,e8,e9,f0,f1,f2,f3,f4,f5],defers:= []} w2)
  (s0 s1 s2 s3 s4 s5 s6 a0 a2 a3 a4 a5 a6 a7 a8 a9 b0 b1 b2 b3 b4 b5 b6 b7 b8 b9 c0 c1 c2 c3 c4 c5 c6 c7 c8 c9 d0 d1 d2 d3 d4 d5 d6 d7 d8 d9 e0 e1 e2 e3 e4 e5 e6 e7 e8 e9 f0 f1 f2 f3 f4 f5:Value):
  Code.wp Tryz.prog (.loop (loopAt Tryz.f110 1)) Q {tmps:=#[s0,s1,s2,s3,s4,s5,s6,.string ⟨all.toArray⟩,.pointer (some ⟨gh,0,none⟩),.int .i64 0,a0,a2,a3,a4,a5,a6,a7,a8,a9,b0,b1,b2,b3,b4,b5,b6,b7,b8,b9,c0,c1,c2,c3,c4,c5,c6,c7,c8,c9,d0,d1,d2,d3,d4,d5,d6,d7,d8,d9,e0,e1,e2,e3,e4,e5,e6,e7,e8,e9,f0,f1,f2,f3,f4,f5],defers:= []} w0:=by
 have HQ:=ι hQ;have HH:=ι hH;clear hQ hH;refine wp_loop_ghost_k (fun k a wr=>∀ Φ:Act→Prop,(∀ ⦃s0 s1 s2 s3 s4 s5 s6 a0 a2 a3 a4 a5 a6 a7 a8 a9 b0 b1 b2 b3 b4 b5 b6 b7 b8 b9 c0 c1 c2 c3 c4 c5 c6 c7 c8 c9 d0 d1 d2 d3 d4 d5 d6 d7 d8 d9 e0 e1 e2 e3 e4 e5 e6 e7 e8 e9 f0 f1 f2 f3 f4 f5:Value⦄ (p j:Nat),(j+k=all.length / 64∧p=64*j∧Blk wr gh 224 (wvs (hsW firstH all j)).toArray∧Below B w0 wr)→Φ {tmps:=#[s0,s1,s2,s3,s4,s5,s6,.string ⟨all.toArray⟩,.pointer (some ⟨gh,0,none⟩),.int .i64 (p:Int),a0,a2,a3,a4,a5,a6,a7,a8,a9,b0,b1,b2,b3,b4,b5,b6,b7,b8,b9,c0,c1,c2,c3,c4,c5,c6,c7,c8,c9,d0,d1,d2,d3,d4,d5,d6,d7,d8,d9,e0,e1,e2,e3,e4,e5,e6,e7,e8,e9,f0,f1,f2,f3,f4,f5],defers:= []})→Φ a) (all.length / 64) ?_ ?_
 ·refine fun Φ hΦ=>hΦ (0) (0) ?_;exact ⟨by omega,rfl,HH.out,Below.refl _ _⟩
 ·intro k1 a1 wr1 hI1 J1 K1 hJ1 hK1;refine hI1 (fun a=>Code.wp _ _ _ a _) ?_;clear hI1 a1;intro s0 s1 s2 s3 s4 s5 s6 s7 s8 s9 a0 a2 a3 a4 a5 a6 a7 a8 a9 b0 b1 b2 b3 b4 b5 b6 b7 b8 b9 c0 c1 c2 c3 c4 c5 c6 c7 c8 c9 d0 d1 d2 d3 d4 d5 d6 d7 d8 d9 e0 e1 e2 e3 e4 e5 e6 e7 e8 e9 f0 f1 f2 p j hrel
  show Code.wp _ _ _ _ _
  conv=>arg 2; whnf
  obtain ⟨h1,h2,hw,hb⟩:=hrel;by_cases hj:j<all.length / 64
  ·have hp:p+64≤all.length:=by omega
   have hlt:=hw.lt;have HE:Hid (hsW firstH all (j+1)=blockW (hsW firstH all j) ((all.drop p).take 64)):=ι (by rw [hsW,h2]);have HI:=ι (And.intro h1 (And.intro h2 (And.intro hw hb)));have hpI:(p:Int)+64≤all.length:=by omega
   have hpL:(all.length:Int)≤2000000:=by omega
   have hp0:(0:Int)≤p:=by omega
   have hcl:((all.drop p).take 64).length=64:=by simp; omega
   have hhl:=hsW_length firstH all rfl j;have HBk:=ι (fun W=>rsha_Block (hsW firstH all j) hhl ((all.drop p).take 64) hcl W);have I8:=ι (size_of8 hhl);have IB:=ι (size_ofb hcl);have hhl2:=blockW_length (hsW firstH all j) ((all.drop p).take 64) hhl;have I8':=ι (size_of8 hhl2);have A8:=ι (wvs_all (blockW (hsW firstH all j) ((all.drop p).take 64)));have Z8:Hid ((wvs (hsW firstH all j)).toArray.size=(wvs (blockW (hsW firstH all j) ((all.drop p).take 64))).toArray.size):=ι (by rw [List.size_toArray,List.size_toArray,wvs_length,wvs_length,hhl,hhl2]);clear h1 h2 hw hb hcl hhl hhl2;go_wp2_with fail
   have FA:Hid (Blk (wr1.alloc (.cells (bvals (fbW ((all.drop p).take 64) 0)).toArray 226)) wr1.heap.size 226 (bvals (fbW ((all.drop p).take 64) 0)).toArray∧Below wr1.heap.size wr1 (wr1.alloc (.cells (bvals (fbW ((all.drop p).take 64) 0)).toArray 226))):=ι ⟨Blk.new _ _ _,by go_grown⟩;rw [←zeros64b ((all.drop p).take 64)];generalize wr1.alloc (.cells (bvals (fbW ((all.drop p).take 64) 0)).toArray 226)=W1 at FA ⊢;refine rsum_three all hl p hp W1 wr1.heap.size FA.out.1 _ _ ?_ _ _ _ _ _ _ _ _ _ _ _ _ _ _ _ _ _ _ _ _ _ _ _ _ _ _ _ _ _ _ _ _ _ _ _ _ _ _ _ _ _ _ _ _ _ _ _ _ _ _ _ _ _ _ _ _ _ _ _ _;iterate 61 (intro _)
   intro w2 hw2 hg2 hs2;have FB:Hid (Blk w2 wr1.heap.size 226 (bvals ((all.drop p).take 64)).toArray∧Below wr1.heap.size wr1 w2):=ι ⟨hw2,FA.out.2.grown hg2 FA.out.2.size (by intro k e; injection e with e; omega)⟩;have FH:Hid (Blk w2 gh 224 (wvs (hsW firstH all j)).toArray):=ι (HI.out.2.2.1.below FB.out.2 HI.out.2.2.1.lt);clear hw2 hg2 hs2 FA;generalize (wvs (hsW firstH all j)).toArray=hs0 at *;generalize (bvals ((all.drop p).take 64)).toArray=bs0 at *;generalize hg1:(wvs (blockW (hsW firstH all j) ((all.drop p).take 64))).toArray=hs1 at *;have HG:=ι hg1;clear hg1;go_wp2_with (first|((with_reducible refine at_loadR 60 ?_); refine wpList_load_row rfl 224 _ rfl gh rfl _ _ _ _ FH.out Tryz.underlying224 rfl I8.out ?_)|((with_reducible refine at_loadR 61 ?_); refine wpList_load_row rfl 226 _ rfl wr1.heap.size rfl _ _ _ _ FB.out.1 Tryz.underlying226 rfl IB.out ?_))
   refine (HBk.out _).mono ?_;rintro e w3 ⟨rfl,hb3⟩;have FH3:Hid (Blk w3 gh 224 hs0∧Below wr1.heap.size wr1 w3):=ι ⟨FH.out.below hb3 FH.out.lt,FB.out.2.nxt hb3⟩;clear hb3;go_wp2_with ((with_reducible refine at_storeR 62 ?_); refine wpList_store_row rfl 224 _ _ rfl gh _ rfl rfl _ _ FH3.out.1 I8'.out Z8.out A8.out ?_)
   refine Handed.intro (all.length / 64 - (j+1)) ?_ (hJ1 _ _ _ (fun Φ hΦ=>hΦ (p+64) (j+1) ?_))
   ·have:=HI.out.1
    show all.length / 64 - (j+1)<k1;omega
   ·have:=HI.out.1
    refine ⟨by omega,by have:=HI.out.2.1; omega,?_,below_setRow (HI.out.2.2.2.trans (FH3.out.2.mono (by have:=HI.out.2.2.2.size; omega))) hBg _⟩;rw [HE.out];rw [HG.out];exact setRow_heap w3 gh _ _ _ _ FH3.out.1
  ·have e:j=all.length / 64:=by omega
   subst e;have hpI:((p:Int)+64≤all.length)=False:=by simp; omega
   have hpL:(all.length:Int)≤2000000:=by omega
   have hp9:(p:Int)≤2000000:=by omega
   have H:=ι (And.intro hw hb);clear hw hb h1 h2;go_wp2_with fail
   exact HQ.out _ H.out.1 H.out.2
theorem zeros_of (w:World) (z:Nat) (hz:z≤64):∃ o,(Instr.makeSlice 118 (.int .i64 (z:Int)) (.int .i64 (z:Int))).run Tryz.prog w= .ok (.slice (some ⟨w.heap.size,0,none⟩) z z) (w.alloc o)∧
  (convert 118 9 (.slice (some ⟨w.heap.size,0,none⟩) z z)).run Tryz.prog (w.alloc o)= .ok (.string ⟨(List.replicate z (0:UInt8)).toArray⟩) (w.alloc o):=by
 obtain ⟨i0,hi0,hz0,hz1,hz2⟩:=info_parts info_byte;refine ⟨_,run_make_rowN 118 5 i0 _ Tryz.underlying118 hi0 hz0 .i64 .i64 z z (Nat.le_refl _) (by rw [hz2]; omega) (by omega) w,?_⟩;refine conv_reads _ (w.heap.size+1) _ _ _ (List.replicate z 0) ⟨by simp [bvals],fun _=>⟨_,rfl,by simp,fun j u hu=> ?_⟩⟩;have ha:(⟨w.heap.size,0,none⟩:Addr).add j=⟨w.heap.size,j,none⟩:=by unfold Addr.add; split<;>simp_all
 rw [ha,World.cell?_alloc_at _ _ _ _ rfl,hz1];have hj:j<z:=by
  have:=(List.getElem?_eq_some_iff.1 hu).1
  simpa [bvals] using this
 rw [←hu];simp [madeCells,bvals,hj,Value.cells,Nat.mod_one]
theorem rsha_Sum (l:List UInt8) (hl:l.length≤1000000) (w:World):
  Calls Tryz.prog 110 #[l] w fun e w'=>e= .returned (.string ⟨(shaW l).toArray⟩)∧Below w.heap.size w w':=by
 have HP:Hid (∀ w',Below w.heap.size w w'→(fun e w'=>e=Ending.returned (.string ⟨(shaW l).toArray⟩)∧Below w.heap.size w w') (Ending.returned (.string ⟨(tdW (hsW firstH (fullW l) ((fullW l).length / 64)) 8).toArray⟩)) w'):=ι (fun W' a2=>⟨by rw [shaW_full],a2⟩);generalize (fun e w'=>e=Ending.returned (.string ⟨(shaW l).toArray⟩)∧Below w.heap.size w w')=P at HP ⊢;have hz:(119 - l.length % 64) % 64<64:=Nat.mod_lt _ (by omega);have HF:Hid (fullW l=((l++ [128])++List.replicate ((119 - l.length % 64) % 64) 0)++bitsB l.length 8):=ι rfl;have HW:=ι (fullW_whole l);have HLf:Hid ((fullW l).length≤2000000):=ι (by
  unfold fullW;simp only [List.length_append,List.length_replicate,List.length_cons,List.length_nil,bitsB_length];omega)
 have hzI:((119:Int) - (l.length:Int) % 64) % 64=(((119 - l.length % 64) % 64:Nat):Int):=by omega
 have hb8:(l.length:Int)*8=((8*l.length:Nat):Int):=by omega
 generalize (119 - l.length % 64) % 64=z at *;generalize fullW l=all at *;have hlI:(l.length:Int)≤1000000:=by omega
 go_enter Tryz.func110,Tryz.ntmps110
 go_wp2_with fail
 have e8:8*(l.length:Int)=((8*l.length:Nat):Int):=by omega
 rw [hzI,e8];clear hzI hb8 e8;refine rsum_one l.length hl w _ _ _ ?_ _ _ _ _ _ _ _ _ _ _ _ _ _ _ _ _ _ _ _ _ _ _ _ _ _ _ _ _ _ _ _ _ _ _ _ _ _ _ _ _ _ _ _ _ _ _ _ _ _ _ _ _ _ _ _ _ _ _ _ _;intro s1 s2 s4 s6 s7 s8 s9 s10 s11 s12 s13 s14 s15 s16 s17 s18 s19 s20 s21 s22 s23 s24 s25 s26 s27 s28 s29 s30 s31 s32 s33 s34 s35 s36 s37 s38 s39 s40 s41 s42 s43 s44 s45 s46 s47 s48 s49 s50 s51 s52 s53 s54 s55 s56 s57 s58 s59 s60 s61 s62 s63 s64 w2 hb2;obtain ⟨o2,hmk,hcv⟩:=zeros_of w2 z (by omega);have hbl:(bitsB l.length 8).length≤8:=Nat.le_of_eq (bitsB_length l.length 8);have hzl:(List.replicate z (0:UInt8)).length≤64:=by rw [List.length_replicate]; omega
 generalize List.replicate z (0:UInt8)=zs at *;have HB2:=ι hb2;have hz9:(z:Int)≤64:=by omega
 clear hb2;generalize bitsB l.length 8=en at *;go_wp2_with fail
 have HB3:Hid (Below w.heap.size w (w2.alloc o2)):=ι (HB2.out.nxt (by go_grown));clear hmk hcv;generalize w2.alloc o2=W3 at HB3 ⊢;refine (rsha_First _).mono ?_;rintro e w4 ⟨rfl,hb4⟩;have HB4:=ι (HB3.out.nxt hb4);clear hb4;have I8:Hid ((Tryz.prog.info? 224).map (·.size)=some (wvs firstH).toArray.size):=ι info_w8;have A8:=ι (wvs_all firstH);have Z8:Hid ((#[ω,ω,ω,ω,ω,ω,ω,ω]:Array Value).size=(wvs firstH).toArray.size):=ι rfl;have HAll:Hid (l++128::(zs++en)=all):=ι (by rw [HF.out]; simp);generalize hgf:(wvs firstH).toArray=fs at *;have HG:=ι hgf;clear hgf;go_wp2_with ((with_reducible refine at_storeR 41 ?_); refine wpList_store_row rfl 224 _ _ rfl w4.heap.size _ rfl rfl _ _ (heap_alloc_new w4 _) I8.out Z8.out A8.out ?_)
 rw [World.setRow_alloc_new];rw [HAll.out];have FA:Hid (Blk (w4.alloc (.cells fs 224)) w4.heap.size 224 fs∧Below w.heap.size w (w4.alloc (.cells fs 224))∧w.heap.size≤w4.heap.size∧w.heap.size≤(w4.alloc (.cells fs 224)).heap.size):=ι ⟨Blk.new _ _ _,HB4.out.nxt (by go_grown),HB4.out.size,by have:=HB4.out.size; simp; omega⟩;generalize w4.alloc (.cells fs 224)=W5 at FA ⊢;generalize w4.heap.size=gh at *;refine rsum_two all HLf.out HW.out w.heap.size W5 gh FA.out.2.2.1 FA.out.2.2.2 (by rw [HG.out]; exact FA.out.1) _ ?_ _ _ _ _ _ _ _ _ _ _ _ _ _ _ _ _ _ _ _ _ _ _ _ _ _ _ _ _ _ _ _ _ _ _ _ _ _ _ _ _ _ _ _ _ _ _ _ _ _ _ _ _ _ _ _ _ _ _ _ _ _ _;intro s0 s1 s2 s3 s4 s5 s6 s9 s10 s11 s12 s13 s14 s15 s16 s17 s18 s19 s20 s21 s22 s23 s24 s25 s26 s27 s28 s29 s30 s31 s32 s33 s34 s35 s36 s37 s38 s39 s40 s41 s42 s43 s44 s45 s46 s47 s48 s49 s50 s51 s52 s53 s54 s55 s56 s57 s58 s59 s60 s61 s62 s63 s64 w6 hw6 hb6;have F6:=ι hw6;have HB6:=ι (FA.out.2.1.trans hb6);have hhl:=hsW_length firstH all rfl (all.length / 64);have HT:=ι (fun W=>rsha_Told (hsW firstH all (all.length / 64)) hhl W);have I9:=ι (size_of8 hhl);clear hw6 hb6 hhl FA;generalize hsW firstH all (all.length / 64)=hf at *;go_wp2_with ((with_reducible refine at_loadR 63 ?_); refine wpList_load_row rfl 224 _ rfl gh rfl _ _ _ _ F6.out Tryz.underlying224 rfl I9.out ?_)
 refine (HT.out _).mono ?_;rintro e w7 ⟨rfl,hb7⟩;go_wp2_with fail
 exact HP.out _ (HB6.out.nxt hb7)
end
section
open Go.RowKit Go.Instr
attribute [local go_sem] ByteArray.mk_append_mk
theorem ref04_Tagged (w:World) (tag:Nat) (h2:tag≤255) (l:List UInt8) (hl:l.length≤999999):
  Calls Tryz.prog 65 #[tag,l] w fun e w'=>e= .returned (.string ⟨(shaW (UInt8.ofNat tag::l)).toArray⟩)∧Below w.heap.size w w':=by
 have HS:Hid (∀ W,Calls Tryz.prog 110 #[.string ⟨(UInt8.ofNat tag::l).toArray⟩] W fun e w'=>e= .returned (.string ⟨(shaW (UInt8.ofNat tag::l)).toArray⟩)∧Below W.heap.size W w'):=ι (fun W=>rsha_Sum (UInt8.ofNat tag::l) (by simp; omega) W);have HP:Hid (∀ S w',shaW (UInt8.ofNat tag::l)=S→Below w.heap.size w w'→(fun e w'=>e=Ending.returned (.string ⟨(shaW (UInt8.ofNat tag::l)).toArray⟩)∧Below w.heap.size w w') (Ending.returned (S:Value)) w'):=ι (fun S W' e a2=>⟨by rw [e],a2⟩);generalize (fun e w'=>e=Ending.returned (.string ⟨(shaW (UInt8.ofNat tag::l)).toArray⟩)∧Below w.heap.size w w')=P at HP ⊢;have hw:IntKind.u8.wrap (tag:Int)=(tag:Int):=IntWalk.u8_in _ (by omega);have cv:=conv1 w (tag:Int) (by omega) (by omega);rw [Int.toNat_natCast] at cv;have hlI:(l.length:Int)≤999999:=by omega
 go_enter Tryz.func65,Tryz.ntmps65
 go_wp2_with fail
 clear cv;refine (HS.out _).mono ?_;rintro e w1 ⟨rfl,hb1⟩;have HQ:=ι (HP.out _ w1 rfl (Below.nxt (by go_grown) hb1));clear hb1 HS HP;generalize shaW (UInt8.ofNat tag::l)=S at *;go_wp2_with fail
 exact HQ.out
end
end Go.Proofs.YtnelhjfjkkdoaaaGreatDoor