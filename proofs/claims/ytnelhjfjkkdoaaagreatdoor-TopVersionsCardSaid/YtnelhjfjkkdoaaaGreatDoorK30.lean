import Derived.Test.YtnelhjfjkkdoaaaGreatDoorK11
set_option linter.unusedSimpArgs false
set_option linter.unusedVariables false
set_option maxHeartbeats 4000000
set_option maxRecDepth 100000
namespace Go.Proofs.YtnelhjfjkkdoaaaGreatDoor
section
open Go.RowKit Go.Instr
attribute [local go_sem] w_add w_xor w_and w_notmax u32_signed u32_max w_shr3 w_shr10
theorem rsha_t2 (x:UInt32) (w:World):Calls Tryz.prog 180 #[.int .u32 (x.toNat:Int),.int .i64 2] w fun e w'=>e= .returned (.int .u32 ((rotW x 2).toNat:Int))∧w=w':=(rsha_turned2 x w).mono fun _ _ h=>⟨h.1,h.2.symm⟩
theorem rsha_t6 (x:UInt32) (w:World):Calls Tryz.prog 180 #[.int .u32 (x.toNat:Int),.int .i64 6] w fun e w'=>e= .returned (.int .u32 ((rotW x 6).toNat:Int))∧w=w':=(rsha_turned6 x w).mono fun _ _ h=>⟨h.1,h.2.symm⟩
theorem rsha_t7 (x:UInt32) (w:World):Calls Tryz.prog 180 #[.int .u32 (x.toNat:Int),.int .i64 7] w fun e w'=>e= .returned (.int .u32 ((rotW x 7).toNat:Int))∧w=w':=(rsha_turned7 x w).mono fun _ _ h=>⟨h.1,h.2.symm⟩
theorem rsha_t11 (x:UInt32) (w:World):Calls Tryz.prog 180 #[.int .u32 (x.toNat:Int),.int .i64 11] w fun e w'=>e= .returned (.int .u32 ((rotW x 11).toNat:Int))∧w=w':=(rsha_turned11 x w).mono fun _ _ h=>⟨h.1,h.2.symm⟩
theorem rsha_t13 (x:UInt32) (w:World):Calls Tryz.prog 180 #[.int .u32 (x.toNat:Int),.int .i64 13] w fun e w'=>e= .returned (.int .u32 ((rotW x 13).toNat:Int))∧w=w':=(rsha_turned13 x w).mono fun _ _ h=>⟨h.1,h.2.symm⟩
theorem rsha_t17 (x:UInt32) (w:World):Calls Tryz.prog 180 #[.int .u32 (x.toNat:Int),.int .i64 17] w fun e w'=>e= .returned (.int .u32 ((rotW x 17).toNat:Int))∧w=w':=(rsha_turned17 x w).mono fun _ _ h=>⟨h.1,h.2.symm⟩
theorem rsha_t18 (x:UInt32) (w:World):Calls Tryz.prog 180 #[.int .u32 (x.toNat:Int),.int .i64 18] w fun e w'=>e= .returned (.int .u32 ((rotW x 18).toNat:Int))∧w=w':=(rsha_turned18 x w).mono fun _ _ h=>⟨h.1,h.2.symm⟩
theorem rsha_t19 (x:UInt32) (w:World):Calls Tryz.prog 180 #[.int .u32 (x.toNat:Int),.int .i64 19] w fun e w'=>e= .returned (.int .u32 ((rotW x 19).toNat:Int))∧w=w':=(rsha_turned19 x w).mono fun _ _ h=>⟨h.1,h.2.symm⟩
theorem rsha_t22 (x:UInt32) (w:World):Calls Tryz.prog 180 #[.int .u32 (x.toNat:Int),.int .i64 22] w fun e w'=>e= .returned (.int .u32 ((rotW x 22).toNat:Int))∧w=w':=(rsha_turned22 x w).mono fun _ _ h=>⟨h.1,h.2.symm⟩
theorem rsha_t25 (x:UInt32) (w:World):Calls Tryz.prog 180 #[.int .u32 (x.toNat:Int),.int .i64 25] w fun e w'=>e= .returned (.int .u32 ((rotW x 25).toNat:Int))∧w=w':=(rsha_turned25 x w).mono fun _ _ h=>⟨h.1,h.2.symm⟩
theorem z_20 {P:Prop} (h:P:=by
 have HX3:Hid (Blk w3 gw 257 (wvs (winW b (i+1))).toArray∧w0.grownBy w3 (some gw)):=ι ⟨HX.out.2.1.below hb3 HX.out.1,HX.out.2.2.trans (only_of_below hb3 _)⟩;clear hb3 d3 cx HX;go_wp2_with (first|(go_at_call 180; ((with_reducible refine (rsha_t2 _ _).mono ?_); rintro e w' ⟨rfl,rfl⟩))|(go_at_call 180; ((with_reducible refine (rsha_t13 _ _).mono ?_); rintro e w' ⟨rfl,rfl⟩))|(go_at_call 180; ((with_reducible refine (rsha_t22 _ _).mono ?_); rintro e w' ⟨rfl,rfl⟩)))
 refine Handed.intro (64 - (i+1)) ?_ (hJ1 _ _ _ (fun Φ hΦ=>hΦ (i+1) (addW (oneW v4 v5 v6 v7 kk sx) (twoW v0 v1 v2)) (v0) (v1) (v2) (addW v3 (oneW v4 v5 v6 v7 kk sx)) (v4) (v5) (v6) ?_))
 ·have:=H1.out
  show 64 - (i+1)<k1;omega
 ·have:=H1.out
  exact ⟨by omega,E.out,HX3.out.1,HX3.out.2⟩):P:=h
theorem rblock_two (h:List UInt32) (hh:h.length=8) (b:List UInt8) (w0:World) (gw:Nat) (hW:Blk w0 gw 257 (wvs (winW b 0)).toArray)
  (Q:Exit→Act→World→Prop) (p2 p3 p4:Value) (u0 u1 u2 u3 u4 u5 u6 u7:UInt32) (hu:h= [u0,u1,u2,u3,u4,u5,u6,u7])
  (hQ:∀ (v0 v1 v2 v3 v4 v5 v6 v7:UInt32),roundsW h (spreadW b) 64= [v0,v1,v2,v3,v4,v5,v6,v7]→∀ ⦃s0 s1 s6 s2 s3 s4 s5 s7 s8 s9 a0 a5 a6 a7 a8 a9 b0 b1 b2 b3 b4 b5 b6 b7 b8 b9 c0 c1 c2 c3 c4 c5 c6 c7 c8 c9 d0 d1 d2 d4 d5 d6 d7 d8 d9 e1 e2 e3 e5 e6 e7 e8 e9 f1 f2 f3 f4 f5 f6 f7 f8 f9 g0 g1 g2 g3 g4 g5 g6 g7 g8 g9 h0 h2 h3 h4 h5 h6 h7 h8 h9 i0 i1 i2 i3 i4 i5 i6 i7 i8 i9 j0 j1 j2 j3 j4 j5 j6 j7 j8 j9 k0 k2 k3 k4 k5 k6 k7 k8 k9 l0 l1 l2 l3 l4 l5 l6 l7 l8 l9 m0 m1 m2 m3 m4 m5 m6 m7 m8 m9 n0 n1 n2 n3 n4 n5 n6 n7 n8 n9 o0 o1 o2 o3 o4 o5 o6 o7 o8 o9 p0 p1 p5 p6 p7 p8 p9 q0 q5 q6 q7 q8 q9 r0 r1 r2 r3 r4 r5 r6 r7 r8 r9 t3 t5 t6 t7 t8 t9 u8 u9 v8 v9 w1:Value⦄ (w2:World),w0.grownBy w2 (some gw)→Q (.exit 2) {tmps:=#[s0,s1,p2,p3,p4,.pointer (some ⟨gw,0,none⟩),s6,.int .u32 (v0.toNat:Int),.int .u32 (v1.toNat:Int),.int .u32 (v2.toNat:Int),.int .u32 (v3.toNat:Int),.int .u32 (v4.toNat:Int),.int .u32 (v5.toNat:Int),.int .u32 (v6.toNat:Int),.int .u32 (v7.toNat:Int),s2,s3,s4,s5,s7,s8,s9,a0,a5,a6,a7,a8,a9,b0,b1,b2,b3,b4,b5,b6,b7,b8,b9,c0,c1,c2,c3,c4,c5,c6,c7,c8,c9,d0,d1,d2,d4,d5,d6,d7,d8,d9,e1,e2,e3,e5,e6,e7,e8,e9,f1,f2,f3,f4,f5,f6,f7,f8,f9,g0,g1,g2,g3,g4,g5,g6,g7,g8,g9,h0,h2,h3,h4,h5,h6,h7,h8,h9,i0,i1,i2,i3,i4,i5,i6,i7,i8,i9,j0,j1,j2,j3,j4,j5,j6,j7,j8,j9,k0,k2,k3,k4,k5,k6,k7,k8,k9,l0,l1,l2,l3,l4,l5,l6,l7,l8,l9,m0,m1,m2,m3,m4,m5,m6,m7,m8,m9,n0,n1,n2,n3,n4,n5,n6,n7,n8,n9,o0,o1,o2,o3,o4,o5,o6,o7,o8,o9,p0,p1,p5,p6,p7,p8,p9,q0,q5,q6,q7,q8,q9,r0,r1,r2,r3,r4,r5,r6,r7,r8,r9,t3,t5,t6,t7,t8,t9,u8,u9,v8,v9,w1],defers:= []} w2)
  (s0 s1 s6 s3 s4 s5 s7 s8 s9 a0 a5 a6 a7 a8 a9 b0 b1 b2 b3 b4 b5 b6 b7 b8 b9 c0 c1 c2 c3 c4 c5 c6 c7 c8 c9 d0 d1 d2 d4 d5 d6 d7 d8 d9 e1 e2 e3 e5 e6 e7 e8 e9 f1 f2 f3 f4 f5 f6 f7 f8 f9 g0 g1 g2 g3 g4 g5 g6 g7 g8 g9 h0 h2 h3 h4 h5 h6 h7 h8 h9 i0 i1 i2 i3 i4 i5 i6 i7 i8 i9 j0 j1 j2 j3 j4 j5 j6 j7 j8 j9 k0 k2 k3 k4 k5 k6 k7 k8 k9 l0 l1 l2 l3 l4 l5 l6 l7 l8 l9 m0 m1 m2 m3 m4 m5 m6 m7 m8 m9 n0 n1 n2 n3 n4 n5 n6 n7 n8 n9 o0 o1 o2 o3 o4 o5 o6 o7 o8 o9 p0 p1 p5 p6 p7 p8 p9 q0 q5 q6 q7 q8 q9 r0 r1 r2 r3 r4 r5 r6 r7 r8 r9 t3 t5 t6 t7 t8 t9 u8 u9 v8 v9 w1:Value):
  Code.wp Tryz.prog (.loop (loopAt Tryz.f147 1)) Q {tmps:=#[s0,s1,p2,p3,p4,.pointer (some ⟨gw,0,none⟩),s6,.int .u32 (u0.toNat:Int),.int .u32 (u1.toNat:Int),.int .u32 (u2.toNat:Int),.int .u32 (u3.toNat:Int),.int .u32 (u4.toNat:Int),.int .u32 (u5.toNat:Int),.int .u32 (u6.toNat:Int),.int .u32 (u7.toNat:Int),.int .i64 0,s3,s4,s5,s7,s8,s9,a0,a5,a6,a7,a8,a9,b0,b1,b2,b3,b4,b5,b6,b7,b8,b9,c0,c1,c2,c3,c4,c5,c6,c7,c8,c9,d0,d1,d2,d4,d5,d6,d7,d8,d9,e1,e2,e3,e5,e6,e7,e8,e9,f1,f2,f3,f4,f5,f6,f7,f8,f9,g0,g1,g2,g3,g4,g5,g6,g7,g8,g9,h0,h2,h3,h4,h5,h6,h7,h8,h9,i0,i1,i2,i3,i4,i5,i6,i7,i8,i9,j0,j1,j2,j3,j4,j5,j6,j7,j8,j9,k0,k2,k3,k4,k5,k6,k7,k8,k9,l0,l1,l2,l3,l4,l5,l6,l7,l8,l9,m0,m1,m2,m3,m4,m5,m6,m7,m8,m9,n0,n1,n2,n3,n4,n5,n6,n7,n8,n9,o0,o1,o2,o3,o4,o5,o6,o7,o8,o9,p0,p1,p5,p6,p7,p8,p9,q0,q5,q6,q7,q8,q9,r0,r1,r2,r3,r4,r5,r6,r7,r8,r9,t3,t5,t6,t7,t8,t9,u8,u9,v8,v9,w1],defers:= []} w0:=by
 have HQ:=ι hQ;clear hQ;refine wp_loop_ghost_k (fun k a wr=>∀ Φ:Act→Prop,(∀ ⦃s0 s1 s6 s3 s4 s5 s7 s8 s9 a0 a5 a6 a7 a8 a9 b0 b1 b2 b3 b4 b5 b6 b7 b8 b9 c0 c1 c2 c3 c4 c5 c6 c7 c8 c9 d0 d1 d2 d4 d5 d6 d7 d8 d9 e1 e2 e3 e5 e6 e7 e8 e9 f1 f2 f3 f4 f5 f6 f7 f8 f9 g0 g1 g2 g3 g4 g5 g6 g7 g8 g9 h0 h2 h3 h4 h5 h6 h7 h8 h9 i0 i1 i2 i3 i4 i5 i6 i7 i8 i9 j0 j1 j2 j3 j4 j5 j6 j7 j8 j9 k0 k2 k3 k4 k5 k6 k7 k8 k9 l0 l1 l2 l3 l4 l5 l6 l7 l8 l9 m0 m1 m2 m3 m4 m5 m6 m7 m8 m9 n0 n1 n2 n3 n4 n5 n6 n7 n8 n9 o0 o1 o2 o3 o4 o5 o6 o7 o8 o9 p0 p1 p5 p6 p7 p8 p9 q0 q5 q6 q7 q8 q9 r0 r1 r2 r3 r4 r5 r6 r7 r8 r9 t3 t5 t6 t7 t8 t9 u8 u9 v8 v9 w1:Value⦄ (i:Nat) (v0 v1 v2 v3 v4 v5 v6 v7:UInt32),(i+k=64∧roundsW h (spreadW b) i= [v0,v1,v2,v3,v4,v5,v6,v7]∧Blk wr gw 257 (wvs (winW b i)).toArray∧w0.grownBy wr (some gw))→Φ {tmps:=#[s0,s1,p2,p3,p4,.pointer (some ⟨gw,0,none⟩),s6,.int .u32 (v0.toNat:Int),.int .u32 (v1.toNat:Int),.int .u32 (v2.toNat:Int),.int .u32 (v3.toNat:Int),.int .u32 (v4.toNat:Int),.int .u32 (v5.toNat:Int),.int .u32 (v6.toNat:Int),.int .u32 (v7.toNat:Int),.int .i64 i,s3,s4,s5,s7,s8,s9,a0,a5,a6,a7,a8,a9,b0,b1,b2,b3,b4,b5,b6,b7,b8,b9,c0,c1,c2,c3,c4,c5,c6,c7,c8,c9,d0,d1,d2,d4,d5,d6,d7,d8,d9,e1,e2,e3,e5,e6,e7,e8,e9,f1,f2,f3,f4,f5,f6,f7,f8,f9,g0,g1,g2,g3,g4,g5,g6,g7,g8,g9,h0,h2,h3,h4,h5,h6,h7,h8,h9,i0,i1,i2,i3,i4,i5,i6,i7,i8,i9,j0,j1,j2,j3,j4,j5,j6,j7,j8,j9,k0,k2,k3,k4,k5,k6,k7,k8,k9,l0,l1,l2,l3,l4,l5,l6,l7,l8,l9,m0,m1,m2,m3,m4,m5,m6,m7,m8,m9,n0,n1,n2,n3,n4,n5,n6,n7,n8,n9,o0,o1,o2,o3,o4,o5,o6,o7,o8,o9,p0,p1,p5,p6,p7,p8,p9,q0,q5,q6,q7,q8,q9,r0,r1,r2,r3,r4,r5,r6,r7,r8,r9,t3,t5,t6,t7,t8,t9,u8,u9,v8,v9,w1],defers:= []})→Φ a) (64) ?_ ?_
 ·refine fun Φ hΦ=>hΦ (0) (u0) (u1) (u2) (u3) (u4) (u5) (u6) (u7) ?_;exact ⟨by omega,hu,hW,World.grownBy.refl _ _⟩
 ·intro k1 a1 wr1 hI1 J1 K1 hJ1 hK1;refine hI1 (fun a=>Code.wp _ _ _ a _) ?_;clear hI1 a1;iterate 183 (intro _)
  intro i v0 v1 v2 v3 v4 v5 v6 v7 hrel
  show Code.wp _ _ _ _ _
  conv=>arg 2; whnf
  obtain ⟨h1,hv,hw,hg⟩:=hrel;by_cases hi:i<64
  ·have E:Hid (roundsW h (spreadW b) (i+1)= [addW (oneW v4 v5 v6 v7 (kW.getD i 0) ((spreadW b).getD i 0)) (twoW v0 v1 v2),v0,v1,v2,addW v3 (oneW v4 v5 v6 v7 (kW.getD i 0) ((spreadW b).getD i 0)),v4,v5,v6]):=ι (by rw [roundsW,hv]; rfl);have HCon:Hid (∀ W,Calls Tryz.prog 181 #[i] W fun e w'=>e= .returned (.int .u32 ((kW.getD i 0).toNat:Int))∧Below W.heap.size W w'):=ι (fun W=>rsha_constant i hi W);have H1:=ι h1;have hi1:(i:Int)<64:=by omega
   have hi0:(0:Int)≤i:=by omega
   have y0:0≤(i:Int) % 16:=by omega
   have x0:(i:Int) % 16<16:=by omega
   have t0:((i:Int) % 16).toNat=i % 16:=by omega
   have e0:(i:Int).tmod 16=(i:Int) % 16:=Int.tmod_eq_emod_of_nonneg (by omega);clear hv h1;generalize kW.getD i 0=kk at *;by_cases h16:i<16
   ·have h16b:((16:Int)≤i)=False:=by simp; omega
    have cx:wr1.cell? ⟨gw,i % 16,none⟩=some (.int .u32 (((spreadW b).getD i 0).toNat:Int)):=by
     rw [←winW_now b i hi,winW_same b i h16];exact (hw.cell _).trans (wvs_at (by rw [winW_length]; omega))
    have HX:Hid (gw<wr1.heap.size∧Blk wr1 gw 257 (wvs (winW b (i+1))).toArray∧w0.grownBy wr1 (some gw)):=ι ⟨hw.lt,by rw [winW_same b i h16]; exact hw,hg⟩;clear hw hg h16;generalize (spreadW b).getD i 0=sx at *;have v0':IntKind.i64.wrap ((i:Int) % 16)=(i:Int) % 16:=IntWalk.i64_in _ (by omega);go_upto_region 17 with (fail)
    go_region_held3 (fun w'=>w'.cell? ⟨gw,i % 16,none⟩=some (.int .u32 (sx.toNat:Int))) (first|go_keep|assumption) (first|(go_at_call 180; ((with_reducible refine (rsha_t6 _ _).mono ?_); rintro e w' ⟨rfl,rfl⟩))|(go_at_call 180; ((with_reducible refine (rsha_t11 _ _).mono ?_); rintro e w' ⟨rfl,rfl⟩))|(go_at_call 180; ((with_reducible refine (rsha_t25 _ _).mono ?_); rintro e w' ⟨rfl,rfl⟩))|(go_at_call 181; refine (HCon.out _).mono ?_; rintro e w3 ⟨rfl,hb⟩; have hb3:Below wr1.heap.size wr1 w3:=(by first|exact hb|exact hb.start); clear hb; have d3:=(hb3.cell (p:=⟨gw,i % 16,none⟩) HX.out.1).trans cx))
    exact z_20
   ·have h16b:(16:Int)≤i:=by omega
    have hne16:16≤i:=by omega
    have RD:=winW_reads b i hne16 hi;have ST:=winW_step b i hne16 hi;have q1:wr1.cell? ⟨gw,(i+1) % 16,none⟩=some (.int .u32 (((winW b i).getD ((i+1) % 16) 0).toNat:Int)):=(hw.cell _).trans (wvs_at (by rw [winW_length]; omega));have q2:wr1.cell? ⟨gw,(i+14) % 16,none⟩=some (.int .u32 (((winW b i).getD ((i+14) % 16) 0).toNat:Int)):=(hw.cell _).trans (wvs_at (by rw [winW_length]; omega));have q3:wr1.cell? ⟨gw,i % 16,none⟩=some (.int .u32 (((winW b i).getD (i % 16) 0).toNat:Int)):=(hw.cell _).trans (wvs_at (by rw [winW_length]; omega));have q4:wr1.cell? ⟨gw,(i+9) % 16,none⟩=some (.int .u32 (((winW b i).getD ((i+9) % 16) 0).toNat:Int)):=(hw.cell _).trans (wvs_at (by rw [winW_length]; omega));have f0:wr1.frozen? ⟨gw,i % 16,none⟩=false:=hw.frozen _;have HSX:Hid (spAt b i=(spreadW b).getD i 0):=ι rfl;have HSN:Hid ((spreadW b).getD i 0=(winW b (i+1)).getD (i % 16) 0):=ι (winW_now b i hi).symm;have HW:=ι (And.intro hw hg);have HST:=ι ST;have HRD:=ι RD;unfold sgA sgB at HRD;clear hw hg h16 RD ST;generalize (winW b i).getD ((i+1) % 16) 0=a1 at *;generalize (winW b i).getD ((i+14) % 16) 0=a2 at *;generalize (winW b i).getD (i % 16) 0=a3 at *;generalize (winW b i).getD ((i+9) % 16) 0=a4 at *;generalize (spreadW b).getD i 0=sx at *;generalize spAt b i=sp at *;have y1:0≤((i:Int)+1) % 16:=by omega
    have x1:((i:Int)+1) % 16<16:=by omega
    have t1:(((i:Int)+1) % 16).toNat=(i+1) % 16:=by omega
    have y2:0≤((i:Int)+14) % 16:=by omega
    have x2:((i:Int)+14) % 16<16:=by omega
    have t2:(((i:Int)+14) % 16).toNat=(i+14) % 16:=by omega
    have y4:0≤((i:Int)+9) % 16:=by omega
    have x4:((i:Int)+9) % 16<16:=by omega
    have t4:(((i:Int)+9) % 16).toNat=(i+9) % 16:=by omega
    have e4:((i:Int)+9).tmod 16=((i:Int)+9) % 16:=Int.tmod_eq_emod_of_nonneg (by omega);go_upto_region 16 with (first|(go_at_call 180; ((with_reducible refine (rsha_t7 _ _).mono ?_); rintro e w' ⟨rfl,rfl⟩))|(go_at_call 180; ((with_reducible refine (rsha_t18 _ _).mono ?_); rintro e w' ⟨rfl,rfl⟩))|(go_at_call 180; ((with_reducible refine (rsha_t17 _ _).mono ?_); rintro e w' ⟨rfl,rfl⟩))|(go_at_call 180; ((with_reducible refine (rsha_t19 _ _).mono ?_); rintro e w' ⟨rfl,rfl⟩)))
    have v0:IntKind.i64.wrap ((i:Int) % 16)=(i:Int) % 16:=IntWalk.i64_in _ (by omega);have v4:IntKind.i64.wrap ((i:Int)+9)=(i:Int)+9:=IntWalk.i64_in _ (by omega);have v4':IntKind.i64.wrap (((i:Int)+9) % 16)=((i:Int)+9) % 16:=IntWalk.i64_in _ (by omega)
    go_still_tail 17,(by kernel_rfl)
    clear v0 v4 v4' e4 t4 x4 y4 t1 x1 y1 t2 x2 y2;go_upto_region 17 with (fail)
    rw [HRD.out];have HX:Hid (gw<(wr1.setCell ⟨gw,i % 16,none⟩ (.int .u32 (sp.toNat:Int))).drew.heap.size∧Blk (wr1.setCell ⟨gw,i % 16,none⟩ (.int .u32 (sp.toNat:Int))).drew gw 257 (wvs (winW b (i+1))).toArray∧w0.grownBy (wr1.setCell ⟨gw,i % 16,none⟩ (.int .u32 (sp.toNat:Int))).drew (some gw)):=ι (by
     have hw2:=HW.out.1.set_ (i % 16) (.int .u32 (sp.toNat:Int));rw [wvs_set,HST.out] at hw2;exact ⟨hw2.lt,hw2.drew,grown_set HW.out.2 _ _⟩)
    clear HW HRD HST f0 q1 q2 q3 q4;generalize (wr1.setCell ⟨gw,i % 16,none⟩ (.int .u32 (sp.toNat:Int))).drew=wx at *;have cx:wx.cell? ⟨gw,i % 16,none⟩=some (.int .u32 (sx.toNat:Int)):=by
     rw [HSN.out];exact (HX.out.2.1.cell _).trans (wvs_at (by rw [winW_length]; omega))
    clear h16b hne16 HSX HSN;have v0':IntKind.i64.wrap ((i:Int) % 16)=(i:Int) % 16:=IntWalk.i64_in _ (by omega);go_upto_region 17 with (fail)
    go_region_held3 (fun w'=>w'.cell? ⟨gw,i % 16,none⟩=some (.int .u32 (sx.toNat:Int))) (first|go_keep|assumption) (first|(go_at_call 180; ((with_reducible refine (rsha_t6 _ _).mono ?_); rintro e w' ⟨rfl,rfl⟩))|(go_at_call 180; ((with_reducible refine (rsha_t11 _ _).mono ?_); rintro e w' ⟨rfl,rfl⟩))|(go_at_call 180; ((with_reducible refine (rsha_t25 _ _).mono ?_); rintro e w' ⟨rfl,rfl⟩))|(go_at_call 181; refine (HCon.out _).mono ?_; rintro e w3 ⟨rfl,hb⟩; have hb3:Below wx.heap.size wx w3:=(by first|exact hb|exact hb.start); clear hb; have d3:=(hb3.cell (p:=⟨gw,i % 16,none⟩) HX.out.1).trans cx))
    exact z_20
  ·have e:i=64:=by omega
   subst e;have H:=ι hg;have HV:=ι hv;clear hw hg h1 hv;go_wp2
   exact HQ.out v0 v1 v2 v3 v4 v5 v6 v7 HV.out _ H.out
end
end Go.Proofs.YtnelhjfjkkdoaaaGreatDoor