import Derived.Test.YtnelhjfjkkdoaaaGreatDoorK35
set_option linter.unusedSimpArgs false
set_option linter.unusedVariables false
set_option maxHeartbeats 4000000
set_option maxRecDepth 100000
namespace Go.Proofs.YtnelhjfjkkdoaaaGreatDoor
section
open Go.RowKit Go.Instr
attribute [local go_sem] ba_get ByteArray.mk_append_mk
attribute [local go_sem ↓] Go.wp_at_zero Go.wp_at_succ
abbrev Ch:=List Trie.KV × Option Addr × Nat
def ccell (x:Ch):List Value:= [.slice x.2.1 x.1.length x.2.2]
theorem ccell_len (x:Ch):(ccell x).length=1:=rfl
structure ChAt (w:World) (A:Option Addr) (L:List Ch):Prop where
 r:Reads w w.heap.size 1 A L.length (L.flatMap ccell)
 t:∀ x∈L,Reads w w.heap.size 2 x.2.1 x.1.length (icells x.1)
 s:∀ x∈L,∀ y∈x.1,y.1.length≤9223372036854775807∧y.2.length≤9223372036854775807
 n:L.length≤9223372036854775807
 m:∀ x∈L,x.1.length≤9223372036854775807
theorem info_ptr:(Tryz.prog.info? 28).map (fun i=>(i.zero,i.size,i.bytes))=some (some (.pointer none),1,8):=by kernel_rfl
structure VMem (w1 W:World) (vb g b rb:Nat) (T:Trie.T) (nv:Value) (D:List Trie.KV) (R:List (Nat × List UInt8)) (Ws:List Trie.T) (pvs:List Value) (i:Nat) (TA:Option Addr) (tn tc:Nat) (WA:Option Addr) (wc:Nat):Prop where
 v:VersP W vb g b rb T D R ((i:Int) - 1) 0
 p:VPlay D R Ws
 li:Ws.length=i
 lp:pvs.length=i
 nw:TrieP W T nv
 cnt:Trie.count T≤8*i
 wp:∀ (j:Nat) (X:Trie.T) (pv:Value),Ws[j]?=some X→pvs[j]?=some pv→TrieP W X pv
 tx:W.ownsRow w1.heap.size 9 1 (.slice TA tn tc) tn (strv (Ws.flatMap (toldW allW)))
 tl:tn=(Ws.flatMap (toldW allW)).length
 wo:W.ownsRow w1.heap.size 28 1 (.slice WA i wc) i pvs
 bl:Below w1.heap.size w1 W
theorem VMem.next {w1 W W':World} {vb g b rb:Nat} {T:Trie.T} {nv:Value} {D:List Trie.KV} {R:List (Nat × List UInt8)} {Ws:List Trie.T} {pvs:List Value} {i:Nat} {TA:Option Addr} {tn tc:Nat} {WA:Option Addr} {wc:Nat} (h:VMem w1 W vb g b rb T nv D R Ws pvs i TA tn tc WA wc) (hb:Below W.heap.size W W'):VMem w1 W' vb g b rb T nv D R Ws pvs i TA tn tc WA wc:=
 ⟨h.v.next hb,h.p,h.li,h.lp,h.nw.next hb,h.cnt,fun j X pv h1 h2=>(h.wp j X pv h1 h2).next hb,own_below h.tx hb,h.tl,own_below h.wo hb,h.bl.trans (hb.mono h.bl.size)⟩
theorem told_all_len {Ws:List Trie.T} (h:∀ W∈Ws,Trie.Good W∧Trie.count W≤64):(Ws.flatMap (toldW allW)).length≤256*Ws.length:=by
 induction Ws with
 |nil=>simp
 |cons W Ws ih=>
  have h1:=told_few (h W List.mem_cons_self).1 (h W List.mem_cons_self).2;have h2:=ih (fun W hW=>h W (List.mem_cons_of_mem _ hW));rw [List.flatMap_cons,List.length_append,List.length_cons];omega
theorem told_all_short {Ws:List Trie.T} (h:∀ W∈Ws,Trie.Good W∧Trie.count W≤64):∀ x∈Ws.flatMap (toldW allW),x.length≤700:=fun x hx=>by
 obtain ⟨W,hW,hx⟩:=List.mem_flatMap.1 hx;exact told_700v (h W hW).1 _ x hx
theorem z_22 {P:Prop} (h:P:=by
 go_wp2_with (first|(at_builtin; refine wpList_append_any w12 rfl _ _ 26 rfl w1.heap.size 9 i0 _ 1 16 Tryz.underlying26 hi0' hz0 hz1 hz2 rfl (by decide) (.slice TA tn tc) tn (strv Q) rfl HTx12.out w12.heap.size A11 N.length c11 (strv N) rfl R12.out (strv_one _) (by simp only [maxLen]; omega) (by omega) HS12.out ?_; intro v13 w13 own13 hg13 _; obtain ⟨A13,c13,rfl,_,_,_⟩:=own_form own13; have H13:=ι (And.intro own13 hg13); clear own13 hg13)|(go_at_call 22; refine (HUu.out _ _ _ _ H13.out.1).mono ?_; rintro e w14 ⟨rfl,hb14⟩; have H14:=ι hb14; clear hb14))
 exact HP.out _ (HB1.out.trans ((((HB1r.out.trans (HB12.out.mono HB1r.out.size)).grown H13.out.2 HS12.out (fun k e=>(HTx12.out.lt k e).1)).trans (H14.out.mono (Nat.le_trans HS12.out H13.out.2.size))).mono HB1.out.size))):P:=h
theorem law_TopVersions (w:World) (A:Option Addr) (c:Nat) (L:List Ch) (h:ChAt w A L) (key:List UInt8) (hkey:key.length≤9223372036854775807) (below:Int) (hT:Tbl w):
  Calls Tryz.prog 3 #[.slice A L.length c,key,below] w fun e w'=>e= .returned (.bool true)∧Below w.heap.size w w':=by
 have HP:Hid (∀ w',Below w.heap.size w w'→(fun e w'=>e=Ending.returned (.bool true)∧Below w.heap.size w w') (Ending.returned (.bool true)) w'):=ι (fun W' a2=>⟨rfl,a2⟩);generalize (fun e w'=>e=Ending.returned (.bool true)∧Below w.heap.size w w')=P at HP ⊢;have HTb:=ι hT;have HA:=ι h;have HK:=ι (top_keeps w hT);clear h hT;go_enter Tryz.func3,Tryz.ntmps3
 go_wp2_with fail
 refine HK.out.mono ?_;rintro e w1 ⟨rfl,hb1⟩;have HB1:=ι hb1;clear hb1 HK;by_cases g1:8<L.length
 ·have g1':(8:Int)<L.length:=by omega
  clear g1;go_wp2_with fail
  exact HP.out _ HB1.out
 have g1':((8:Int)<L.length)=False:=by simp; omega
 by_cases g2:key= []
 ·subst g2;clear g1;go_wp2_with fail
  exact HP.out _ HB1.out
 have ne1:(key.toArray=#[])=False:=by simp [g2]
 have ne2:key.isEmpty=false:=by simp [g2]
 by_cases g3:8<key.length
 ·have g3':(8:Int)<key.length:=by omega
  clear g1 g2 g3;go_wp2_with fail
  exact HP.out _ HB1.out
 have g3':((8:Int)<key.length)=False:=by simp; omega
 have HKy:Hid (Trie.keyedW key=true):=ι (by
  unfold Trie.keyedW;rw [ne2];simp; omega)
 have HL8:Hid (L.length≤8):=ι (by omega);have HKl:=ι hkey;clear g1 g2 g3 hkey;go_wp2_with fail
 refine (vers_New' _).mono ?_;rintro e w2 ⟨vb,g,b,rb,rfl,hv2,hb2,hn⟩;have H2:=ι (And.intro hv2 (And.intro hb2 hn));clear hv2 hb2 hn;go_wp2_with fail
 refine (trie_New _).mono ?_;rintro e w3 ⟨nv,rfl,hk3,hb3⟩;have HVB:Hid (w1.heap.size≤vb∧w1.heap.size≤b∧w1.heap.size≤rb):=ι H2.out.2.2;have HM3:Hid (VMem w1 w3 vb g b rb .nil nv [] [] [] [] 0 none 0 0 none 0):=ι ⟨by simpa using H2.out.1.next hb3,VPlay.start,rfl,rfl,hk3,by simp [Trie.count],fun j X pv h1 _=>(by simp at h1),World.ownsRow_nil _ _ _ _,rfl,World.ownsRow_nil _ _ _ _,H2.out.2.1.nxt hb3⟩;clear hk3 hb3 H2;go_wp2_with fail
 refine wp_loop_ghost_k (fun k a wr=>∀ Φ:Act→Prop,(∀ ⦃s0 s3 s4 s5 s6 a4 a5 a6 a7 a8 a9 b0 b1 b2 b3 b4 b5 b6 b7 b8 b9 c0 c1 c2 c3 c4 c5 c7 c8 d2 d3 d4 d5 d6 d7 d8 d9 e2 e3 e4 e5 e6 f0 f1 f2 f3 f4 f5 f6 f7 f8 f9 g0 g4 g5 g6 g7 g8 g9 h0 h4 h6 h7 h8 h9 i1 i2 i3 i4 i5 i6 i7 i8 i9 j0 j1 j2 j3 j4 j5 j6 j7 j8 j9 k4 k5 k6 k7 k8 k9 l0 l1 l2 l3 l4 l5 l6 l7 l8 l9 m0 m1 m2 m3 m4 m6 m7 m8 m9 n0 n1 n2 n3 n4 n6 n7 n8 n9 o0 o1 o2 o3 o4 o5 o6 o7 o8 o9 p0 p1 p2 p3 p4 p5 p6 p7 p8 p9 q2 q3 q4 q5 q6 q7 q8 q9 r2 r3 r4 r5 r6 r7 r8 r9 t0 t1 t2 t3 t4 t5 t6 t7 t8 t9 u0 u1 u2 u3 u4 u5 u6 u7 u8 u9 v0 v1 v2 v3 v4 v5 v6:Value⦄ (i tn tc wc:Nat) (TA WA:Option Addr) (nv:Value),(i+k=L.length∧∃ T D R Ws pvs,VMem w1 wr vb g b rb T nv D R Ws pvs i TA tn tc WA wc)→Φ {tmps:=#[s0,.string ⟨key.toArray⟩,.int .i64 below,s3,s4,s5,s6,.pointer (some ⟨vb,0,none⟩),.slice TA tn tc,.slice WA i wc,nv,a4,a5,a6,a7,a8,a9,b0,b1,b2,b3,b4,b5,b6,b7,b8,b9,c0,c1,c2,c3,c4,c5,c7,c8,d2,d3,d4,d5,d6,d7,d8,d9,e2,e3,e4,e5,e6,.slice A L.length c,.int .i64 L.length,.int .i64 (i:Int),f0,f1,f2,f3,f4,f5,f6,f7,f8,f9,g0,g4,g5,g6,g7,g8,g9,h0,h4,h6,h7,h8,h9,i1,i2,i3,i4,i5,i6,i7,i8,i9,j0,j1,j2,j3,j4,j5,j6,j7,j8,j9,k4,k5,k6,k7,k8,k9,l0,l1,l2,l3,l4,l5,l6,l7,l8,l9,m0,m1,m2,m3,m4,m6,m7,m8,m9,n0,n1,n2,n3,n4,n6,n7,n8,n9,o0,o1,o2,o3,o4,o5,o6,o7,o8,o9,p0,p1,p2,p3,p4,p5,p6,p7,p8,p9,q2,q3,q4,q5,q6,q7,q8,q9,r2,r3,r4,r5,r6,r7,r8,r9,t0,t1,t2,t3,t4,t5,t6,t7,t8,t9,u0,u1,u2,u3,u4,u5,u6,u7,u8,u9,v0,v1,v2,v3,v4,v5,v6],defers:= []})→Φ a) (L.length) ?_ ?_
 ·refine fun Φ hΦ=>hΦ (0) (0) (0) (0) (none) (none) (nv) ?_;exact ⟨by omega,_,_,_,_,_,HM3.out⟩
 ·intro k1 a1 wr1 hI1 J1 K1 hJ1 hK1;refine hI1 (fun a=>Code.wp _ _ _ a _) ?_;clear hI1 a1;intro s0 s1 s2 s3 s4 s5 s6 s7 s8 s9 a0 a4 a5 a6 a7 a8 a9 b0 b1 b2 b3 b4 b5 b6 b7 b8 b9 c0 c1 c2 c3 c4 c5 c7 c8 d2 d3 d4 d5 d6 d7 d8 d9 e2 e3 e4 e5 e6 e7 e8 e9 f0 f1 f2 f3 f4 f5 f6 f7 f8 f9 g0 g4 g5 g6 g7 g8 g9 h0 h4 h6 h7 h8 h9 i1 i2 i3 i4 i5 i6 i7 i8 i9 j0 j1 j2 j3 j4 j5 j6 j7 j8 j9 k4 k5 k6 k7 k8 k9 l0 l1 l2 l3 l4 l5 l6 l7 l8 l9 m0 m1 m2 m3 m4 m6 m7 m8 m9 n0 n1 n2 n3 n4 n6 n7 n8 n9 o0 o1 o2 o3 o4 o5 o6 o7 o8 o9 p0 p1 p2 p3 p4 p5 p6 p7 p8 p9 q2 q3 q4 q5 q6 q7 q8 q9 r2 r3 r4 r5 r6 r7 r8 r9 t0 t1 t2 t3 t4 t5 t6 t7 t8 t9 u0 u1 u2 u3 u4 u5 u6 u7 i tn tc wc TA WA nv hrel
  show Code.wp _ _ _ _ _;obtain ⟨h1,T,D,R,Ws,pvs,hM⟩:=hrel;have HBw:=ι (HB1.out.nxt hM.bl);by_cases hi:i<L.length
  ·have HAr:Reads wr1 wr1.heap.size 1 A L.length (L.flatMap ccell):=(HA.out.r.below HBw.out).more HBw.out.size;obtain ⟨ad,off,rfl,hbl,hcell⟩:=flat_cells ccell_len (by decide) HAr hi;have r0:=hcell wr1 (Below.refl _ _) 0 _ rfl;have hxt:=HA.out.t _ (List.getElem_mem hi);have hxs:=HA.out.s _ (List.getElem_mem hi);have hxm:=HA.out.m _ (List.getElem_mem hi);have hi1:(i:Int)<L.length:=by omega
   have hi0:(0:Int)≤i:=by omega
   have hi8:i<8:=by have:=HL8.out; omega
   have hl8:=HL8.out;have HI:=ι (And.intro h1 hM);clear h1 hM HAr hcell hbl;generalize L[i]=x at *;obtain ⟨X,XA,xc⟩:=x;simp only [Nat.add_zero,Nat.mul_one] at r0 hxt hxs hxm;have HXt:=ι (And.intro hxt (And.intro hxs hxm));clear hxt hxs;go_upto_region 12 with fail
   have F:=Live.ha (ι (Live.start wr1)) #[.slice XA X.length xc] 32;have HF:=ι F.out.b;generalize World.alloc wr1 _=W4 at F HF ⊢;have HM4:=ι (HI.out.2.next HF.out);have HB4:=ι (HBw.out.nxt HF.out);clear r0;generalize wr1.heap.size=cb at F ⊢;have k0:=(F.out.blk 0 rfl).d0;by_cases gX:8<X.length
   ·have gX':(8:Int)<X.length:=by omega
    clear gX;go_wp2_with fail
    exact HP.out _ HB4.out
   have gX':((8:Int)<X.length)=False:=by simp; omega
   have HX8:Hid (X.length≤8):=ι (by omega);have HCm:=ι (vers_Commit W4 vb g b rb T D R ((i:Int) - 1) 0 HM4.out.v (HTb.out.next HB4.out) i (by omega) (by omega) (by omega) X (by have:=HM4.out.cnt; omega) HXt.out.2.1 XA xc ((HXt.out.1.below HB4.out).more HB4.out.size));unfold CommitEnd at HCm;obtain ⟨T2,cd,hcm⟩:∃ T2 cd,commitT T X=(T2,cd):=⟨_,_,rfl⟩
   rw [hcm] at HCm;have HCt:=ι hcm;clear gX hcm hxm;go_wp2_with fail
   refine HCm.out.mono ?_;rintro e w5 ⟨ho,⟨hc,rfl,hv5⟩|⟨hc,rfl,hv5⟩⟩
   ·have hc1:((cd:Int) !=0)=true:=by simp; exact hc
    have HB5:Hid (Below w.heap.size w w5):=ι (HB4.out.trans ((ho.below HM4.out.bl.size HVB.out.1 HVB.out.2.1 HVB.out.2.2).mono HB1.out.size));clear hc ho hv5 HCm k0;go_wp2_with fail
    exact HP.out _ HB5.out
   try simp only at hc hv5
   subst hc;have hB15:Below w1.heap.size w1 w5:=HM4.out.bl.trans (ho.below HM4.out.bl.size HVB.out.1 HVB.out.2.1 HVB.out.2.2);have HB5:Hid (Below w.heap.size w w5):=ι (HB1.out.nxt hB15);have k0:w5.cell? ⟨cb,0,none⟩=some (.slice XA X.length xc):=(HM4.out.v.apart ho (F.out.blk 0 rfl) (by decide)).cell 0;have HV5:=ι hv5;have HN5:=ι (HM4.out.v.trie ho HM4.out.nw);have HW5:Hid (∀ (j:Nat) (X:Trie.T) (pv:Value),Ws[j]?=some X→pvs[j]?=some pv→TrieP w5 X pv):=ι (fun j X pv h1 h2=>HM4.out.v.trie ho (HM4.out.wp j X pv h1 h2));have HTx5:=ι (HM4.out.v.row ho HM4.out.tx (by decide));have HWo5:=ι (HM4.out.v.row ho HM4.out.wo (by decide));have HB15:=ι hB15;have HXr:Hid (Reads w w.heap.size 2 XA X.length (icells X)):=ι HXt.out.1;clear ho hv5 hB15 HCm F HB4 HF;generalize hsm:Trie.sumT T2=sm2 at *;have HSm:=ι hsm;clear hsm;go_wp2_with fail
   refine wp_loop_ghost_k (fun k a wr=>∀ Φ:Act→Prop,(∀ ⦃s0 s3 s4 s5 s6 a4 a5 a6 a7 a8 a9 b0 b1 b2 b3 b4 b5 b6 b7 b8 b9 c0 c1 c2 c3 c4 c5 c7 c8 d2 d3 d4 d5 d6 d7 d8 d9 e2 e3 e4 e5 e6 f0 f1 f2 f3 f4 f5 f6 f7 f8 f9 g0 g4 g5 g6 g7 g8 g9 h0 h4 h9 i1 i2 i3 i4 i5 i6 i7 i8 i9 j0 j1 j2 j3 j4 j5 j6 j7 j8 j9 k4 k5 k6 k7 k8 k9 l0 l1 l2 l3 l4 l5 l6 l7 l8 l9 m0 m1 m2 m3 m4 m6 m7 m8 m9 n0 n1 n2 n3 n4 n6 n7 n8 n9 o0 o1 o2 o3 o4 o5 o6 o7 o8 o9 p0 p1 p2 p3 p4 p5 p6 p7 p8 p9 q2 q3 q4 q5 q6 q7 q8 q9 r2 r3 r4 r5 r6 r7 r8 r9 t0 t1 t2 t3 t4 t5 t6 t7 t8 t9 u0 u1 u2 u3 u4 u5 u6 u7 u8 u9 v0 v1 v2 v3 v4 v5 v6:Value⦄ (j:Nat) (nv:Value),(j+k=X.length∧Below w5.heap.size w5 wr∧∃ Tj,TrieP wr Tj nv∧commitT Tj (X.drop j)=(T2,0)∧Trie.count Tj≤Trie.count T+j)→Φ {tmps:=#[s0,.string ⟨key.toArray⟩,.int .i64 below,s3,s4,s5,s6,.pointer (some ⟨vb,0,none⟩),.slice TA tn tc,.slice WA i wc,nv,a4,a5,a6,a7,a8,a9,b0,b1,b2,b3,b4,b5,b6,b7,b8,b9,c0,c1,c2,c3,c4,c5,c7,c8,d2,d3,d4,d5,d6,d7,d8,d9,e2,e3,e4,e5,e6,.slice (some ⟨ad,off,none⟩) L.length c,.int .i64 L.length,.int .i64 (i:Int),f0,f1,f2,f3,f4,f5,f6,f7,f8,f9,g0,g4,g5,g6,g7,g8,g9,h0,h4,.slice XA X.length xc,.int .i64 X.length,.int .i64 (j:Int),h9,i1,i2,i3,i4,i5,i6,i7,i8,i9,j0,j1,j2,j3,j4,j5,j6,j7,j8,j9,k4,k5,k6,k7,k8,k9,l0,l1,l2,l3,l4,l5,l6,l7,l8,l9,m0,m1,m2,m3,m4,m6,m7,m8,m9,n0,n1,n2,n3,n4,n6,n7,n8,n9,o0,o1,o2,o3,o4,o5,o6,o7,o8,o9,p0,p1,p2,p3,p4,p5,p6,p7,p8,p9,q2,q3,q4,q5,q6,q7,q8,q9,r2,r3,r4,r5,r6,r7,r8,r9,t0,t1,t2,t3,t4,t5,t6,t7,t8,t9,u0,u1,u2,u3,u4,u5,u6,u7,u8,u9,v0,v1,v2,v3,v4,v5,v6],defers:= []})→Φ a) (X.length) ?_ ?_
   ·refine fun Φ hΦ=>hΦ (0) (nv) ?_;exact ⟨by omega,Below.refl _ _,T,HN5.out,by rw [List.drop_zero]; exact HCt.out,Nat.le_refl _⟩
   ·intro k2 a2 wr2 hI2 J2 K2 hJ2 hK2;refine hI2 (fun a=>Code.wp _ _ _ a _) ?_;clear hI2 a2;intro s0 s1 s2 s3 s4 s5 s6 s7 s8 s9 a0 a4 a5 a6 a7 a8 a9 b0 b1 b2 b3 b4 b5 b6 b7 b8 b9 c0 c1 c2 c3 c4 c5 c7 c8 d2 d3 d4 d5 d6 d7 d8 d9 e2 e3 e4 e5 e6 e7 e8 e9 f0 f1 f2 f3 f4 f5 f6 f7 f8 f9 g0 g4 g5 g6 g7 g8 g9 h0 h4 h6 h7 h8 h9 i1 i2 i3 i4 i5 i6 i7 i8 i9 j0 j1 j2 j3 j4 j5 j6 j7 j8 j9 k4 k5 k6 k7 k8 k9 l0 l1 l2 l3 l4 l5 l6 l7 l8 l9 m0 m1 m2 m3 m4 m6 m7 m8 m9 n0 n1 n2 n3 n4 n6 n7 n8 n9 o0 o1 o2 o3 o4 o5 o6 o7 o8 o9 p0 p1 p2 p3 p4 p5 p6 p7 p8 p9 q2 q3 q4 q5 q6 q7 q8 q9 r2 r3 r4 r5 r6 r7 r8 r9 t0 t1 t2 t3 t4 t5 t6 t7 t8 t9 u0 u1 u2 u3 u4 j nv hrel
    show Code.wp _ _ _ _ _;obtain ⟨h1,hb,Tj,hk,hcm,hcn⟩:=hrel;by_cases hj:j<X.length
    ·obtain ⟨xd,xoff,rfl,hbl,hcell⟩:=HXr.out.form (by omega) (by omega);have hbw:=HB5.out.nxt hb;have ic:=icells_at hj;have hil:=icells_length X;have e0:(icells X)[2*j]'(by omega)= .string ⟨X[j].1.toArray⟩:=by
      have:=ic.1; rw [List.getElem?_eq_getElem (by omega)] at this; exact Option.some.inj this
     have e1:(icells X)[2*j+1]'(by omega)= .string ⟨X[j].2.toArray⟩:=by
      have:=ic.2; rw [List.getElem?_eq_getElem (by omega)] at this; exact Option.some.inj this
     have q0:=hcell (2*j) (by omega);have q1:=hcell (2*j+1) (by omega);rw [e0] at q0;rw [e1] at q1;have r0:wr2.cell? ⟨xd,xoff+j*2,none⟩=some (.string ⟨X[j].1.toArray⟩):=by rw [show j*2=2*j by omega]; exact (hbw.cell (p:=⟨xd,xoff+2*j,none⟩) hbl).trans q0
     have r1:wr2.cell? ⟨xd,xoff+j*2+1,none⟩=some (.string ⟨X[j].2.toArray⟩):=by rw [show xoff+j*2+1=xoff+(2*j+1) by omega]; exact (hbw.cell (p:=⟨xd,xoff+(2*j+1),none⟩) hbl).trans q1
     have hj1:(j:Int)<X.length:=by omega
     have hj0:(0:Int)≤j:=by omega
     have hx8:=HX8.out;have hd:X.drop j=X[j]::X.drop (j+1):=List.drop_eq_getElem_cons hj;have hlen:=HXt.out.2.1 _ (List.getElem_mem hj);rw [hd,commitT] at hcm;have HTw:=ι (HTb.out.next hbw);have HJ:=ι (And.intro h1 (And.intro hb (And.intro hk hcn)));have HCl:Hid (Trie.count Tj<1024):=ι (by have:=HM4.out.cnt; omega);clear ic hil e0 e1 q0 q1 h1 hb hk hcell hd hbw hbl hcn;generalize X[j]=y at *;obtain ⟨ky,vy⟩:=y;simp only at hlen hcm;by_cases hz:(changedW Tj ky vy).2=0;rotate_left
     ·rw [if_neg hz] at hcm;exact absurd (congrArg Prod.snd hcm) hz
     rw [if_pos hz] at hcm;have hcc:=changed_count HJ.out.2.2.1.1 ky vy hz;have HC2:=ι (And.intro hcm hcc);clear hcm hcc;go_upto_region 20 with fail
     have F:=Live.ha (ι (Live.start wr2)) #[ky,vy] 37;have HF:=ι F.out.b;generalize World.alloc wr2 _=W6 at F HF ⊢;clear r0 r1;have HK6:=ι (HJ.out.2.2.1.next HF.out);have HT6:=ι (HTw.out.next HF.out);generalize wr2.heap.size=ib at F ⊢;have y0:=(F.out.blk 0 rfl).d0;have y1:=(F.out.blk 0 rfl).d1;by_cases hv0:vy= []
     ·subst hv0;have HDl:=ι (trie_Del W6 Tj nv HK6.out HCl.out HT6.out ky hlen.1);have hch:changedW Tj ky []=if (Trie.getW Tj ky).2=5 then (Tj,0) else (Trie.del Tj (Nib.of ky),(Trie.getW Tj ky).2):=by unfold changedW; rw [if_neg (by simp)]
      rw [hch] at hz HC2;unfold TPutEnd at HDl;have HZ:=ι hz;clear hch hz hlen;generalize (Trie.getW Tj ky).2=gc at *;go_wp2_with fail
      refine HDl.out.mono ?_;rintro e w7 ⟨v7,rfl,hb7,hk7,_⟩;have F:=Live.hb F hb7;have HB7:=ι (HF.out.nxt hb7);by_cases h5:gc=5
      ·subst h5;rw [if_pos rfl] at HC2;have HK7:=ι (HK6.out.next hb7);clear hb7 hk7 HDl;go_wp2_with fail
       refine Handed.intro (X.length - (j+1)) ?_ (hJ2 _ _ _ (fun Φ hΦ=>hΦ (j+1) (nv) ?_))
       ·have:=HJ.out.1; omega
       exact ⟨by have:=HJ.out.1; omega,HJ.out.2.1.nxt HB7.out,Tj,HK7.out,HC2.out.1,by have:=HJ.out.2.2.2; omega⟩
      ·have hz:=HZ.out;rw [if_neg h5] at hz HC2;simp only at hz;subst hz;have HK7:=ι (hk7 (by first|exact trivial|rfl));clear hb7 hk7 HDl h5;go_wp2_with fail
       refine Handed.intro (X.length - (j+1)) ?_ (hJ2 _ _ _ (fun Φ hΦ=>hΦ (j+1) (v7) ?_))
       ·have:=HJ.out.1; omega
       exact ⟨by have:=HJ.out.1; omega,HJ.out.2.1.nxt HB7.out,_,HK7.out,HC2.out.1,by have:=HJ.out.2.2.2; have:=HC2.out.2; omega⟩
     ·have HPt:=ι (trie_Put W6 Tj nv HK6.out HCl.out HT6.out ky vy hlen.1 hlen.2);have hch:changedW Tj ky vy=(Trie.put Tj (Nib.of ky) vy,Trie.putCode ky vy):=by unfold changedW; rw [if_pos hv0]
      rw [hch] at hz HC2;simp only at hz;unfold TPutEnd at HPt;rw [hz] at HPt;have vne1:(vy.toArray=#[])=False:=by simp [hv0]
      have vne2:vy.isEmpty=false:=by simp [hv0]
      clear hch hz hlen hv0;go_wp2_with fail
      refine HPt.out.mono ?_;rintro e w7 ⟨v7,rfl,hb7,hk7,_⟩;have HB7:=ι (HF.out.nxt hb7);have HK7:=ι (hk7 (by first|exact trivial|rfl));clear hb7 hk7 HPt;go_wp2_with fail
      refine Handed.intro (X.length - (j+1)) ?_ (hJ2 _ _ _ (fun Φ hΦ=>hΦ (j+1) (v7) ?_))
      ·have:=HJ.out.1; omega
      exact ⟨by have:=HJ.out.1; omega,HJ.out.2.1.nxt HB7.out,_,HK7.out,HC2.out.1,by have:=HJ.out.2.2.2; have:=HC2.out.2; omega⟩
    ·have hj1:((j:Int)<X.length)=False:=by simp; omega
     rw [List.drop_of_length_le (by omega),commitT] at hcm;have hTT:Tj=T2:=congrArg Prod.fst hcm;subst hTT;have HJ:=ι (And.intro hb (And.intro hk (show Trie.count Tj≤8*(i+1) by have:=HM4.out.cnt; have:=HX8.out; omega)));clear h1 hb hk hcm hcn hj;obtain ⟨_,tb,tx,rfl,_⟩:=id HJ.out.2.1;have hb8:Below wr2.heap.size wr2 (wr2.alloc (.cells #[.pointer (some ⟨tb,0,none⟩)] 28)):=(Below.refl _ _).alloc (Nat.le_refl _) _;have R8:Hid (Reads (wr2.alloc (.cells #[.pointer (some ⟨tb,0,none⟩)] 28)) (wr2.alloc (.cells #[.pointer (some ⟨tb,0,none⟩)] 28)).heap.size 1 (some ⟨wr2.heap.size,0,none⟩) 1 [.pointer (some ⟨tb,0,none⟩)]):=ι (reads_blk (Blk.new _ _ _) (by simp));have HB8:=ι (HJ.out.1.nxt hb8);have HN8:=ι (HJ.out.2.1.next hb8);have HV8:=ι (HV5.out.next HB8.out);have HW8:=ι (fun (j:Nat) (X:Trie.T) (pv:Value) (h1:Ws[j]?=some X) (h2:pvs[j]?=some pv)=>(HW5.out j X pv h1 h2).next HB8.out);have HTx8:=ι (own_below HTx5.out HB8.out);have HWo8:=ι (own_below HWo5.out HB8.out);have HB18:=ι (HB15.out.trans (HB8.out.mono HB15.out.size));obtain ⟨i0,hi0',hz0,hz1,hz2⟩:=info_parts info_ptr;clear hb8;go_upto_region 27 with (at_builtin; refine wpList_append_any (wr2.alloc (.cells #[.pointer (some ⟨tb,0,none⟩)] 28)) rfl _ _ 27 rfl w1.heap.size 28 i0 _ 1 8 Tryz.underlying27 hi0' hz0 hz1 hz2 rfl (by decide) (.slice WA i wc) i pvs rfl HWo8.out _ (some ⟨wr2.heap.size,0,none⟩) 1 1 [.pointer (some ⟨tb,0,none⟩)] rfl R8.out (by simp [Value.oneCell']) (by simp only [maxLen]; omega) (by omega) HB18.out.size ?_; intro v9 w9 own9 hg9 _; obtain ⟨A9,c9,rfl,_,_,_⟩:=own_form own9; have H9:=ι (And.intro own9 hg9); clear own9 hg9)
     have HV9:=ι (HV8.out.grow HWo8.out (by decide) (by decide) (by decide) (by decide) (by decide) H9.out.2);have HN9:=ι (HN8.out.grow HWo8.out (by decide) (by decide) H9.out.2);have HW9:=ι (fun (j:Nat) (X:Trie.T) (pv:Value) (h1:Ws[j]?=some X) (h2:pvs[j]?=some pv)=>(HW8.out j X pv h1 h2).grow HWo8.out (by decide) (by decide) H9.out.2);have HTx9:=ι (own_other HTx8.out HWo8.out (by decide) H9.out.2);have HWo9:=ι H9.out.1;have HB19:=ι (HB18.out.grown H9.out.2 HB18.out.size (fun k e=>(HWo8.out.lt k e).1));have HNo:=ι (trie_Nodes w9 Tj _ HN9.out (by have:=HJ.out.2.2; omega));unfold TextsEnd at HNo;have HTl:=ι (told_few HN9.out.1 (by have:=HJ.out.2.2; omega));have HTn:Hid (tn≤2048):=ι (by have:=told_all_len HM4.out.p.gd; have:=HM4.out.tl; have:=HM4.out.li; omega);obtain ⟨Q,hQ⟩:∃ Q,toldW allW Tj=Q:=⟨_,rfl⟩
     rw [hQ] at HNo HTl;have HQ:=ι hQ;clear hQ hi0' hz0 hz1 hz2 i0 HV8 HN8 HW8 HTx8 HWo8 HB18 HB8 R8;obtain ⟨i0,hi0',hz0,hz1,hz2⟩:=info_parts info_str;have htn:=HTn.out;have htl:=HTl.out;go_upto_region 28 with (first|(go_at_call 15; refine HNo.out.mono ?_; rintro e w10 ⟨A10,n10,c10,rfl,hn10,own10,hb10⟩; obtain rfl:=hn10; have R10:=ι (Reads.of_own own10); have HB10:=ι hb10; have HTx10:=ι (own_below HTx9.out hb10); have HS10:=ι (Nat.le_trans HB19.out.size hb10.size); clear own10 hb10)|(at_builtin; refine wpList_append_any w10 rfl _ _ 26 rfl w1.heap.size 9 i0 _ 1 16 Tryz.underlying26 hi0' hz0 hz1 hz2 rfl (by decide) (.slice TA tn tc) tn (strv (Ws.flatMap (toldW allW))) rfl HTx10.out w10.heap.size A10 Q.length c10 (strv Q) rfl R10.out (strv_one _) (by simp only [maxLen]; omega) (by omega) HS10.out ?_; intro v11 w11 own11 hg11 _; obtain ⟨A11,c11,rfl,_,_,_⟩:=own_form own11; have H11:=ι (And.intro own11 hg11); clear own11 hg11))
     have hnext:VMem w1 w11 vb g b rb Tj (.pointer (some ⟨tb,0,none⟩)) (saveD D (toldW allW Tj)) (putN R i sm2) (Ws++ [Tj]) (pvs++ [.pointer (some ⟨tb,0,none⟩)]) (i+1) A11 (tn+Q.length) c11 A9 c9:=by
      have hM:=HM4.out;refine ⟨?_,?_,?_,?_,(HN9.out.next HB10.out).grow HTx10.out (by decide) (by decide) H11.out.2,HJ.out.2.2,fun j X pv h1 h2=> ?_,?_,?_,own_other (own_below HWo9.out HB10.out) HTx10.out (by decide) H11.out.2,(HB19.out.trans (HB10.out.mono HB19.out.size)).grown H11.out.2 HS10.out (fun k e=>(HTx10.out.lt k e).1)⟩
      ·have e:(((i+1:Nat):Int) - 1)=(i:Int):=by omega
       rw [e];exact (HV9.out.next HB10.out).grow HTx10.out (by decide) (by decide) (by decide) (by decide) (by decide) H11.out.2
      ·have:=hM.p.step (T:=Tj) HN9.out.1 (by have:=HJ.out.2.2; omega)
       rw [hM.li,HSm.out] at this;exact this
      ·rw [List.length_append,hM.li]; rfl
      ·rw [List.length_append,hM.lp]; rfl
      ·by_cases hj:j<i
       ·rw [List.getElem?_append_left (by rw [hM.li]; exact hj)] at h1;rw [List.getElem?_append_left (by rw [hM.lp]; exact hj)] at h2;exact ((HW9.out j X pv h1 h2).next HB10.out).grow HTx10.out (by decide) (by decide) H11.out.2
       ·have hj2:j=i:=by
         have:=(List.getElem?_eq_some_iff.1 h1).1
         rw [List.length_append,hM.li] at this;simp at this; omega
        rw [List.getElem?_append_right (by rw [hM.li]; omega),hM.li,hj2,Nat.sub_self] at h1;rw [List.getElem?_append_right (by rw [hM.lp]; omega),hM.lp,hj2,Nat.sub_self] at h2
        have:=Option.some.inj h1
        subst this
        have:=Option.some.inj h2
        subst this;exact (HN9.out.next HB10.out).grow HTx10.out (by decide) (by decide) H11.out.2
      ·have h3:=H11.out.1;have e:strv (Ws.flatMap (toldW allW))++strv Q=strv ((Ws++ [Tj]).flatMap (toldW allW)):=by
        rw [List.flatMap_append,←HQ.out];simp [strv]
       rw [e] at h3;exact h3
      ·rw [List.flatMap_append,List.length_append,←hM.tl,←HQ.out];simp
     have HNx:=ι hnext;clear hnext;go_wp2_with fail
     refine Handed.intro (L.length - (i+1)) ?_ (hJ1 _ _ _ (fun Φ hΦ=>hΦ (i+1) (tn+Q.length) (c11) (c9) (A11) (A9) (.pointer (some ⟨tb,0,none⟩)) ?_))
     ·have:=HI.out.1; omega
     exact ⟨by have:=HI.out.1; omega,_,_,_,_,_,HNx.out⟩
  ·have hi1:((i:Int)<L.length)=False:=by simp; omega
   have hi8:i≤8:=by have:=HL8.out; omega
   have HPr:=ι (vers_Prune wr1 vb g b rb T D R ((i:Int) - 1) 0 hM.v below hM.p.nd hM.p.dk (by unfold NdN; rw [hM.p.rk]; exact List.nodup_range) (fun x hx=>by
    have h2:x.1∈R.map (·.1):=List.mem_map.2 ⟨x,hx,rfl⟩;rw [hM.p.rk,List.mem_range,hM.li] at h2;omega) (by have:=congrArg List.length hM.p.rk; rw [List.length_map,List.length_range,hM.li] at this; omega) (by have:=hM.p.dl; rw [hM.li] at this; omega))
   unfold PruneEnd at HPr;have HRk:Hid (∀ x∈R,x.1<i):=ι (fun x hx=>by
    have h2:x.1∈R.map (·.1):=List.mem_map.2 ⟨x,hx,rfl⟩;rw [hM.p.rk,List.mem_range,hM.li] at h2;exact h2)
   have HM:=ι hM;clear h1 hM hi;go_wp2_with fail
   refine HPr.out.mono ?_;rintro e w5 ⟨n5,m5,I,D',R',roots,rfl,hv5,hI,hK,hNd,hmem,hlook,hroots,ho⟩;have HV5:=ι hv5;have HW5:Hid (∀ (j:Nat) (X:Trie.T) (pv:Value),Ws[j]?=some X→pvs[j]?=some pv→TrieP w5 X pv):=ι (fun j X pv h1 h2=>HM.out.v.trie ho (HM.out.wp j X pv h1 h2));have HTx5:=ι (HM.out.v.row ho HM.out.tx (by decide));have HWo5:=ι (HM.out.v.row ho HM.out.wo (by decide));have HB15:Hid (Below w1.heap.size w1 w5):=ι (HM.out.bl.trans (ho.below HM.out.bl.size HVB.out.1 HVB.out.2.1 HVB.out.2.2));have HLf:Hid (∀ n,n∈R'.map (·.1)→∃ hw:n<Ws.length,lookN R' n=some (Trie.sumT Ws[n])∧(unlikeW (Ws.flatMap (toldW allW))=true∨loadR D' (Trie.sumT Ws[n])=(Ws[n],0))):=ι (fun n hn=>left_one HM.out.p HM.out.v.tr hI hK hlook hroots hn);have HHt:=ι (vers_Hts w5 vb g b rb T D' R' ((i:Int) - 1) m5 hv5 (fun x hx=>by have:=HRk.out x (hmem x hx); omega) (by have:=left_len hNd (fun x hx=>HRk.out x (hmem x hx)); omega));have HNl:Hid (R'.length≤8):=ι (by have:=left_len hNd (fun x hx=>HRk.out x (hmem x hx)); omega);unfold HtsEnd at HHt;clear hv5 hI hK hNd hmem hlook hroots ho HPr;go_wp2_with fail
   refine HHt.out.mono ?_;rintro e w6 ⟨A6,c6,ns,rfl,hp,hr6,hb6⟩;have HR6:=ι (And.intro hr6 hp);have HV6:=ι (HV5.out.next hb6);have HW6:Hid (∀ (j:Nat) (X:Trie.T) (pv:Value),Ws[j]?=some X→pvs[j]?=some pv→TrieP w6 X pv):=ι (fun j X pv h1 h2=>(HW5.out j X pv h1 h2).next hb6);have HTx6:=ι (own_below HTx5.out hb6);have HWo6:=ι (own_below HWo5.out hb6);have HB16:=ι (HB15.out.trans (hb6.mono HB15.out.size));have HB6:=ι (HB1.out.nxt HB16.out);have HNs:Hid (ns.length≤8):=ι (by have:=hp.length_eq; rw [List.length_map] at this; have:=HNl.out; omega);have HLi:Hid (Ws.length=i∧pvs.length=i):=ι ⟨HM.out.li,HM.out.lp⟩;have HGd:Hid (∀ W∈Ws,Trie.Good W∧Trie.count W≤64):=ι HM.out.p.gd;have HTl:Hid (tn=(Ws.flatMap (toldW allW)).length∧tn≤2048):=ι ⟨HM.out.tl,by have:=told_all_len HM.out.p.gd; have:=HM.out.tl; have:=HM.out.li; omega⟩;clear hr6 hp hb6 HHt HV5 HW5 HTx5 HWo5 HB15;go_wp2_with fail
   refine wp_loop_ghost_k (fun k a wr=>∀ Φ:Act→Prop,(∀ ⦃s0 s2 s3 s4 s5 s6 a0 a4 a5 a6 a7 a8 a9 b0 b1 b2 b3 b4 b5 b6 b7 b8 b9 c0 c1 c2 c3 c4 c5 c7 c8 d2 d3 d4 d5 d6 d7 d8 d9 e2 e3 e4 e5 e6 e7 e8 e9 f0 f1 f2 f3 f4 f5 f6 f7 f8 f9 g0 g4 g5 g6 g7 g8 g9 h0 h4 h6 h7 h8 h9 i1 i2 i3 i4 i5 i6 i7 i8 i9 j0 j1 j2 j3 j4 j5 j6 j7 j8 j9 k4 k5 k6 k7 k8 k9 l0 l1 l2 l3 l4 l5 l6 l7 l8 l9 m0 m1 m2 m7 m8 m9 n0 n1 n2 n3 n4 n6 n7 n8 n9 o0 o1 o2 o3 o4 o5 o6 o7 o8 o9 p0 p1 p2 p3 p4 p5 p6 p7 p8 p9 q2 q3 q4 q5 q6 q7 q8 q9 r2 r3 r4 r5 r6 r7 r8 r9 t0 t1 t2 t3 t4 t5 t6 t7 t8 t9 u0 u1 u2 u3 u4 u5 u6 u7 u8 u9 v0 v1 v2 v3 v4 v5 v6:Value⦄ (j:Nat),(j+k=ns.length∧Below w6.heap.size w6 wr)→Φ {tmps:=#[s0,.string ⟨key.toArray⟩,s2,s3,s4,s5,s6,.pointer (some ⟨vb,0,none⟩),.slice TA tn tc,.slice WA i wc,a0,a4,a5,a6,a7,a8,a9,b0,b1,b2,b3,b4,b5,b6,b7,b8,b9,c0,c1,c2,c3,c4,c5,c7,c8,d2,d3,d4,d5,d6,d7,d8,d9,e2,e3,e4,e5,e6,e7,e8,e9,f0,f1,f2,f3,f4,f5,f6,f7,f8,f9,g0,g4,g5,g6,g7,g8,g9,h0,h4,h6,h7,h8,h9,i1,i2,i3,i4,i5,i6,i7,i8,i9,j0,j1,j2,j3,j4,j5,j6,j7,j8,j9,k4,k5,k6,k7,k8,k9,l0,l1,l2,l3,l4,l5,l6,l7,l8,l9,m0,m1,m2,.slice A6 ns.length c6,.int .i64 ns.length,.int .i64 (j:Int),m7,m8,m9,n0,n1,n2,n3,n4,n6,n7,n8,n9,o0,o1,o2,o3,o4,o5,o6,o7,o8,o9,p0,p1,p2,p3,p4,p5,p6,p7,p8,p9,q2,q3,q4,q5,q6,q7,q8,q9,r2,r3,r4,r5,r6,r7,r8,r9,t0,t1,t2,t3,t4,t5,t6,t7,t8,t9,u0,u1,u2,u3,u4,u5,u6,u7,u8,u9,v0,v1,v2,v3,v4,v5,v6],defers:= []})→Φ a) (ns.length) ?_ ?_
   ·refine fun Φ hΦ=>hΦ (0) ?_;exact ⟨by omega,Below.refl _ _⟩
   ·intro k3 a3 wr3 hI3 J3 K3 hJ3 hK3;refine hI3 (fun a=>Code.wp _ _ _ a _) ?_;clear hI3 a3;iterate 183 (intro _)
    intro j hrel
    show Code.wp _ _ _ _ _;obtain ⟨h1,hb⟩:=hrel;by_cases hj:j<ns.length
    ·obtain ⟨nd,noff,rfl,hnl,hncell⟩:=led_int_cell HR6.out.1 hj;have q0:=hncell _ hb;obtain ⟨hw,hlk,hld⟩:=HLf.out ns[j] (HR6.out.2.mem_iff.1 (List.getElem_mem hj));have hni:ns[j]<i:=by rw [←HLi.out.1]; exact hw
     have hpl:ns[j]<pvs.length:=by rw [HLi.out.2]; exact hni
     obtain ⟨wd,woff,hwe,hwl,hwcell⟩:=(Reads.of_own HWo6.out).form (by omega) (by omega);subst hwe;have q1:=hwcell ns[j] (by omega);have r1:wr3.cell? ⟨wd,woff+ns[j],none⟩=some pvs[ns[j]]:=(hb.cell (p:=⟨wd,woff+ns[j],none⟩) hwl).trans q1;have htp:TrieP wr3 Ws[ns[j]] pvs[ns[j]]:=(HW6.out ns[j] _ _ (List.getElem?_eq_getElem hw) (List.getElem?_eq_getElem hpl)).next hb;have hgd:=HGd.out _ (List.getElem_mem hw);have hj1:(j:Int)<ns.length:=by omega
     have hj0:(0:Int)≤j:=by omega
     have hn8:=HNs.out;have HJ:=ι (And.intro h1 hb);have HVr:=ι (HV6.out.next hb);have HTr:=ι (HTb.out.next (HB6.out.nxt hb));have HTxr:=ι (own_below HTx6.out hb);have HBr:=ι (HB6.out.nxt hb);have HB1r:=ι (HB16.out.trans (hb.mono HB16.out.size));clear h1 hb hncell hwcell q1 hnl hwl;generalize hnx:ns[j]=n at *;generalize hWx:Ws[n]=X at *;generalize hpx:pvs[n]=pv at *;clear hnx hWx hpx hpl hw;have hn0:((i:Int)≤(n:Int))=False:=by simp; omega
     have hn1:(n:Int)<(i:Int):=by omega
     have hn2:(0:Int)≤(n:Int):=by omega
     obtain ⟨_,tb,tx,rfl,_⟩:=id htp;have HX:=ι (And.intro htp hgd);have HRo:=ι (vers_Root wr3 vb g b rb T D' R' ((i:Int) - 1) m5 HVr.out n (Trie.sumT X) hlk);have HAt:=ι (fun W (hW:Below wr3.heap.size wr3 W)=>vers_At W vb g b rb T D' R' ((i:Int) - 1) m5 (HVr.out.next hW) (HTr.out.next hW) n (Trie.sumT X) hlk);have HTR:Hid (∀ W,Below wr3.heap.size wr3 W→Calls Tryz.prog 20 #[.pointer (some ⟨tb,0,none⟩)] W fun e w'=>e= .returned (.string ⟨(Trie.sumT X).toArray⟩)∧W=w'):=ι (fun W hW=>trie_Root W X _ (HX.out.1.next hW));have HGt:=ι (fun W (hW:Below wr3.heap.size wr3 W)=>trie_Get W X _ (HX.out.1.next hW) key HKl.out);have HSh:Hid (verifyW (Trie.sumT X) key (proveW X key).1=((Trie.getW X key).1,decide ((Trie.getW X key).2=0),0)):=ι (shown_get hgd.1 HKy.out);have HLd:=ι hld;unfold LoadREnd at HAt;unfold TGetEnd at HGt;clear htp hgd hlk hld;obtain ⟨Y,lc,hY⟩:∃ Y lc,loadR D' (Trie.sumT X)=(Y,lc):=⟨_,_,rfl⟩
     rw [hY] at HAt HLd;obtain ⟨gv,gc,hG⟩:∃ gv gc,Trie.getW X key=(gv,gc):=⟨_,_,rfl⟩
     rw [hG] at HGt HSh;have HVf:=ι (fun W N NA nc (hW:Below wr3.heap.size wr3 W) hr h1 h2=>proof_Verify W (Trie.sumT X) key HKl.out N NA nc hr h1 h2 (HTr.out.next hW));generalize hrt:Trie.sumT X=rt at *;simp only at HAt HGt HSh;clear hY hG hrt;have r1x:=ι r1;go_wp2_with fail
     refine HRo.out.mono ?_;rintro e w7 ⟨rfl,hb7⟩;have HB7:=ι hb7;clear hb7 HRo;go_wp2_with fail
     refine (HAt.out _ HB7.out).mono ?_;rintro e w8 ⟨yv,rfl,hb8,hk8⟩;have HB8:=ι (HB7.out.nxt hb8);have HK8:=ι hk8;have hwdl:wd<wr3.heap.size:=by
      rcases Nat.lt_or_ge wd wr3.heap.size with hh|hh
      ·exact hh
      ·have:=r1x.out; unfold World.cell? at this; simp only at this; rw [Array.getElem?_eq_none hh] at this; cases this
     have r1:w8.cell? ⟨wd,woff+n,none⟩=some (.pointer (some ⟨tb,0,none⟩)):=(HB8.out.cell (p:=⟨wd,woff+n,none⟩) hwdl).trans r1x.out;clear hb8 hk8 HAt HB7;go_upto_region 39 with (go_at_call 20; refine (HTR.out _ HB8.out).mono ?_; rintro e w9 ⟨rfl,rfl⟩)
     go_wp2_with fail
     refine (HGt.out _ HB8.out).mono ?_;rintro e w10 ⟨rfl,hb10⟩;have HB10:=ι (HB8.out.nxt hb10);have HK10:Hid (lc=0→TrieP w10 Y yv∧Trie.count Y≤1024):=ι (fun hz=>⟨(HK8.out hz).1.next hb10,(HK8.out hz).2⟩);have HTx10:=ι (own_below HTxr.out HB10.out);have hs8:∀ x∈Ws.flatMap (toldW allW),x.length≤700:=told_all_short HGd.out;have HS7:=ι hs8;clear hb10 HGt HK8 r1 hs8 HTR;obtain ⟨Q,hQ⟩:∃ Q,Ws.flatMap (toldW allW)=Q:=⟨_,rfl⟩
     rw [hQ] at HTx10 HS7 HLd;have HTq:=HTl;rw [hQ] at HTq;clear hQ;by_cases hlc:lc=0;rotate_left
     ·have hu:unlikeW Q=true:=by
       rcases HLd.out with h|h
       ·exact h
       ·exact absurd (congrArg Prod.snd h) hlc
      have HUn:Hid (Calls Tryz.prog 22 #[.int .i64 1,.slice TA tn tc] w10 (Ret w10 (.bool true))):=ι (by
       have hr:=Reads.of_own HTx10.out;have h1:=HTq.out.1;rw [h1] at hr ⊢
       have:=ref04_Unlike w10 Q TA tc hr (by have:=HTq.out.2; omega) (fun x hx=>by have:=HS7.out x hx; omega)
       rwa [hu] at this)
      have hlc1:((lc:Int) !=0)=true:=by simp; exact hlc
      clear hu hlc;go_wp2_with fail
      refine HUn.out.mono ?_;rintro e w11 ⟨rfl,hb11⟩;have HB11:=ι (HBr.out.nxt (HB10.out.nxt hb11));clear hb11 HUn;go_wp2_with fail
      exact HP.out _ HB11.out
     subst hlc;obtain ⟨hy10,hyc⟩:=HK10.out rfl;obtain ⟨_,yb,yx,rfl,_⟩:=id hy10;have HPv:=ι (proof_Prove w10 Y _ hy10 (by omega) key HKl.out);have hpk:(proveW Y key).2=0∧(∀ x∈(proveW Y key).1,x.length≤700)∧(proveW Y key).1.length≤100000:=by
      unfold proveW;rw [if_pos HKy.out];refine ⟨rfl,told_700v hy10.1 _,?_⟩;rw [toldW,textsD,List.length_map];exact Trie.goT_short hy10.1.wf (by omega) _ _
     have hpx:Y=X→verifyW rt key (proveW Y key).1=(gv,decide (gc=0),0):=fun e=>by rw [e]; exact HSh.out
     obtain ⟨N,pc,hN⟩:∃ N pc,proveW Y key=(N,pc):=⟨_,_,rfl⟩
     rw [hN] at HPv hpk hpx;simp only at hpk hpx;obtain ⟨rfl,hps,hpl⟩:=hpk;unfold TextsCEnd at HPv;simp only at HPv;have HPs:=ι (And.intro hps (And.intro hpl hpx));clear hN hps hpl hpx hy10 hyc HK10;go_wp2_with fail
     refine HPv.out.mono ?_;rintro e w11 ⟨A11,n11,c11,rfl,hn11,own11,hb11⟩;obtain rfl:=hn11;have HB11:=ι (HB10.out.nxt hb11);have HTx11:=ι (own_below HTx10.out hb11);have R11:=ι (Reads.of_own own11);have HVy:=ι (HVf.out w11 N A11 c11 HB11.out R11.out HPs.out.2.1 (fun x hx=>by have:=HPs.out.1 x hx; omega));have HC:Hid (unlikeW Q=true∨verifyW rt key N=(gv,decide (gc=0),0)):=ι (by
      rcases HLd.out with h|h
      ·exact .inl h
      ·exact .inr (HPs.out.2.2 (congrArg Prod.fst h)))
     obtain ⟨val,th,kc,hV⟩:∃ val th kc,verifyW rt key N=(val,th,kc):=⟨_,_,_,rfl⟩
     rw [hV] at HVy HC;unfold VerEnd at HVy;simp only at HVy;clear own11 hb11 HPv HVf hV;go_wp2_with fail
     refine HVy.out.mono ?_;rintro e w12 ⟨rfl,hb12⟩;have HB12:=ι (HB11.out.nxt hb12);have HTx12:=ι (own_below HTx11.out hb12);have R12:=ι ((R11.out.below hb12).more hb12.size);have HS12:Hid (w1.heap.size≤w12.heap.size):=ι (Nat.le_trans HB1r.out.size HB12.out.size);clear hb12 HVy HTx11 R11;obtain ⟨i0,hi0',hz0,hz1,hz2⟩:=info_parts info_str;have htn:=HTq.out.2;have hnl:=HPs.out.2.1;have HUn:Hid (unlikeW Q=true→∀ W B A c,W.ownsRow B 9 1 (.slice A (tn+N.length) c) (tn+N.length) (strv Q++strv N)→Calls Tryz.prog 22 #[.int .i64 1,.slice A (tn+N.length) c] W (Ret W (.bool true))):=ι (fun hu W B A c ho=>by
      have hr:=Reads.of_own ho;have h1:=HTq.out.1;have h2:tn+N.length=(Q++N).length:=by rw [List.length_append,←h1]
      rw [h2,show strv Q++strv N=strv (Q++N) by simp [strv]] at hr
      have:=ref04_Unlike W (Q++N) A c hr (by rw [←h2]; have:=HTq.out.2; omega) (fun x hx=>by
       rcases List.mem_append.1 hx with h|h
       ·have:=HS7.out x h; omega
       ·have:=HPs.out.1 x h; omega)
      rw [unlikeW_more hu] at this;rw [h2];exact this)
     by_cases hkc:kc=0;rotate_left
     ·have hu:unlikeW Q=true:=by
       rcases HC.out with h|h
       ·exact h
       ·exact absurd (congrArg (fun x=>x.2.2) h) hkc
      have hk1:((kc:Int) !=0)=true:=by simp; exact hkc
      have HUu:=ι (HUn.out hu);clear hu hkc HUn;exact z_22
     subst hkc;cases e1:(val==gv) with
     |false=>
      have hu:unlikeW Q=true:=by
       rcases HC.out with h|h
       ·exact h
       ·have h2:val=gv:=congrArg (fun x=>x.1) h;rw [h2] at e1; simp at e1
      have HUu:=ι (HUn.out hu);clear hu HUn;exact z_22
     |true=>
      have hvg:val=gv:=by simpa using e1
      subst hvg;clear e1;by_cases hg0:gc=0
      ·subst hg0;cases th with
       |true=>
        clear HUn;go_wp2_with fail
        refine Handed.intro (ns.length - (j+1)) ?_ (hJ3 _ _ _ (fun Φ hΦ=>hΦ (j+1) ?_))
        ·have:=HJ.out.1; omega
        exact ⟨by have:=HJ.out.1; omega,HJ.out.2.nxt HB12.out⟩
       |false=>
        have hu:unlikeW Q=true:=by
         rcases HC.out with h|h
         ·exact h
         ·have h2:false=decide (0=0):=congrArg (fun x=>x.2.1) h;simp at h2
        have HUu:=ι (HUn.out hu);clear hu HUn;exact z_22
      ·have hgc:((gc:Int)==0)=false:=by simp; exact hg0
       cases th with
       |false=>
        clear HUn hg0;go_wp2_with fail
        refine Handed.intro (ns.length - (j+1)) ?_ (hJ3 _ _ _ (fun Φ hΦ=>hΦ (j+1) ?_))
        ·have:=HJ.out.1; omega
        exact ⟨by have:=HJ.out.1; omega,HJ.out.2.nxt HB12.out⟩
       |true=>
        have hu:unlikeW Q=true:=by
         rcases HC.out with h|h
         ·exact h
         ·have h2:true=decide (gc=0):=congrArg (fun x=>x.2.1) h;simp [hg0] at h2
        have HUu:=ι (HUn.out hu);clear hu HUn hg0;exact z_22
    ·have hj1:((j:Int)<ns.length)=False:=by simp; omega
     have HBz:=ι (HB6.out.nxt hb);clear h1 hb hj;go_wp2_with fail
     exact HP.out _ HBz.out
end
end Go.Proofs.YtnelhjfjkkdoaaaGreatDoor