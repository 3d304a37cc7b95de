import Derived.Test.YtnelhjfjkkdoaaaGreatDoorJ35
import Derived.Test.YtnelhjfjkkdoaaaGreatDoorJ42
set_option linter.unusedSimpArgs false
set_option linter.unusedVariables false
set_option maxHeartbeats 4000000
set_option maxRecDepth 100000
namespace Go.Proofs.YtnelhjfjkkdoaaaGreatDoor
section
open Go.RowKit Go.Instr
attribute [local go_sem] ba_get ByteArray.mk_append_mk
attribute [local go_sem ↓] Go.wp_at_zero Go.wp_at_succ
theorem proveF_short {l:List (Int × List UInt8 × Int)} (h:(treeF l).2=0) (k:Int):∀ x∈(proveF l k).1,x.length≤999999:=by
 obtain ⟨_,hg,_⟩:=Trie.treeF_look h;intro x hx;unfold proveF at hx;rw [if_neg (by simp [h])] at hx
 split at hx
 ·cases hx
 ·unfold proveW at hx
  split at hx
  ·have:=told_700v hg _ x hx; omega
  ·cases hx
structure TopAt (w:World) (A:Option Addr) (l:List Ex.Ac) (B:Option Addr) (set:List Pw.Mem) (C:Option Addr) (bl:List BT):Prop where
 a:Reads w w.heap.size 3 A l.length (acells l)
 xs:∀ x∈l,x.1.length≤9223372036854775807
 al:l.length≤9223372036854775807
 s:Reads w w.heap.size 2 B set.length (mcells set)
 ss:∀ x∈set,x.1.length≤9223372036854775807
 b:BTAt w C bl
theorem law_TopSeqs (w:World) (A:Option Addr) (c:Nat) (l:List Ex.Ac) (B:Option Addr) (d:Nat) (set:List Pw.Mem) (C:Option Addr) (ce:Nat) (bl:List BT) (h:TopAt w A l B set C bl) (hT:Tbl w):
  Calls Tryz.prog 4 #[.slice A l.length c,.slice B set.length d,.slice C bl.length ce] w fun e w'=>e= .returned (.bool true)∧Below w.heap.size w w':=by
 have HP:Hid (∀ w',Below w.heap.size w w'→(fun e w'=>e=Ending.returned (.bool true)∧Below w.heap.size w w') (Ending.returned (.bool true)) w'):=ι (fun W' a2=>⟨rfl,a2⟩);generalize (fun e w'=>e=Ending.returned (.bool true)∧Below w.heap.size w w')=P at HP ⊢;have HTb:=ι hT;have HA:=ι h;have HK:=ι (top_keeps w hT);have HGr:=ι (fun W (hW:Below w.heap.size w W)=>top_grown W l h.xs h.al A c ((h.a.below hW).more hW.size) set h.ss B d ((h.s.below hW).more hW.size) bl C ce (h.b.next hW) (hT.next hW));unfold TopGrownEnd at HGr;clear h hT;have hmm:=@run_makeMap Tryz.prog;go_enter Tryz.func4,Tryz.ntmps4
 go_wp2_with fail
 refine HK.out.mono ?_;rintro e w0 ⟨rfl,hb0⟩;have HB0:=ι hb0;clear hb0 HK;go_wp2_with fail
 refine (HGr.out _ HB0.out).mono ?_;rintro e w1 ⟨v,rfl,hb1,hv⟩;have HB1:=ι (HB0.out.nxt hb1);clear hb1 HGr;rcases hv with rfl|⟨h10,hcd,lb,g,rfl,hg,hgL⟩
 ·go_wp2_with fail
  exact HP.out _ HB1.out
 obtain ⟨n,hn⟩:=hg.pos;obtain ⟨mb,hmb⟩:∃ mb,w1.heap.size=mb:=⟨_,rfl⟩
 have HG:Hid (∀ W,Below mb w1 W→LgRd W lb g):=ι (fun W hW=>hg.toLgRd.next (by rw [hmb]; exact hW));have HN:=ι hn;have HLe:=ι (show n≤1048577 by have:=hg.toLgRd.wf.le; rw [List.length_map] at this; omega);have HSq:Hid (∀ i p q,g.L[i]?=some p→g.L[i+1]?=some q→Led.SeqOk p q):=ι (fun i p q hp hq=>by
  obtain ⟨i1,e1⟩:=List.getElem?_eq_some_iff.1 hp;obtain ⟨i2,e2⟩:=List.getElem?_eq_some_iff.1 hq;rw [←e1,←e2];refine Led.SeqOk.of hg.toLgRd.wf hg.toLgRd.rt ?_ ?_ i i2
  ·rw [hgL];exact Led.Sqs.grow _ _ 9 (Led.Sqs.one _) (Led.newE_wf (Ex.genW_good l set).1 (by have:=(Ex.genW_good l set).2; omega) (genW_ok hcd)) (Led.newE_few l set) (by rw [List.length_map]; omega)
  ·intro e he;rw [hgL,Led.grow_first _ _ (by simp)] at he
   have:=Option.some.inj he
   subst this;exact Ex.genW_wfs l set)
 have HD0:Hid (∃ p,g.L[0]?=some p∧∀ n,(l.foldl Ex.setA fun _=>0) n=(Ex.seqOf p.st n:Int)):=ι (by
  refine ⟨Led.newE (Ex.genW l set).1 set,by rw [hgL,Led.grow_first _ _ (by simp)]; rfl,fun n=>Ex.genW_seq hcd n⟩)
 have HHt:Hid (∀ W,Below mb w1 W→Calls Tryz.prog 26 #[.pointer (some ⟨lb,0,none⟩)] W fun e w'=>e= .returned (.int .i64 (n:Int))∧W=w'):=ι (fun W hW=>by
  have:=lg_Height W lb g (HG.out _ hW)
  rw [HN.out,show ((n+1:Nat):Int) - 1=(n:Int) from by omega] at this;exact this)
 clear hg hgL hn hcd h10;go_upto_region 7 with fail
 have HM2:Hid (IMap (w1.alloc (.map #[] 0)) mb (fun _=>0)):=ι (by rw [←hmb]; exact IMap.made w1 0);have HB2:Hid (Below mb w1 (w1.alloc (.map #[] 0))):=ι (by rw [←hmb]; exact (Below.refl _ w1).alloc (Nat.le_refl _) _);have HZ2:Hid (mb<(w1.alloc (.map #[] 0)).heap.size):=ι (by rw [World.size_alloc]; omega);generalize w1.alloc (.map #[] 0)=w2 at HM2 HB2 HZ2 ⊢;have HAR:Hid (Reads w1 mb 3 A l.length (acells l)):=ι (by rw [←hmb]; exact (HA.out.a.below HB1.out).more HB1.out.size);have HAl:Hid (l.length≤9223372036854775807):=ι HA.out.al;have HSz:Hid (w1.heap.size=mb):=ι hmb;clear hmb;go_wp2_with fail
 refine wp_loop_ghost_k (fun k a wr=>∀ Φ:Act→Prop,(∀ ⦃s0 s1 s2 s3 s4 s5 s6 s9 a0 a5 a6 a7 a8 a9 b0 b1 b2 b3 b4 b5 b6 b7 b8 b9 c0 c1 c2 c3 c4 c5 c6 c7 c8 c9 d3 d4 d5 d6 e0 e3 e4 e5 e6 e7 e8 e9 f0 f1 f2 f3 f4 f5 f6 f7 f8 f9 g0 g3 g4 g5 g6 g7 g8 g9 h3 h4 h5 h6 h7 h8 h9 i0 i3 i4 i5 i6 i7 i8 i9 j0 j1 j2 j3 j4 j5 j6 j7 j8 j9 k5 k7 k8 k9 l0 l1 l2 l3 l4 l5 l6 l7 l9 m0 m1 m2 m3 m4 m5 m6 m7 m8 m9 n0 n1 n2 n3 n4 n5 n6 n7 n8 n9 o0 o1 o2 o3 o4 o5 o6 o7 o8 o9 p1 p2 p3 p4 p5 p6 p7 p8 p9 q0 q1 q2 q3 q4 q5 q6 q7 q8 q9 r3 r4 r5 r6 r7 r8 r9 t0 t3 t4 t5 t6 t7 t8 t9 u0 u1 u2 u3 u4 u5 u6 u7 u8 u9 v0 v1 v2 v3:Value⦄ (i:Nat),(i+k=l.length∧IMap wr mb ((l.take i).foldl Ex.setA fun _=>0)∧Below mb w1 wr∧mb<wr.heap.size)→Φ {tmps:=#[s0,s1,s2,s3,s4,s5,s6,.pointer (some ⟨lb,0,none⟩),.map (some mb),s9,a0,a5,a6,a7,a8,a9,b0,b1,b2,b3,b4,b5,b6,b7,b8,b9,c0,c1,c2,c3,c4,c5,c6,c7,c8,c9,d3,d4,d5,d6,.slice A l.length c,.int .i64 l.length,.int .i64 (i:Int),e0,e3,e4,e5,e6,e7,e8,e9,f0,f1,f2,f3,f4,f5,f6,f7,f8,f9,g0,g3,g4,g5,g6,g7,g8,g9,h3,h4,h5,h6,h7,h8,h9,i0,i3,i4,i5,i6,i7,i8,i9,j0,j1,j2,j3,j4,j5,j6,j7,j8,j9,k5,k7,k8,k9,l0,l1,l2,l3,l4,l5,l6,l7,l9,m0,m1,m2,m3,m4,m5,m6,m7,m8,m9,n0,n1,n2,n3,n4,n5,n6,n7,n8,n9,o0,o1,o2,o3,o4,o5,o6,o7,o8,o9,p1,p2,p3,p4,p5,p6,p7,p8,p9,q0,q1,q2,q3,q4,q5,q6,q7,q8,q9,r3,r4,r5,r6,r7,r8,r9,t0,t3,t4,t5,t6,t7,t8,t9,u0,u1,u2,u3,u4,u5,u6,u7,u8,u9,v0,v1,v2,v3],defers:= []})→Φ a) (l.length) ?_ ?_
 ·refine fun Φ hΦ=>hΦ (0) ?_;exact ⟨by omega,HM2.out,HB2.out,HZ2.out⟩
 ·intro k1 a1 wr1 hI1 J1 K1 hJ1 hK1;refine hI1 (fun a=>Code.wp _ _ _ a _) ?_;clear hI1 a1;intro s0 s1 s2 s3 s4 s5 s6 s7 s8 s9 a0 a5 a6 a7 a8 a9 b0 b1 b2 b3 b4 b5 b6 b7 b8 b9 c0 c1 c2 c3 c4 c5 c6 c7 c8 c9 d3 d4 d5 d6 d7 d8 d9 e0 e3 e4 e5 e6 e7 e8 e9 f0 f1 f2 f3 f4 f5 f6 f7 f8 f9 g0 g3 g4 g5 g6 g7 g8 g9 h3 h4 h5 h6 h7 h8 h9 i0 i3 i4 i5 i6 i7 i8 i9 j0 j1 j2 j3 j4 j5 j6 j7 j8 j9 k5 k7 k8 k9 l0 l1 l2 l3 l4 l5 l6 l7 l9 m0 m1 m2 m3 m4 m5 m6 m7 m8 m9 n0 n1 n2 n3 n4 n5 n6 n7 n8 n9 o0 o1 o2 o3 o4 o5 o6 o7 o8 o9 p1 p2 p3 p4 p5 p6 p7 p8 p9 q0 q1 q2 q3 q4 q5 q6 q7 q8 q9 r3 r4 r5 r6 r7 r8 r9 t0 t3 t4 t5 t6 t7 t8 t9 u0 u1 u2 u3 u4 u5 u6 u7 u8 i hrel
  show Code.wp _ _ _ _ _;obtain ⟨h1,hm,hb,hz⟩:=hrel;by_cases hi:i<l.length
  ·obtain ⟨ad,off,rfl,hbl,hcell⟩:=flat_cells acell_len (by decide) HAR.out hi;have r0:=hcell wr1 hb 0 _ rfl;have r1:=hcell wr1 hb 1 _ rfl;have r2:=hcell wr1 hb 2 _ rfl;have hi1:(i:Int)<l.length:=by omega
   have hi0:(0:Int)≤i:=by omega
   have hal:=HAl.out;have htk:(l.take (i+1)).foldl Ex.setA (fun _=>0)=Ex.setA ((l.take i).foldl Ex.setA fun _=>0) l[i]:=by
    rw [List.take_succ_eq_append_getElem hi,List.foldl_append]; rfl
   have HI:=ι (And.intro h1 (And.intro hm (And.intro hb (And.intro hz htk))));clear h1 hm hb hz htk hcell hbl;generalize (l.take i).foldl Ex.setA (fun _=>0)=Di at *;generalize l[i]=x at *;obtain ⟨xn,xa,xq⟩:=x;simp only [Nat.add_zero] at r0 r1 r2;go_upto_region 10 with fail
   have F:=Live.ha (ι (Live.start wr1)) #[xn,xa,xq] 62;have HF:=ι F.out.b;generalize World.alloc wr1 _=W4 at F HF ⊢;have HM4:=ι (HI.out.2.1.next HF.out);have HB4:Hid (Below mb w1 W4∧mb<W4.heap.size):=ι ⟨HI.out.2.2.1.trans (HF.out.mono (Nat.le_of_lt HI.out.2.2.2.1)),Nat.lt_of_lt_of_le HI.out.2.2.2.1 HF.out.size⟩;generalize wr1.heap.size=ab at F ⊢;have k0:=(F.out.blk 0 rfl).d0;have k2:=(F.out.blk 0 rfl).d2;obtain ⟨vs,hvm,hve⟩:=HM4.out.store xn xq;have HV:=ι (And.intro hvm hve);clear hvm hve r0 r1 r2;go_wp2_with (at_mapUpdate; refine wpList_mapUpdate_is _ rfl _ _ _ 60 rfl ss_type _ Tryz.underlying60 mb vs HV.out.1 xn (.int .i64 xq) rfl rfl rfl ?_; intro w3 hm2 hg2 hs2; have H2:=ι (And.intro hm2 (And.intro hg2 hs2)); clear hm2 hg2 hs2)
   refine Handed.intro (l.length - (i+1)) ?_ (hJ1 _ _ _ (fun Φ hΦ=>hΦ (i+1) ?_))
   ·have:=HI.out.1; omega
   refine ⟨by have:=HI.out.1; omega,?_,HB4.out.1.grown H2.out.2.1 (Nat.le_of_lt HB4.out.2) (fun k e=>by have:=Option.some.inj e; omega),by rw [H2.out.2.2]; exact HB4.out.2⟩;rw [HI.out.2.2.2.2];exact HV.out.2 _ H2.out.1
  ·have hi1:((i:Int)<l.length)=False:=by simp; omega
   rw [List.take_of_length_le (by omega)] at hm;obtain ⟨p0,hp0,hd0⟩:=HD0.out;have HE:=ι (And.intro hp0 (And.intro (hm.cong hd0) (And.intro hb hz)));clear h1 hm hb hz hi hp0 hd0;clear HM2 HB2 HZ2 HAR HD0;go_wp2_with fail
   refine wp_loop_ghost_k (fun k a wr=>∀ Φ:Act→Prop,(∀ ⦃s0 s1 s2 s3 s4 s5 s6 s9 a0 a6 a7 a8 a9 b0 b1 b2 b3 b4 b5 b6 b7 b8 b9 c0 c1 c2 c3 c4 c5 c6 c7 c8 c9 d3 d4 d5 d6 d7 d8 d9 e0 e3 e4 e5 e6 e7 e8 e9 f0 f1 f2 f3 f4 f5 f6 f7 f8 f9 g0 g3 g4 g5 g6 g7 g8 g9 h3 h4 h5 h6 h7 h8 h9 i0 i3 i4 i5 i6 i7 i8 i9 j0 j1 j2 j3 j4 j5 j6 j7 j8 j9 k5 k7 k8 k9 l0 l1 l2 l3 l4 l5 l6 l7 l9 m0 m1 m2 m3 m4 m5 m6 m7 m8 m9 n0 n1 n2 n3 n4 n5 n6 n7 n8 n9 o0 o1 o2 o3 o4 o5 o6 o7 o8 o9 p1 p2 p3 p4 p5 p6 p7 p8 p9 q0 q1 q2 q3 q4 q5 q6 q7 q8 q9 r3 r4 r5 r6 r7 r8 r9 t0 t3 t4 t5 t6 t7 t8 t9 u0 u1 u2 u3 u4 u5 u6 u7 u8 u9 v0 v1 v2 v3:Value⦄ (h:Nat),(1≤h∧h+k=n+1∧Below mb w1 wr∧mb<wr.heap.size∧∃ p,g.L[h - 1]?=some p∧IMap wr mb (fun m=>(Ex.seqOf p.st m:Int)))→Φ {tmps:=#[s0,s1,s2,s3,s4,s5,s6,.pointer (some ⟨lb,0,none⟩),.map (some mb),s9,a0,.int .i64 (h:Int),a6,a7,a8,a9,b0,b1,b2,b3,b4,b5,b6,b7,b8,b9,c0,c1,c2,c3,c4,c5,c6,c7,c8,c9,d3,d4,d5,d6,d7,d8,d9,e0,e3,e4,e5,e6,e7,e8,e9,f0,f1,f2,f3,f4,f5,f6,f7,f8,f9,g0,g3,g4,g5,g6,g7,g8,g9,h3,h4,h5,h6,h7,h8,h9,i0,i3,i4,i5,i6,i7,i8,i9,j0,j1,j2,j3,j4,j5,j6,j7,j8,j9,k5,k7,k8,k9,l0,l1,l2,l3,l4,l5,l6,l7,l9,m0,m1,m2,m3,m4,m5,m6,m7,m8,m9,n0,n1,n2,n3,n4,n5,n6,n7,n8,n9,o0,o1,o2,o3,o4,o5,o6,o7,o8,o9,p1,p2,p3,p4,p5,p6,p7,p8,p9,q0,q1,q2,q3,q4,q5,q6,q7,q8,q9,r3,r4,r5,r6,r7,r8,r9,t0,t3,t4,t5,t6,t7,t8,t9,u0,u1,u2,u3,u4,u5,u6,u7,u8,u9,v0,v1,v2,v3],defers:= []})→Φ a) (n) ?_ ?_
   ·refine fun Φ hΦ=>hΦ (1) ?_;exact ⟨by omega,by omega,HE.out.2.2.1,HE.out.2.2.2,p0,HE.out.1,HE.out.2.1⟩
   ·intro k2 a2 wr2 hI2 J2 K2 hJ2 hK2;refine hI2 (fun a=>Code.wp _ _ _ a _) ?_;clear hI2 a2;intro s0 s1 s2 s3 s4 s5 s6 s7 s8 s9 a0 a5 a6 a7 a8 a9 b0 b1 b2 b3 b4 b5 b6 b7 b8 b9 c0 c1 c2 c3 c4 c5 c6 c7 c8 c9 d3 d4 d5 d6 d7 d8 d9 e0 e3 e4 e5 e6 e7 e8 e9 f0 f1 f2 f3 f4 f5 f6 f7 f8 f9 g0 g3 g4 g5 g6 g7 g8 g9 h3 h4 h5 h6 h7 h8 h9 i0 i3 i4 i5 i6 i7 i8 i9 j0 j1 j2 j3 j4 j5 j6 j7 j8 j9 k5 k7 k8 k9 l0 l1 l2 l3 l4 l5 l6 l7 l9 m0 m1 m2 m3 m4 m5 m6 m7 m8 m9 n0 n1 n2 n3 n4 n5 n6 n7 n8 n9 o0 o1 o2 o3 o4 o5 o6 o7 o8 o9 p1 p2 p3 p4 p5 p6 p7 p8 p9 q0 q1 q2 q3 q4 q5 q6 q7 q8 q9 r3 r4 r5 r6 r7 r8 r9 t0 t3 t4 t5 t6 t7 t8 t9 u0 u1 u2 u3 u4 u5 u6 u7 u8 u9 v0 h hrel
    show Code.wp _ _ _ _ _;obtain ⟨h0,h1,hb,hz,p,hp,hm⟩:=hrel;have HB0:=ι (And.intro hb hz);have F:=ι (Live.start wr2);go_wp2_with fail
    refine (HHt.out _ hb).mono ?_;rintro e wz ⟨rfl,rfl⟩;have hwi:IntKind.i64.wrap ((h:Int)+1)=(h:Int)+1:=IntWalk.i64_in _ (by have:=HLe.out; have:=h1; omega);by_cases hi:h≤n
    ·have hi1:((h:Int)≤(n:Int)):=by omega
     obtain ⟨q,hq⟩:∃ q,g.es[h]'(by rw [HN.out]; omega)=q:=⟨_,rfl⟩
     have hqL:g.L[h]?=some q.en:=by rw [List.getElem?_map,List.getElem?_eq_getElem (by rw [HN.out]; omega),hq]; rfl
     have hsq:Led.SeqOk p q.en:=HSq.out (h - 1) p q.en hp (by rw [show h - 1+1=h by omega]; exact hqL);have HI:=ι (And.intro h0 (And.intro h1 (And.intro hi (And.intro hqL hm))));have HHa:=ι (fun W (hW:Below mb w1 W)=>lg_Head W lb g (HG.out _ hW) h (by rw [HN.out]; omega) q hq);have HTx:=ι (fun W (hW:Below mb w1 W)=>lg_Txs W lb g (HG.out _ hW) h (by rw [HN.out]; omega) q hq);have HRc:=ι (fun W (hW:Below mb w1 W)=>lg_Receipts W lb g (HG.out _ hW) h (by rw [HN.out]; omega) q hq);have HSt:=ι (fun W (hW:Below mb w1 W)=>lg_State W lb g (HG.out _ hW) h (by rw [HN.out]; omega) q hq);have ok:∀ W,Below mb w1 W→LeOk W q:=fun W hW=>(HG.out _ hW).ok q (by rw [←hq]; exact List.getElem_mem _);have HXe:Hid (q.tl.map (·.1)=q.en.txs):=ι (ok _ hb).xe.symm;have HLn:Hid (∀ l':List TxM,l'.map (·.1)=q.tl.map (·.1)→l'.length=q.en.rcs.length):=ι (fun l' hm=>by rw [hsq.len,←(ok _ hb).xe.symm,←hm,List.length_map]);have HFew:Hid (q.en.rcs.length≤8):=ι (by rw [hsq.len]; exact hsq.few);have HEq:Hid (∀ i (hi:i<q.en.rcs.length),∃ hl:i<q.en.txs.length,q.en.rcs[i].2=(q.en.txs[i].frm,q.en.txs[i].seq)):=ι (fun i hi=>⟨by rw [←hsq.len]; exact hi,hsq.rc i hi (by rw [←hsq.len]; exact hi)⟩);have HRk:Hid (∀ i (hi:i<q.en.rcs.length),(0≤q.en.rcs[i].1∧0≤q.en.rcs[i].2.2)∧q.en.rcs[i].2.1.length≤6∧q.en.rcs[i].2.2≤1099511627776):=ι (fun i hi=>⟨hsq.rok i hi,hsq.fr i hi,hsq.sq i hi⟩);have HRun:=ι (hsq.run (fun m=>(Ex.seqOf p.st m:Int)) (fun _=>rfl));have HPv:=ι (fun i (hi:i<q.en.rcs.length)=>(And.intro (hsq.prv i hi) (proveF_short hsq.tree (i:Int))));have HPr:Hid (∀ W RA rc (i:Nat),Below mb w1 W→Reads W W.heap.size 3 RA q.en.rcs.length (rcs q.en.rcs)→Calls Tryz.prog 30 #[.slice RA q.en.rcs.length rc,i] W (TextsCEnd W (proveF q.en.rcs (i:Int)))):=ι (fun W RA rc i hW hr=>
      receipt_Prove q.en.rcs (fun x hx=>by obtain ⟨j,hj,rfl⟩:=List.mem_iff_getElem.1 hx; have:=hsq.fr j hj; omega) (i:Int) W (HTb.out.next (HB1.out.trans (hW.mono (by rw [←HSz.out]; exact HB1.out.size)))) RA rc hr)
     have HVr:Hid (∀ W NA nc (N:List (List UInt8)) (i:Nat),Below mb w1 W→Reads W W.heap.size 1 NA N.length (strv N)→N.length≤100000→(∀ x∈N,x.length≤999999)→Calls Tryz.prog 31 #[q.en.hd.rc,i,.slice NA N.length nc] W (RVerEnd W (verifyF q.en.hd.rc (i:Int) N))):=ι (fun W NA nc N i hW hr h1 h2=>
      receipt_Verify q.en.hd.rc (i:Int) W (HTb.out.next (HB1.out.trans (hW.mono (by rw [←HSz.out]; exact HB1.out.size)))) N NA nc hr h1 h2)
     have HAc:Hid (∀ W (i:Nat) (hi:i<q.en.txs.length),Below mb w1 W→q.en.txs[i].frm.length≤9223372036854775807→Calls Tryz.prog 33 #[q.sv,.string ⟨q.en.txs[i].frm.toArray⟩] W (fun e w'=>∃ am:Nat,e= .returned (.tuple #[.agg #[.string ⟨q.en.txs[i].frm.toArray⟩,am,.int .i64 (Ex.seqOf q.en.st q.en.txs[i].frm:Int)],ζ])∧Below W.heap.size W w')):=ι (fun W i hi hW hl=>by
      obtain ⟨am,ha⟩:=hsq.acc i hi;refine (exec_Account W q.en.st q.sv ((ok _ hW).t) q.en.txs[i].frm hl).mono ?_;rintro e w' ⟨h1,h2⟩;rw [ha] at h1;exact ⟨am,h1,h2⟩)
     obtain ⟨_,vb,vx,hsv,_⟩:=(ok _ hb).t;rw [hsv] at HSt HAc;clear ok hsq hqL hq hp hi h1 h0 hm hb hz hsv;generalize q.en.hd=a at *;generalize q.en.rcs=R at *;generalize q.en.txs=X at *;have hD:∃ D0:List UInt8→Int,D0=fun m=>(Ex.seqOf p.st m:Int):=⟨_,rfl⟩
     obtain ⟨D0,hD⟩:=hD;rw [←hD] at HI HRun;clear hD;go_wp2_with fail
     refine (HHa.out _ HB0.out.1).mono ?_;rintro e W4 ⟨kA,kc,rfl,hb4,_⟩;have F:=Live.hb F hb4;clear hb4 HHa;go_upto_region 16 with fail
     have F:=Live.ha F (η a [.slice kA a.sk.length kc]) 65;generalize World.alloc W4 _=W5 at F ⊢;generalize W4.heap.size=ha at F ⊢;have HB5:=ι (HB0.out.1.trans (F.out.b.mono (Nat.le_of_lt HB0.out.2)));go_wp2_with fail
     refine (HTx.out _ HB5.out).mono ?_;rintro e W6 ⟨l8,XA,xc,rfl,hb6,hm6,ht6⟩;have F:=Live.hb F hb6;have HB6:=ι (HB0.out.1.trans (F.out.b.mono (Nat.le_of_lt HB0.out.2)));have HX6:=ι ht6;have HL8:=ι (HLn.out l8 hm6);have HX8:=ι (hm6.trans HXe.out);rw [HLn.out l8 hm6];clear hb6 hm6 ht6 HTx HLn HXe HB5;go_wp2_with fail
     refine (HRc.out _ HB6.out).mono ?_;rintro e W7 ⟨RA,rc,rfl,hb7,hr7⟩;have F:=Live.hb F hb7;have HX7:=ι (HX6.out.next hb7);have HOk:=ι HX6.out.t;have HR7:=ι hr7;have HB7:Hid (Below mb w1 W7∧mb<W7.heap.size):=ι ⟨HB0.out.1.trans (F.out.b.mono (Nat.le_of_lt HB0.out.2)),Nat.lt_of_lt_of_le HB0.out.2 F.out.b.size⟩;have HM7:=ι (HI.out.2.2.2.2.next F.out.b);have k6:Hid (W7.cell? ⟨ha,6,none⟩=some (a.rc:Value)∧ha<W7.heap.size):=ι ⟨F.out.cell 0 6 rfl rfl,(F.out.blk 0 rfl).lt⟩;clear hb7 hr7 HRc HX6 HB6 F;go_wp2_with fail
     refine wp_loop_ghost_k (fun k a wr=>∀ Φ:Act→Prop,(∀ ⦃s0 s1 s2 s3 s4 s5 s6 s9 a0 a7 a9 b1 b2 b3 b4 b5 b6 b7 b8 b9 c0 c1 c2 c3 c4 c5 c6 c7 c8 c9 d3 d4 d5 d6 d7 d8 d9 e0 e3 e4 e5 e6 e7 e8 e9 f0 f1 f2 f3 f4 f5 f6 f7 f8 f9 g0 g3 g4 g5 g6 g7 g8 g9 h3 h4 h5 h6 h7 h8 h9 i0 i3 i4 i5 i6 j0 j1 j2 j3 j4 j5 j6 j7 j8 j9 k5 k7 k8 k9 l0 l1 l2 l3 l4 l5 l6 l7 l9 m0 m1 m2 m3 m4 m5 m6 m7 m8 m9 n0 n1 n2 n3 n4 n5 n6 n7 n8 n9 o0 o1 o2 o3 o4 o5 o6 o7 o8 o9 p1 p2 p3 p4 p5 p6 p7 p8 p9 q0 q1 q2 q3 q4 q5 q6 q7 q8 q9 r3 r4 r5 r6 r7 r8 r9 t0 t3 t4 t5 t6 t7 t8 t9 u0 u1 u2 u3 u4 u5 u6 u7 u8 u9 v0 v1 v2 v3:Value⦄ (i:Nat),(i+k=R.length∧IMap wr mb ((R.take i).foldl Ex.bump D0)∧W7.grownBy wr (some mb))→Φ {tmps:=#[s0,s1,s2,s3,s4,s5,s6,.pointer (some ⟨lb,0,none⟩),.map (some mb),s9,a0,.int .i64 (h:Int),.pointer (some ⟨ha,0,none⟩),a7,.slice XA R.length xc,a9,.slice RA R.length rc,b1,b2,b3,b4,b5,b6,b7,b8,b9,c0,c1,c2,c3,c4,c5,c6,c7,c8,c9,d3,d4,d5,d6,d7,d8,d9,e0,e3,e4,e5,e6,e7,e8,e9,f0,f1,f2,f3,f4,f5,f6,f7,f8,f9,g0,g3,g4,g5,g6,g7,g8,g9,h3,h4,h5,h6,h7,h8,h9,i0,i3,i4,i5,i6,.slice RA R.length rc,.int .i64 R.length,.int .i64 (i:Int),j0,j1,j2,j3,j4,j5,j6,j7,j8,j9,k5,k7,k8,k9,l0,l1,l2,l3,l4,l5,l6,l7,l9,m0,m1,m2,m3,m4,m5,m6,m7,m8,m9,n0,n1,n2,n3,n4,n5,n6,n7,n8,n9,o0,o1,o2,o3,o4,o5,o6,o7,o8,o9,p1,p2,p3,p4,p5,p6,p7,p8,p9,q0,q1,q2,q3,q4,q5,q6,q7,q8,q9,r3,r4,r5,r6,r7,r8,r9,t0,t3,t4,t5,t6,t7,t8,t9,u0,u1,u2,u3,u4,u5,u6,u7,u8,u9,v0,v1,v2,v3],defers:= []})→Φ a) (R.length) ?_ ?_
     ·refine fun Φ hΦ=>hΦ (0) ?_;exact ⟨by omega,HM7.out,⟨rfl,rfl,rfl,Nat.le_refl _,fun _ _ _=>rfl⟩⟩
     ·intro k3 a3 wr3 hI3 J3 K3 hJ3 hK3;refine hI3 (fun a=>Code.wp _ _ _ a _) ?_;clear hI3 a3;intro s0 s1 s2 s3 s4 s5 s6 s7 s8 s9 a0 a5 a6 a7 a8 a9 b0 b1 b2 b3 b4 b5 b6 b7 b8 b9 c0 c1 c2 c3 c4 c5 c6 c7 c8 c9 d3 d4 d5 d6 d7 d8 d9 e0 e3 e4 e5 e6 e7 e8 e9 f0 f1 f2 f3 f4 f5 f6 f7 f8 f9 g0 g3 g4 g5 g6 g7 g8 g9 h3 h4 h5 h6 h7 h8 h9 i0 i3 i4 i5 i6 i7 i8 i9 j0 j1 j2 j3 j4 j5 j6 j7 j8 j9 k5 k7 k8 k9 l0 l1 l2 l3 l4 l5 l6 l7 l9 m0 m1 m2 m3 m4 m5 m6 m7 m8 m9 n0 n1 n2 n3 n4 n5 n6 n7 n8 n9 o0 o1 o2 o3 o4 o5 o6 o7 o8 o9 p1 p2 p3 p4 p5 p6 p7 p8 p9 q0 q1 q2 q3 q4 q5 q6 q7 q8 q9 r3 r4 r5 r6 r7 r8 r9 t0 t3 t4 t5 t6 t7 t8 t9 u0 u1 u2 u3 u4 i hrel
      show Code.wp _ _ _ _ _;obtain ⟨h1,hm,hg⟩:=hrel;have hbz:Below mb w1 wr3∧mb<wr3.heap.size:=⟨HB7.out.1.grown hg (Nat.le_of_lt HB7.out.2) (fun k e=>by have:=Option.some.inj e; omega),Nat.lt_of_lt_of_le HB7.out.2 hg.size⟩
      by_cases hi:i<R.length
      ·have hRw:Reads wr3 wr3.heap.size 3 RA R.length (rcs R):=(HM7.out.reads HR7.out (Nat.le_refl _) hg).more hg.size;have hXw:Reads wr3 wr3.heap.size 8 XA l8.length (xcells l8):=(HM7.out.reads HX7.out.r (Nat.le_refl _) hg).more hg.size;have k6w:wr3.cell? ⟨ha,6,none⟩=some (a.rc:Value):=by
        rw [←k6.out.1];refine World.cell?_of_block (hg.block ha k6.out.2 (fun e=> ?_))
        have:=HM7.out.no_cell ⟨ha,6,none⟩ (Option.some.inj e)
        rw [this] at k6;cases k6.out.1
       have htk:(R.take (i+1)).foldl Ex.bump D0=Ex.bump ((R.take i).foldl Ex.bump D0) R[i]:=by
        rw [List.take_succ_eq_append_getElem hi,List.foldl_append]; rfl
       have hi8:i<l8.length:=by rw [HL8.out]; exact hi
       obtain ⟨ad,off,hae,hbl,hcell⟩:=flat_cells rcell_len (by decide) hRw hi;obtain ⟨xd,xoff,hxe,hxl,hxcell⟩:=flat_cells xcell_len (by decide) hXw hi8;obtain ⟨hxl2,heq⟩:=HEq.out i hi;have hx8:l8[i].1=X[i]:=by
        have:=HX8.out
        have e2:=List.getElem_map (l:=l8) (i:=i) (·.1) (h:=by rw [List.length_map]; exact hi8);simp only [this] at e2;exact e2.symm
       have r0:=hcell wr3 (Below.refl _ _) 0 _ rfl;have r1:=hcell wr3 (Below.refl _ _) 1 _ rfl;have r2:=hcell wr3 (Below.refl _ _) 2 _ rfl;have t1:∀ W,Below wr3.heap.size wr3 W→W.cell? ⟨xd,xoff+i*8+1,none⟩=some (.string ⟨R[i].2.1.toArray⟩)∧W.cell? ⟨xd,xoff+i*8+2,none⟩=some (.int .i64 R[i].2.2):=fun W hW=>by
        have e1:=hxcell W hW 1 _ rfl;have e2:=hxcell W hW 2 _ rfl;rw [hx8] at e1 e2;rw [heq];exact ⟨e1,e2⟩
       have HX1:=ι t1;have hi1:(i:Int)<R.length:=by omega
       have hi0:(0:Int)≤i:=by omega
       obtain ⟨⟨hp0,hp1,hpv⟩,hpsh⟩:=HPv.out i hi;obtain ⟨⟨z1,z2⟩,z3,z4⟩:=HRk.out i hi;have hrun:=HRun.out.1 i hi;have HPr3:=ι (fun W (hW:Below wr3.heap.size wr3 W)=>HPr.out W RA rc i (hbz.1.trans (hW.mono (Nat.le_of_lt hbz.2))) ((hRw.below hW).more hW.size));have HVr3:=ι (fun W NA nc N (hW:Below wr3.heap.size wr3 W)=>HVr.out W NA nc N i (hbz.1.trans (hW.mono (Nat.le_of_lt hbz.2))));have HI3:=ι (And.intro h1 (And.intro hm (And.intro hg (And.intro htk hbz))));have HK6:=ι k6w;subst hae;subst hxe;clear hRw hXw k6w htk hi8 hcell hxcell hbl hxl heq hx8 t1 h1 hm hg hbz;generalize (R.take i).foldl Ex.bump D0=Di at *;generalize R[i]=r at *;obtain ⟨rcd,rf,rq⟩:=r;simp only at z1 z2 z3 z4 hrun hpv r0 r1 r2 HX1;obtain ⟨cn,rfl⟩:=Int.eq_ofNat_of_zero_le z1;obtain ⟨qn,rfl⟩:=Int.eq_ofNat_of_zero_le z2;simp only [Int.toNat_natCast] at hpv;obtain ⟨N,cN,hN⟩:∃ N cN,proveF R (i:Int)=(N,cN):=⟨_,_,rfl⟩
       rw [hN] at hp0 hp1 hpv hpsh HPr3;simp only at hp0 hp1 hpv hpsh;subst hp0;have HVr4:=ι (fun W NA nc (hW:Below wr3.heap.size wr3 W) hr=>HVr3.out W NA nc N hW hr (by omega) hpsh);rw [hpv] at HVr4;have HZ:=ι (And.intro hrun (And.intro z3 z4));clear hrun z1 z2 z3 z4 hpv hpsh HVr3 hN hp1;simp only [Nat.add_zero] at r0 r1 r2;go_upto_region 23 with fail
       have F:=Live.ha (ι (Live.start wr3)) #[cn,rf,qn] 75;generalize World.alloc wr3 _=W8 at F ⊢;have HB8:=ι F.out.b;generalize wr3.heap.size=ra at F ⊢;clear r0 r1 r2;go_wp2_with fail
       refine (HPr3.out _ HB8.out).mono ?_;rintro e W9 ⟨NA,nn,nc,rfl,hnn,own9,hb9⟩;obtain rfl:=hnn;have F:=Live.hb F hb9;have HB9:=ι (HB8.out.nxt hb9);have HN9:=ι (Reads.of_own own9);have k6w:W9.cell? ⟨ha,6,none⟩=some (a.rc:Value):=(HB9.out.cell (p:=⟨ha,6,none⟩) (Nat.lt_of_lt_of_le k6.out.2 HI3.out.2.2.1.size)).trans HK6.out;clear own9 hb9 HPr3 HB8;go_wp2_with fail
       refine (HVr4.out _ NA nc HB9.out HN9.out).mono ?_;rintro e W10 ⟨rfl,hb10⟩;have F:=Live.hb F hb10;have HB10:=ι (HB9.out.nxt hb10);clear hb10 HVr4 HB9 HN9 k6w;unfold rcV;simp only
       go_upto_region 25 with fail
       have HB11:Hid (Below wr3.heap.size wr3 (W10.alloc (.cells #[cn,rf,qn] 75))):=ι (HB10.out.nxt ((Below.refl _ _).alloc (Nat.le_refl _) _));have F:=Live.ha F #[cn,rf,qn] 75;generalize World.alloc W10 _=W11 at F HB11 ⊢;generalize W10.heap.size=xb at F ⊢;obtain ⟨t1,t2⟩:=HX1.out W11 HB11.out;have r0:=(F.out.blk 1 rfl).d0;have r1:=(F.out.blk 1 rfl).d1;have r2:=(F.out.blk 1 rfl).d2;have x0:=(F.out.blk 0 rfl).d0;have x1:=(F.out.blk 0 rfl).d1;have x2:=(F.out.blk 0 rfl).d2
       go_quiet (fail)
       have HB13:=ι (below_drewN HB11.out nq);have F:=ι (F.out.drew nq);clear r0 r1 r2 x0 x1 x2 t1 t2;generalize W11.drewN nq=W13 at F HB13 ⊢;have r0:=(F.out.blk 1 rfl).d0;have r1:=(F.out.blk 1 rfl).d1;have r2:=(F.out.blk 1 rfl).d2;have hr8:=HFew.out;by_cases hc:cn=0
       ·have hc1:((cn:Int)==0)=true:=by simp; exact hc
        have hq:Di rf=(qn:Int):=(HZ.out.1 (by omega)).symm;have lk:=HI3.out.2.1.get Tryz.underlying60 rf HB13.out;rw [hq] at lk;have hwq:IntKind.i64.wrap ((qn:Int)+1)=(qn:Int)+1:=IntWalk.i64_in _ (by have:=HZ.out.2.2; omega);obtain ⟨vs,hvm,hve⟩:=(HI3.out.2.1.next HB13.out).store rf ((qn:Int)+1);have HV:=ι (And.intro hvm (And.intro hve (And.intro hc hq)));clear hvm hve hc hq;go_wp2_with (at_mapUpdate; refine wpList_mapUpdate_is _ rfl _ _ _ 60 rfl ss_type _ Tryz.underlying60 mb vs HV.out.1 rf (.int .i64 ((qn:Int)+1)) rfl rfl (by first|rfl|(simp only [Act.eval]; rfl)) ?_; intro w3 hm2 hg2 hs2; have H2:=ι (And.intro hm2 (And.intro hg2 hs2)); clear hm2 hg2 hs2)
        refine Handed.intro (R.length - (i+1)) ?_ (hJ3 _ _ _ (fun Φ hΦ=>hΦ (i+1) ?_))
        ·have:=HI3.out.1; omega
        refine ⟨by have:=HI3.out.1; omega,?_,HI3.out.2.2.1.trans ((grown_of_low _ HB13.out).trans H2.out.2.1)⟩;rw [HI3.out.2.2.2.1];refine (HV.out.2.1 _ H2.out.1).cong fun m=> ?_;unfold Ex.bump;by_cases hm:m=rf
        ·rw [if_pos hm,if_pos ⟨by rw [HV.out.2.2.1]; rfl,hm⟩,hm,HV.out.2.2.2]
        ·rw [if_neg hm,if_neg (fun e=>hm e.2)]
       ·have hc1:((cn:Int)==0)=false:=by simp; exact hc
        have HNz:=ι hc;clear hc;go_wp2_with fail
        refine Handed.intro (R.length - (i+1)) ?_ (hJ3 _ _ _ (fun Φ hΦ=>hΦ (i+1) ?_))
        ·have:=HI3.out.1; omega
        refine ⟨by have:=HI3.out.1; omega,?_,HI3.out.2.2.1.trans (grown_of_low _ HB13.out)⟩;rw [HI3.out.2.2.2.1];refine (HI3.out.2.1.next HB13.out).cong fun m=> ?_;unfold Ex.bump;rw [if_neg (fun e=>HNz.out (by have:=e.1; simp only at this; omega))]
      ·have hi1:((i:Int)<R.length)=False:=by simp; omega
       rw [List.take_of_length_le (by omega)] at hm;have HE3:=ι (And.intro (hm.cong HRun.out.2) (And.intro hg hbz));have HX12:Hid (Reads wr3 wr3.heap.size 8 XA l8.length (xcells l8)):=ι ((HM7.out.reads HX7.out.r (Nat.le_refl _) hg).more hg.size);clear h1 hm hg hbz hi HM7 HR7 HRun HPv HPr HVr HRk k6 HX7 HB7;go_wp2_with fail
       refine (HSt.out _ HE3.out.2.2.1).mono ?_;rintro e W12 ⟨rfl,hb12⟩;have HB12:=ι (And.intro (HE3.out.2.2.1.trans (hb12.mono (Nat.le_of_lt HE3.out.2.2.2))) (Nat.lt_of_lt_of_le HE3.out.2.2.2 hb12.size));have HM12:=ι (HE3.out.1.next hb12);have HXx:=ι ((HX12.out.below hb12).more hb12.size);clear hb12 HSt HX12;go_wp2_with fail
       refine wp_loop_ghost_k (fun k a wr=>∀ Φ:Act→Prop,(∀ ⦃s0 s1 s2 s3 s4 s5 s6 s9 a0 a6 a7 a8 a9 b0 b1 b2 b3 b4 b5 b6 b7 b8 c0 c1 c2 c3 c4 c5 c6 c7 c8 c9 d3 d4 d5 d6 d7 d8 d9 e0 e3 e4 e5 e6 e7 e8 e9 f0 f1 f2 f3 f4 f5 f6 f7 f8 f9 g0 g3 g4 g5 g6 g7 g8 g9 h3 h4 h5 h6 h7 h8 h9 i0 i3 i4 i5 i6 i7 i8 i9 j0 j1 j2 j3 j4 j5 j6 j7 j8 j9 k5 k7 k8 k9 l0 l1 l2 l3 l4 l5 l6 l7 l9 m0 m1 m2 m3 m4 m5 m6 m7 m8 m9 n0 n1 n2 n3 n4 n5 n6 n7 n8 n9 o0 o1 o2 o3 o4 o5 o6 o7 o8 o9 p1 p2 p3 p4 p5 p6 p7 p8 p9 q0 q1 q2 q3 q4 q5 q6 q7 q8 q9 r3 r4 r5 r6 t0 t3 t4 t5 t6 t7 t8 t9 u0 u1 u2 u3 u4 u5 u6 u7 u8 u9 v0 v1 v2 v3:Value⦄ (j:Nat),(j+k=R.length∧Below W12.heap.size W12 wr)→Φ {tmps:=#[s0,s1,s2,s3,s4,s5,s6,.pointer (some ⟨lb,0,none⟩),.map (some mb),s9,a0,.int .i64 (h:Int),a6,a7,a8,a9,b0,b1,b2,b3,b4,b5,b6,b7,b8,.pointer (some ⟨vb,0,none⟩),c0,c1,c2,c3,c4,c5,c6,c7,c8,c9,d3,d4,d5,d6,d7,d8,d9,e0,e3,e4,e5,e6,e7,e8,e9,f0,f1,f2,f3,f4,f5,f6,f7,f8,f9,g0,g3,g4,g5,g6,g7,g8,g9,h3,h4,h5,h6,h7,h8,h9,i0,i3,i4,i5,i6,i7,i8,i9,j0,j1,j2,j3,j4,j5,j6,j7,j8,j9,k5,k7,k8,k9,l0,l1,l2,l3,l4,l5,l6,l7,l9,m0,m1,m2,m3,m4,m5,m6,m7,m8,m9,n0,n1,n2,n3,n4,n5,n6,n7,n8,n9,o0,o1,o2,o3,o4,o5,o6,o7,o8,o9,p1,p2,p3,p4,p5,p6,p7,p8,p9,q0,q1,q2,q3,q4,q5,q6,q7,q8,q9,r3,r4,r5,r6,.slice XA R.length xc,.int .i64 R.length,.int .i64 (j:Int),t0,t3,t4,t5,t6,t7,t8,t9,u0,u1,u2,u3,u4,u5,u6,u7,u8,u9,v0,v1,v2,v3],defers:= []})→Φ a) (R.length) ?_ ?_
       ·refine fun Φ hΦ=>hΦ (0) ?_;exact ⟨by omega,Below.refl _ _⟩
       ·intro k4 a4 wr4 hI4 J4 K4 hJ4 hK4;refine hI4 (fun a=>Code.wp _ _ _ a _) ?_;clear hI4 a4;intro s0 s1 s2 s3 s4 s5 s6 s7 s8 s9 a0 a5 a6 a7 a8 a9 b0 b1 b2 b3 b4 b5 b6 b7 b8 b9 c0 c1 c2 c3 c4 c5 c6 c7 c8 c9 d3 d4 d5 d6 d7 d8 d9 e0 e3 e4 e5 e6 e7 e8 e9 f0 f1 f2 f3 f4 f5 f6 f7 f8 f9 g0 g3 g4 g5 g6 g7 g8 g9 h3 h4 h5 h6 h7 h8 h9 i0 i3 i4 i5 i6 i7 i8 i9 j0 j1 j2 j3 j4 j5 j6 j7 j8 j9 k5 k7 k8 k9 l0 l1 l2 l3 l4 l5 l6 l7 l9 m0 m1 m2 m3 m4 m5 m6 m7 m8 m9 n0 n1 n2 n3 n4 n5 n6 n7 n8 n9 o0 o1 o2 o3 o4 o5 o6 o7 o8 o9 p1 p2 p3 p4 p5 p6 p7 p8 p9 q0 q1 q2 q3 q4 q5 q6 q7 q8 q9 r3 r4 r5 r6 r7 r8 r9 t0 t3 t4 t5 t6 t7 t8 t9 u0 u1 u2 u3 u4 u5 u6 j hrel
        show Code.wp _ _ _ _ _;obtain ⟨h1,hb⟩:=hrel;by_cases hi:j<R.length
        ·have hi8:j<l8.length:=by rw [HL8.out]; exact hi
         obtain ⟨hxl2,heq⟩:=HEq.out j hi;obtain ⟨xd,xoff,hxe,hxl,hxcell⟩:=flat_cells xcell_len (by decide) HXx.out hi8;subst hxe;have hx8:l8[j].1=X[j]:=by
          have:=HX8.out
          have e2:=List.getElem_map (l:=l8) (i:=j) (·.1) (h:=by rw [List.length_map]; exact hi8);simp only [this] at e2;exact e2.symm
         have HAc4:=ι (fun W (hW:Below wr4.heap.size wr4 W) hl=>HAc.out W j hxl2 (HB12.out.1.trans ((hb.nxt hW).mono (Nat.le_of_lt HB12.out.2))) hl);rw [←hx8] at HAc4;have s0:=hxcell wr4 hb 0 _ rfl;have s1:=hxcell wr4 hb 1 _ rfl;have s2:=hxcell wr4 hb 2 _ rfl;have s3:=hxcell wr4 hb 3 _ rfl;have s4:=hxcell wr4 hb 4 _ rfl;have s5:=hxcell wr4 hb 5 _ rfl;have s6:=hxcell wr4 hb 6 _ rfl;have s7:=hxcell wr4 hb 7 _ rfl;have HFl:Hid (l8[j].1.frm.length≤9223372036854775807):=ι (HOk.out _ (List.getElem_mem hi8)).f;have hi1:(j:Int)<R.length:=by omega
         have hi0:(0:Int)≤j:=by omega
         have HI4:=ι (And.intro h1 hb);have HM4:=ι (HM12.out.next hb);clear hx8 heq hxcell hxl h1 hb;generalize l8[j]=y at *;clear hi8 hi;obtain ⟨⟨yk,yf,yq,yd,ya,yy,yv,ym⟩,yA,yc⟩:=y;simp only [Nat.add_zero] at s0 s1 s2 s3 s4 s5 s6 s7 HAc4 HFl;go_upto_region 36 with fail
         have F:=Live.ha (ι (Live.start wr4)) #[yk,yf,yq,yd,ya,yy,yv,.slice yA ym.length yc] 80;have HB14:=ι F.out.b;clear s0 s1 s2 s3 s4 s5 s6 s7;generalize World.alloc wr4 _=W14 at F HB14 ⊢;generalize wr4.heap.size=tb at F ⊢;have g1:=(F.out.blk 0 rfl).d1;go_wp2_with fail
         refine (HAc4.out _ HB14.out HFl.out).mono ?_;rintro e W15 ⟨am,rfl,hb15⟩;have F:=Live.hb F hb15;have HB15:=ι (HB14.out.nxt hb15);clear hb15 HAc4 HB14 g1;have lk:=fun W (hW:Below wr4.heap.size wr4 W)=>HM4.out.get Tryz.underlying60 yf hW;have HLk:=ι lk;clear lk;generalize Ex.seqOf q.en.st yf=sq at *;go_upto_region 37 with fail
         have HB16:Hid (Below wr4.heap.size wr4 (W15.alloc (.cells #[yf,am,sq] 62))):=ι (HB15.out.nxt ((Below.refl _ _).alloc (Nat.le_refl _) _));have F:=Live.ha F #[yf,am,sq] 62;generalize World.alloc W15 _=W16 at F HB16 ⊢;generalize W15.heap.size=ab at F ⊢;have g1:=(F.out.blk 1 rfl).d1;have g2:=(F.out.blk 0 rfl).d2;have lk:=HLk.out _ HB16.out;have hr8:=HFew.out;go_wp2_with fail
         refine Handed.intro (R.length - (j+1)) ?_ (hJ4 _ _ _ (fun Φ hΦ=>hΦ (j+1) ?_))
         ·have:=HI4.out.1; omega
         exact ⟨by have:=HI4.out.1; omega,HI4.out.2.nxt HB16.out⟩
        ·have hi1:((j:Int)<R.length)=False:=by simp; omega
         have HE4:=ι (And.intro (HM12.out.next hb) (And.intro (HB12.out.1.trans (hb.mono (Nat.le_of_lt HB12.out.2))) (Nat.lt_of_lt_of_le HB12.out.2 hb.size)));clear h1 hb hi;go_wp2_with fail
         refine Handed.intro (n+1 - (h+1)) ?_ (hJ2 _ _ _ (fun Φ hΦ=>hΦ (h+1) ?_))
         ·have:=HI.out; omega
         exact ⟨by omega,by have:=HI.out; omega,HE4.out.2.1,HE4.out.2.2,q.en,by rw [Nat.add_sub_cancel]; exact HI.out.2.2.2.1,HE4.out.1⟩
    ·have hi1:((h:Int)≤(n:Int))=False:=by simp; omega
     have HBz:=ι (HB1.out.trans (hb.mono (by rw [←HSz.out]; exact HB1.out.size)));clear hi h1 hb hz hm hp HB0 F;go_wp2_with fail
     exact HP.out _ HBz.out
end
end Go.Proofs.YtnelhjfjkkdoaaaGreatDoor