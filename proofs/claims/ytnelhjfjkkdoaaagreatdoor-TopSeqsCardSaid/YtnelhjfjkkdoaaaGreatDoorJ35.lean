import Derived.Test.YtnelhjfjkkdoaaaGreatDoorJ34
set_option linter.unusedSimpArgs false
set_option linter.unusedVariables false
set_option maxHeartbeats 4000000
set_option maxRecDepth 100000
namespace Go.Proofs.YtnelhjfjkkdoaaaGreatDoor
section
open Go.RowKit Go.Instr
attribute [local go_sem] ba_get ByteArray.mk_append_mk
attribute [local go_sem ↓] Go.wp_at_zero Go.wp_at_succ
abbrev BT:=Int × List TxM × Option Addr × Nat
def btcell (b:BT):List Value:= [.int .i64 b.1,.slice b.2.2.1 b.2.1.length b.2.2.2]
abbrev btcells (l:List BT):List Value:=l.flatMap btcell
theorem btcell_len (b:BT):(btcell b).length=2:=rfl
def BT.p (b:BT):Int × List Ex.Tx:=(b.1,b.2.1.map (·.1))
structure BTAt (w:World) (A:Option Addr) (l:List BT):Prop where
 r:Reads w w.heap.size 2 A l.length (btcells l)
 t:∀ b∈l,TxsAt w b.2.2.1 b.2.1
 n:l.length≤9223372036854775807
theorem BTAt.next {w w':World} {A:Option Addr} {l:List BT} (h:BTAt w A l) (hb:Below w.heap.size w w'):BTAt w' A l:=
 ⟨(h.r.below hb).more hb.size,fun b hm=>(h.t b hm).next hb,h.n⟩
def TopGrownEnd (w:World) (l:List Ex.Ac) (set:List Pw.Mem) (bl:List BT) (e:Ending) (w':World):Prop:=
 ∃ v,e= .returned v∧Below w.heap.size w w'∧(v= .pointer none∨(bl.length≤10∧(Ex.genW l set).2=0∧∃ lb g,v= .pointer (some ⟨lb,0,none⟩)∧LgAt w' w.heap.size lb g∧g.L=Led.growW [Led.newE (Ex.genW l set).1 set] (bl.map BT.p)))
theorem top_grown (w:World) (l:List Ex.Ac) (hs:∀ x∈l,x.1.length≤9223372036854775807) (hl:l.length≤9223372036854775807) (A:Option Addr) (c:Nat) (HR:Reads w w.heap.size 3 A l.length (acells l)) (set:List Pw.Mem) (hm:∀ x∈set,x.1.length≤9223372036854775807) (B:Option Addr) (d:Nat) (HS:Reads w w.heap.size 2 B set.length (mcells set))
  (bl:List BT) (C:Option Addr) (ce:Nat) (HB:BTAt w C bl) (hT:Tbl w):
  Calls Tryz.prog 25 #[.slice A l.length c,.slice B set.length d,.slice C bl.length ce] w (TopGrownEnd w l set bl):=by
 have HPn:Hid (∀ w',Below w.heap.size w w'→TopGrownEnd w l set bl (.returned (.pointer none)) w'):=ι (fun w' hb=>⟨_,rfl,hb,.inl rfl⟩);have HPo:Hid (∀ lb g w',bl.length≤10→(Ex.genW l set).2=0→Below w.heap.size w w'→LgAt w' w.heap.size lb g→g.L=Led.growW [Led.newE (Ex.genW l set).1 set] (bl.map BT.p)→TopGrownEnd w l set bl (.returned (.pointer (some ⟨lb,0,none⟩))) w'):=ι (fun lb g w' h1 h2 h3 h4 h5=>⟨_,rfl,h3,.inr ⟨h1,h2,lb,g,rfl,h4,h5⟩⟩);generalize TopGrownEnd w l set bl=P at HPn HPo ⊢;have HNw:=ι (fun W (hW:Below w.heap.size w W)=>led_New W l hs A c ((HR.below hW).more hW.size) set hm B d ((HS.below hW).more hW.size) (hT.next hW));have HF0:=ι (Led.newE_few l set);unfold NewLEnd at HNw;generalize Ex.genW l set=gw at *;obtain ⟨t,cd⟩:=gw;simp only at HPo HNw HF0;have HTb:=ι hT;have HBB:=ι HB;clear HR hs hm HS hT HB hl;go_enter Tryz.func25,Tryz.ntmps25
 by_cases g1:20<l.length
 ·have g1':(20:Int)<l.length:=by omega
  clear g1;go_wp2_with fail
  exact HPn.out _ (Below.refl _ _)
 have g1':((20:Int)<l.length)=False:=by simp; omega
 by_cases g2:100<set.length
 ·have g2':(100:Int)<set.length:=by omega
  clear g1 g2;go_wp2_with fail
  exact HPn.out _ (Below.refl _ _)
 have g2':((100:Int)<set.length)=False:=by simp; omega
 by_cases g3:10<bl.length
 ·have g3':(10:Int)<bl.length:=by omega
  clear g1 g2 g3;go_wp2_with fail
  exact HPn.out _ (Below.refl _ _)
 have g3':((10:Int)<bl.length)=False:=by simp; omega
 have H10:=ι (Nat.le_of_not_lt g3);clear g1 g2 g3;go_wp2_with fail
 have HAC:Hid (∀ W,Below w.heap.size w W→BTAt W C bl):=ι (fun W hW=>HBB.out.next hW);clear g1' g2' g3';refine wp_loop_ghost_k (fun k a wr=>∀ Φ:Act→Prop,(∀ ⦃s3 s4 s5 s6 s7 s8 s9 a0 a4 a5 a6 a7 a8 a9 b0 b1 b2 b3 b4 b5 b6 b7 b8 b9 c0 c4 c5 c6 c7 c8 c9 d2 d4 d8 d9 e0 e1 e2 e3 e4 e5 e6 e7 e8 e9 f0 f1 f2 f3 f4 f5 f6 f7 f8 f9 g0 g6 g7 g8 g9 h0 h7 h8 h9 i0 i1 i2 i3 i4 i5 i6 i7 i8 i9 j0 j1 j2 j3 j4 j5 j6 j7 j8 j9 k0 k4 k5:Value⦄ (i:Nat),(i+k=bl.length∧Below w.heap.size w wr)→Φ {tmps:=#[.slice A l.length c,.slice B set.length d,.slice C bl.length ce,s3,s4,s5,s6,s7,s8,s9,a0,a4,a5,a6,a7,a8,a9,b0,b1,b2,b3,b4,b5,b6,b7,b8,b9,c0,.slice C bl.length ce,.int .i64 (bl.length:Int),.int .i64 (i:Int),c4,c5,c6,c7,c8,c9,d2,d4,d8,d9,e0,e1,e2,e3,e4,e5,e6,e7,e8,e9,f0,f1,f2,f3,f4,f5,f6,f7,f8,f9,g0,g6,g7,g8,g9,h0,h7,h8,h9,i0,i1,i2,i3,i4,i5,i6,i7,i8,i9,j0,j1,j2,j3,j4,j5,j6,j7,j8,j9,k0,k4,k5],defers:= []})→Φ a) (bl.length) ?_ ?_
 ·refine fun Φ hΦ=>hΦ (0) ?_;exact ⟨by omega,Below.refl _ _⟩
 ·intro k1 a1 wr1 hI1 J1 K1 hJ1 hK1;refine hI1 (fun a=>Code.wp _ _ _ a _) ?_;clear hI1 a1;intro s0 s1 s2 s3 s4 s5 s6 s7 s8 s9 a0 a4 a5 a6 a7 a8 a9 b0 b1 b2 b3 b4 b5 b6 b7 b8 b9 c0 c1 c2 c3 c4 c5 c6 c7 c8 c9 d2 d4 d8 d9 e0 e1 e2 e3 e4 e5 e6 e7 e8 e9 f0 f1 f2 f3 f4 f5 f6 f7 f8 f9 g0 g6 g7 g8 g9 h0 h7 h8 h9 i0 i1 i2 i3 i4 i5 i6 i7 i8 i9 j0 j1 j2 j3 j4 j5 j6 i hrel
  show Code.wp _ _ _ _ _;obtain ⟨h1,hb⟩:=hrel;by_cases hi:i<bl.length
  ·obtain ⟨ad,off,hC,hbl,hcell⟩:=flat_cells btcell_len (by decide) HBB.out.r hi;subst hC;have r0:wr1.cell? ⟨ad,off+i*2,none⟩=some (.int .i64 bl[i].1):=hcell _ hb 0 _ rfl;have r1:wr1.cell? ⟨ad,off+i*2+1,none⟩=some (.slice bl[i].2.2.1 bl[i].2.1.length bl[i].2.2.2):=hcell _ hb 1 _ rfl;have hi1:(i:Int)<bl.length:=by omega
   have hi0:(0:Int)≤i:=by omega
   have hwi:IntKind.i64.wrap ((i:Int)+1)=(i:Int)+1:=IntWalk.i64_in _ (by have:=HBB.out.n; omega);have HTx:=ι ((HBB.out.next hb).t _ (List.getElem_mem hi));have HI:=ι (And.intro h1 (And.intro hi hb));clear hcell hbl h1 hb;generalize bl[i]=bk at *;obtain ⟨vw,L,tA,tc⟩:=bk;simp only at r0 r1 HTx;clear hi;go_upto_region 6 with fail
   have F:=Live.ha (ι (Live.start wr1)) #[vw,.slice tA L.length tc] 142;generalize World.alloc wr1 _=W5 at F ⊢;have HT5:=ι (HTx.out.next F.out.b);have HB5:=ι (HI.out.2.2.nxt F.out.b);generalize wr1.heap.size=tb at F ⊢;have q1:=(F.out.blk 0 rfl).d1;clear r0 r1 F;go_wp2_with fail
   clear q1;refine wp_loop_ghost_k (fun k a wr=>∀ Φ:Act→Prop,(∀ ⦃s3 s4 s5 s6 s7 s8 s9 a0 a4 a5 a6 a7 a8 a9 b0 b1 b2 b3 b4 b5 b6 b7 b8 b9 c0 c4 c5 c6 c7 d4 d8 d9 e0 e1 e2 e3 e4 e5 e6 e7 e8 e9 f0 f1 f2 f3 f4 f5 f6 f7 f8 f9 g0 g6 g7 g8 g9 h0 h7 h8 h9 i0 i1 i2 i3 i4 i5 i6 i7 i8 i9 j0 j1 j2 j3 j4 j5 j6 j7 j8 j9 k0 k4 k5:Value⦄ (j:Nat),(j+k=L.length∧Below W5.heap.size W5 wr)→Φ {tmps:=#[.slice A l.length c,.slice B set.length d,.slice (some ⟨ad,off,none⟩) bl.length ce,s3,s4,s5,s6,s7,s8,s9,a0,a4,a5,a6,a7,a8,a9,b0,b1,b2,b3,b4,b5,b6,b7,b8,b9,c0,.slice (some ⟨ad,off,none⟩) bl.length ce,.int .i64 (bl.length:Int),.int .i64 (i:Int),c4,c5,c6,c7,.slice tA L.length tc,.int .i64 (L.length:Int),.int .i64 (j:Int),d4,d8,d9,e0,e1,e2,e3,e4,e5,e6,e7,e8,e9,f0,f1,f2,f3,f4,f5,f6,f7,f8,f9,g0,g6,g7,g8,g9,h0,h7,h8,h9,i0,i1,i2,i3,i4,i5,i6,i7,i8,i9,j0,j1,j2,j3,j4,j5,j6,j7,j8,j9,k0,k4,k5],defers:= []})→Φ a) (L.length) ?_ ?_
   ·refine fun Φ hΦ=>hΦ (0) ?_;exact ⟨by omega,Below.refl _ _⟩
   ·intro k2 a2 wr2 hI2 J2 K2 hJ2 hK2;refine hI2 (fun a=>Code.wp _ _ _ a _) ?_;clear hI2 a2;intro s0 s1 s2 s3 s4 s5 s6 s7 s8 s9 a0 a4 a5 a6 a7 a8 a9 b0 b1 b2 b3 b4 b5 b6 b7 b8 b9 c0 c1 c2 c3 c4 c5 c6 c7 c8 c9 d2 d4 d8 d9 e0 e1 e2 e3 e4 e5 e6 e7 e8 e9 f0 f1 f2 f3 f4 f5 f6 f7 f8 f9 g0 g6 g7 g8 g9 h0 h7 h8 h9 i0 i1 i2 i3 i4 i5 i6 i7 i8 i9 j0 j1 j2 j3 j hrel
    show Code.wp _ _ _ _ _;obtain ⟨h1,hb⟩:=hrel;have HJ:=ι (And.intro h1 hb);by_cases hj:j<L.length
    ·obtain ⟨ad2,off2,rfl,hbl,hcell⟩:=tx_cells HT5.out.r hj;obtain ⟨s0,s1,s2,s3,s4,s5,s6,s7⟩:=hcell _ hb;have hj1:(j:Int)<L.length:=by omega
     have hj0:(0:Int)≤j:=by omega
     have hwj:IntKind.i64.wrap ((j:Int)+1)=(j:Int)+1:=IntWalk.i64_in _ (by have:=HTx.out.n; omega);obtain ⟨o1,o2,o3,o4,_⟩:=HTx.out.t _ (List.getElem_mem hj);have HJ2:=ι hj;clear hcell hbl h1;generalize L[j]=x at *;clear hj;go_upto_region 9 with fail
     have FA:=Live.ha (ι (Live.start wr2)) #[x.1.kind,x.1.frm,x.1.seq,x.1.dst,x.1.amt,x.1.key,x.1.val,.slice x.2.1 x.1.mem.length x.2.2] 80;generalize World.alloc wr2 _=W6 at FA ⊢;have HB6:=ι ((HB5.out.nxt hb).nxt FA.out.b);have HJ6:=ι (hb.nxt FA.out.b);generalize wr2.heap.size=zb at FA ⊢;clear s0 s1 s2 s3 s4 s5 s6 s7 hb;have s1:=(FA.out.blk 0 rfl).d1;have s3:=(FA.out.blk 0 rfl).d3;have s5:=(FA.out.blk 0 rfl).d5;have s6:=(FA.out.blk 0 rfl).d6;have s7:=(FA.out.blk 0 rfl).d7;by_cases g1:100<x.1.frm.length
     ·have g1':(100:Int)<x.1.frm.length:=by omega
      clear g1;go_wp2_with fail
      exact HPn.out _ HB6.out
     have g1':((100:Int)<x.1.frm.length)=False:=by simp; omega
     by_cases g2:100<x.1.dst.length
     ·have g2':(100:Int)<x.1.dst.length:=by omega
      clear g1 g2;go_wp2_with fail
      exact HPn.out _ HB6.out
     have g2':((100:Int)<x.1.dst.length)=False:=by simp; omega
     by_cases g3:100<x.1.key.length
     ·have g3':(100:Int)<x.1.key.length:=by omega
      clear g1 g2 g3;go_wp2_with fail
      exact HPn.out _ HB6.out
     have g3':((100:Int)<x.1.key.length)=False:=by simp; omega
     by_cases g4:100<x.1.val.length
     ·have g4':(100:Int)<x.1.val.length:=by omega
      clear g1 g2 g3 g4;go_wp2_with fail
      exact HPn.out _ HB6.out
     have g4':((100:Int)<x.1.val.length)=False:=by simp; omega
     by_cases g5:100<x.1.mem.length
     ·have g5':(100:Int)<x.1.mem.length:=by omega
      clear g1 g2 g3 g4 g5;go_wp2_with fail
      exact HPn.out _ HB6.out
     have g5':((100:Int)<x.1.mem.length)=False:=by simp; omega
     clear g1 g2 g3 g4 g5;go_wp2_with fail
     refine Handed.intro (L.length - (j+1)) ?_ (hJ2 _ _ _ (fun Φ hΦ=>hΦ (j+1) ?_))
     ·have:=HJ.out.1; have:=HJ2.out; omega
     exact ⟨by have:=HJ.out.1; have:=HJ2.out; omega,HJ6.out⟩
    ·have hj1:((j:Int)<L.length)=False:=by simp; omega
     clear hj h1;go_wp2_with fail
     refine Handed.intro (bl.length - (i+1)) ?_ (hJ1 _ _ _ (fun Φ hΦ=>hΦ (i+1) ?_))
     ·have:=HI.out.1; have:=HI.out.2.1; omega
     exact ⟨by have:=HI.out.1; have:=HI.out.2.1; omega,HB5.out.nxt hb⟩
  ·have hi1:((i:Int)<bl.length)=False:=by simp; omega
   clear hi h1;go_wp2_with fail
   refine (HNw.out _ hb).mono ?_;rintro e w1 ⟨v,rfl,hb1,hok,hno⟩;have HB1:=ι (hb.nxt hb1);have HZ:=ι hb.size;clear hb1 HNw hb HAC;by_cases hc:cd=0;rotate_left
   ·have hc1:((cd:Int) !=0)=true:=by simp; exact hc
    clear hok hno hc;go_wp2_with fail
    exact HPn.out _ HB1.out
   subst hc;obtain ⟨lb,g,rfl,hg,hgL⟩:=hok rfl;have HG:=ι (And.intro (hg.base HZ.out) hgL);have HW0:Hid (Led.Wf [Led.newE t set]):=ι (by rw [←hgL]; exact hg.wf);clear hg hgL hok hno;generalize [Led.newE t set]=L0 at *;go_wp2_with fail
   refine wp_loop_ghost_k (fun k a wr=>∀ Φ:Act→Prop,(∀ ⦃s0 s1 s2 s3 s4 s5 s6 s7 s8 s9 a0 a5 a6 a7 a8 a9 b0 b1 b2 b3 b4 b5 b6 b7 b8 b9 c0 c1 c2 c3 c4 c5 c6 c7 c8 c9 d2 d4 d8 d9 e0 e1 e2 e3 e4 e5 e6 e7 e8 e9 f0 f1 f2 f3 f4 f5 f6 f7 f8 f9 g0 g6 g7 g8 g9 h0 h7 h8 h9 i0 i1 i2 i3 i4 i5 i6 i7 i8 j2 j3 j4 j5 j6 j7 j8 j9 k0 k4 k5:Value⦄ (i:Nat) (g:LgM),(i+k=bl.length∧LgAt wr w.heap.size lb g∧g.L=Led.growW L0 ((bl.take i).map BT.p)∧Led.Few g.L (9+16*i)∧Below w.heap.size w wr)→Φ {tmps:=#[s0,s1,s2,s3,s4,s5,s6,s7,s8,s9,a0,.pointer (some ⟨lb,0,none⟩),a5,a6,a7,a8,a9,b0,b1,b2,b3,b4,b5,b6,b7,b8,b9,c0,c1,c2,c3,c4,c5,c6,c7,c8,c9,d2,d4,d8,d9,e0,e1,e2,e3,e4,e5,e6,e7,e8,e9,f0,f1,f2,f3,f4,f5,f6,f7,f8,f9,g0,g6,g7,g8,g9,h0,h7,h8,h9,i0,i1,i2,i3,i4,i5,i6,i7,i8,.slice C bl.length ce,.int .i64 (bl.length:Int),.int .i64 (i:Int),j2,j3,j4,j5,j6,j7,j8,j9,k0,k4,k5],defers:= []})→Φ a) (bl.length) ?_ ?_
   ·refine fun Φ hΦ=>hΦ (0) (g) ?_;exact ⟨by omega,HG.out.1,HG.out.2,by rw [HG.out.2]; exact HF0.out,HB1.out⟩
   ·intro k3 a3 wr3 hI3 J3 K3 hJ3 hK3;refine hI3 (fun a=>Code.wp _ _ _ a _) ?_;clear hI3 a3;iterate 89 (intro _)
    intro i g hrel
    show Code.wp _ _ _ _ _;obtain ⟨h1,hg,hgL,hf,hb⟩:=hrel;by_cases hi:i<bl.length
    ·obtain ⟨ad,off,hC,hbl,hcell⟩:=flat_cells btcell_len (by decide) HBB.out.r hi;subst hC;have r0:wr3.cell? ⟨ad,off+i*2,none⟩=some (.int .i64 bl[i].1):=hcell _ hb 0 _ rfl;have r1:wr3.cell? ⟨ad,off+i*2+1,none⟩=some (.slice bl[i].2.2.1 bl[i].2.1.length bl[i].2.2.2):=hcell _ hb 1 _ rfl;have hi1:(i:Int)<bl.length:=by omega
     have hi0:(0:Int)≤i:=by omega
     have hwi:IntKind.i64.wrap ((i:Int)+1)=(i:Int)+1:=IntWalk.i64_in _ (by have:=HBB.out.n; omega);have HTx:=ι ((HBB.out.next hb).t _ (List.getElem_mem hi));have HNx:Hid (Led.growW L0 ((bl.take (i+1)).map BT.p)=(Led.addW g.L bl[i].p.1 bl[i].p.2).1):=ι (by
      rw [List.take_succ_eq_append_getElem hi,List.map_append,List.map_singleton,Led.growW_snoc,←hgL])
     have HI:=ι (And.intro h1 (And.intro hi (And.intro hf (And.intro hb hg))));obtain ⟨n,hn⟩:=hg.pos;obtain ⟨p,hp⟩:∃ p,g.es[n]'(by omega)=p:=⟨_,rfl⟩
     have HP2:=ι (show g.L.length=n+1∧g.L[n]?=some p.en from ⟨by rw [List.length_map,hn],by rw [List.getElem?_map,List.getElem?_eq_getElem (by omega),hp]; rfl⟩);have hfew:∀ e∈g.L,Trie.count e.st≤900:=fun e he=>by have h5:=hf e he; have h6:=H10.out; omega
     have HAdd:=ι (fun W (hW:Below wr3.heap.size wr3 W)=>led_Add W w.heap.size lb g (hg.next hW) (HTb.out.next (hb.nxt hW)) hfew n hn p hp bl[i].1 bl[i].2.1 bl[i].2.2.1 bl[i].2.2.2 (HTx.out.next hW));clear hfew hp hn hcell hbl h1 hf hg hgL;generalize bl[i]=bk at *;obtain ⟨vw,L,tA,tc⟩:=bk;simp only at r0 r1 HTx HAdd;clear hi;go_upto_region 19 with fail
     have F:=Live.ha (ι (Live.start wr3)) #[vw,.slice tA L.length tc] 142;generalize World.alloc wr3 _=W5 at F ⊢;generalize wr3.heap.size=tb at F ⊢;clear r0 r1;have r1:=(F.out.blk 0 rfl).d0;have r2:=(F.out.blk 0 rfl).d1;have HA5:=ι (HAdd.out _ F.out.b);have HB5:=ι (hb.nxt F.out.b);have HF5:=ι (HI.out.2.2.2.2.next F.out.b);clear HAdd hb F;go_wp2_with fail
     refine HA5.out.mono ?_;rintro e w6 ⟨hd,kA,kc,g',rfl,hg',hfm,_,hy,hn⟩;have HG6:Hid (LgAt w6 w.heap.size lb g'∧g'.L=(Led.addW g.L vw (L.map (·.1))).1∧Below w.heap.size w w6):=ι ⟨hg',add_L HP2.out.1 HP2.out.2 (fun h=>(hy h).1) (fun h=>by rw [(hn h).1]),HB5.out.trans (hfm.below HF5.out.lo (fun k hk=>(HF5.out.own.lt k hk).1) HF5.out.from.1)⟩;clear hg' hfm hy hn HA5 r1 r2;go_wp2_with fail
     refine Handed.intro (bl.length - (i+1)) ?_ (hJ3 _ _ _ (fun Φ hΦ=>hΦ (i+1) (g') ?_))
     ·have:=HI.out.1; have:=HI.out.2.1; omega
     have h5:=Led.addW_few HI.out.2.2.2.2.wf HI.out.2.2.1 (by have:=H10.out; have:=HI.out.2.1; omega) vw (L.map (·.1));exact ⟨by have:=HI.out.1; have:=HI.out.2.1; omega,HG6.out.1,by rw [HG6.out.2.1,HNx.out]; rfl,by rw [HG6.out.2.1]; exact h5.mono (by omega),HG6.out.2.2⟩
    ·have hi1:((i:Int)<bl.length)=False:=by simp; omega
     have HE:=ι (And.intro hg (And.intro hgL hb));have hil:(bl.take i)=bl:=List.take_of_length_le (by omega);have HIL:=ι hil;clear h1 hg hgL hf hb hi hil;go_wp2_with fail
     exact HPo.out lb g _ H10.out (by first|exact trivial|rfl) HE.out.2.2 HE.out.1 (by rw [HE.out.2.1,HIL.out])
end
end Go.Proofs.YtnelhjfjkkdoaaaGreatDoor