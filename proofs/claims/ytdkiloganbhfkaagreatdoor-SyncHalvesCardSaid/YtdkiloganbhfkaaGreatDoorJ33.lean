import Derived.Test.YtdkiloganbhfkaaGreatDoorJ32
set_option linter.unusedSimpArgs false
set_option linter.unusedVariables false
set_option maxHeartbeats 4000000
set_option maxRecDepth 100000
namespace Go.Proofs.YtdkiloganbhfkaaGreatDoor
section
open Go.RowKit Go.Instr
attribute [local go_sem] ba_get ByteArray.mk_append_mk run_makeMap_plain
attribute [local go_sem ↓] Go.wp_at_zero Go.wp_at_succ
def lookN (D:List (List UInt8 × Value)) (k:List UInt8):Value:=match D with
 | []=> .int .i64 0
 |x::r=>if k=x.1 then x.2 else lookN r k
theorem lookN_assoc (k:List UInt8):∀ (D:List (List UInt8 × Value)) (i:Nat),((assoc k D i).map (·.2)).getD (.int .i64 0)=lookN D k
 | [],i=>rfl
 |x::r,i=>by
  unfold assoc lookN;by_cases h:k=x.1
  ·rw [if_pos h,if_pos h]; rfl
  ·rw [if_neg h,if_neg h]; exact lookN_assoc k r (i+1)
theorem lookN_aput (k:List UInt8) (v:Value) (q:List UInt8):∀ (D:List (List UInt8 × Value)),lookN (aput k v D) q=if q=k then v else lookN D q
 | []=>by simp [aput,lookN]
 |x::r=>by
  unfold aput;by_cases h:k=x.1
  ·rw [if_pos h];unfold lookN;by_cases hq:q=k
   ·rw [if_pos hq,if_pos hq]
   ·rw [if_neg hq,if_neg hq,if_neg (by rw [←h]; exact hq)]
  ·rw [if_neg h];unfold lookN;by_cases hq:q=x.1
   ·rw [if_pos hq,if_neg (by rw [hq]; exact fun e=>h e.symm),if_pos hq]
   ·rw [if_neg hq,if_neg hq,lookN_aput k v q r]
theorem lookN_run {w:World} {mb:Nat} {D:List (List UInt8 × Value)} (hm:MapIs w ss mb D) (k:List UInt8):(lookup 118 (.map (some mb)) (.string ⟨k.toArray⟩) false).run Tryz.prog w= .ok (lookN D k) w:=by
 have:=hm.look ss_type 118 _ Tryz.underlying118 _ (Tryz.zeroValue3 w) k false
 rw [show (Value.string ⟨k.toArray⟩)=ss k from rfl,this];have h2:=lookN_assoc k D 0;cases ha:assoc k D 0 with
 |none=>
  rw [ha] at h2;simp only [Option.map_none,Option.getD_none] at h2;rw [←h2];simp
 |some r=>
  rw [ha] at h2;simp only [Option.map_some,Option.getD_some] at h2;rw [←h2];simp
def CountIs (D:List (List UInt8 × Value)) (l:List (List UInt8)):Prop:=∀ k,∃ n:Nat,lookN D k= .int .i64 (n:Int)∧n≤l.length∧(0<n↔k∈l)
theorem CountIs.put {D:List (List UInt8 × Value)} {l:List (List UInt8)} (h:CountIs D l) (s:List UInt8) (n:Nat) (hn:lookN D s= .int .i64 (n:Int)):CountIs (aput s (.int .i64 ((n:Int)+1)) D) (l++ [s]):=fun k=>by
 rw [lookN_aput];by_cases hk:k=s
 ·subst hk;obtain ⟨m,h1,h2,_⟩:=h k;rw [hn] at h1;have e:n=m:=by injection h1 with _ h1; omega
  subst e;exact ⟨n+1,by simp,by simp; omega,by simp⟩
 ·rw [if_neg hk];obtain ⟨m,h1,h2,h3⟩:=h k;exact ⟨m,h1,by simp; omega,by simp [h3,hk]⟩
theorem power_Of (w:World) (l:List Pw.Mem) (hs:∀ x∈l,x.1.length≤9223372036854775807) (A:Option Addr) (c:Nat) (HR:Reads w w.heap.size 2 A l.length (mcells l)) (ns:List (List UInt8)) (hn:ns.length<9223372036854775807) (B:Option Addr) (d:Nat) (HN:Reads w w.heap.size 1 B ns.length (strv ns)):
  Calls Tryz.prog 23 #[.slice A l.length c,.slice B ns.length d] w (Ret w (.int .i64 (Ac.ofM l ns))):=by
 have HP:Hid (∀ x w',Ac.ofM l ns=x→Below w.heap.size w w'→Ret w (.int .i64 (Ac.ofM l ns)) (.returned (.int .i64 x)) w'):=ι (fun x w' h hb=>by rw [h]; exact ⟨rfl,hb⟩);have HC:=ι (power_Check w l hs A c HR);have HX:Hid (Ac.ofM l ns=if Pw.okM l then Pw.sumM (l.filter fun m=>decide (m.1∈ns)) else 0):=ι rfl;generalize Ret w (.int .i64 (Ac.ofM l ns))=P at HP ⊢;generalize Ac.ofM l ns=X at HP HX;have HLL:=ι HR;have HNN:=ι (And.intro HN hn);clear HR hs HN hn;go_enter Tryz.func23,Tryz.ntmps23
 go_wp2_with fail
 refine HC.out.mono ?_;rintro e w1 ⟨rfl,hb⟩;have F1:=Live.hb (ι (Live.start w)) hb;clear hb HC;cases hok:Pw.okM l with
 |false=>
  simp only [codeM,Bool.false_eq_true,if_false];rw [hok] at HX;have HE:=ι HX.out;clear HX hok;go_wp2_with fail
  exact HP.out 0 _ (by rw [HE.out]; rfl) F1.out.b
 |true=>
  simp only [codeM,if_true];have HE:Hid (X=Pw.sumM (l.filter fun m=>decide (m.1∈ns))):=ι (by rw [HX.out,hok]; rfl);have HL:=ι (Pw.okM_len hok);have HA:=ι (fun m hm=>(Pw.okM_all hok m hm).2.2);clear HX hok;have HM0:Hid (MapIs (w1.alloc (.map #[] 0)) ss w1.heap.size []):=ι (MapIs.made w1 0);have HB0:Hid (Below w.heap.size w (w1.alloc (.map #[] 0))):=ι (F1.out.b.alloc F1.out.b.size _);go_upto_region 4 with fail
  generalize w1.alloc (.map #[] 0)=w2 at HM0 HB0 ⊢;have HSz:Hid (w.heap.size≤w1.heap.size):=ι F1.out.b.size;generalize w1.heap.size=mb at HM0 HSz ⊢;go_wp2_with fail
  refine wp_loop_ghost_k (fun k a wr=>∀ Φ:Act→Prop,(∀ ⦃s2 s3 s6 s7 s8 s9 a0 a3 a4 a5 a6 b0 b1 b2 b3 b4 b5 b6 b7 b8 b9 c0 c1 c2 c3 c4 c5 c6 c7 c8 c9 d2 d3 d4 d5 d6:Value⦄ (i:Nat) (D:List (List UInt8 × Value)),(i+k=ns.length∧CountIs D (ns.take i)∧MapIs wr ss mb D∧Below w.heap.size w wr)→Φ {tmps:=#[.slice A l.length c,.slice B ns.length d,s2,s3,.int .i64 0,.map (some mb),s6,s7,s8,s9,a0,a3,a4,a5,a6,.slice B ns.length d,.int .i64 (ns.length:Int),.int .i64 (i:Int),b0,b1,b2,b3,b4,b5,b6,b7,b8,b9,c0,c1,c2,c3,c4,c5,c6,c7,c8,c9,d2,d3,d4,d5,d6],defers:= []})→Φ a) (ns.length) ?_ ?_
  ·refine fun Φ hΦ=>hΦ (0) ([]) ?_;exact ⟨by omega,fun k=>⟨0,rfl,Nat.le_refl _,by simp⟩,HM0.out,HB0.out⟩
  ·intro k1 a1 wr1 hI1 J1 K1 hJ1 hK1;refine hI1 (fun a=>Code.wp _ _ _ a _) ?_;clear hI1 a1;intro s0 s1 s2 s3 s4 s5 s6 s7 s8 s9 a0 a3 a4 a5 a6 a7 a8 a9 b0 b1 b2 b3 b4 b5 b6 b7 b8 b9 c0 c1 c2 c3 c4 c5 c6 c7 i D hrel
   show Code.wp _ _ _ _ _;obtain ⟨h1,h2,h3,hb⟩:=hrel;by_cases hi:i<ns.length
   ·obtain ⟨ad,off,hA,hbl,hcell⟩:=str_at HNN.out.1 hi;subst hA;have r0:=hcell _ hb;have hi1:(i:Int)<ns.length:=by omega
    have hi0:(0:Int)≤i:=by omega
    have hwi:IntKind.i64.wrap ((i:Int)+1)=(i:Int)+1:=IntWalk.i64_in _ (by have:=HNN.out.2; omega);obtain ⟨n,n1,n2,n3⟩:=h2 ns[i];have hlt:(ns.take i).length=i:=by rw [List.length_take]; omega
    rw [hlt] at n2;have hwn:IntKind.i64.wrap ((n:Int)+1)=(n:Int)+1:=IntWalk.i64_in _ (by have:=HNN.out.2; omega);have HCt:Hid (CountIs (aput ns[i] (.int .i64 ((n:Int)+1)) D) (ns.take (i+1))):=ι (by
     rw [List.take_succ_eq_append_getElem hi];exact h2.put _ _ n1)
    have HI:=ι (And.intro h1 hi);have HMD:=ι h3;have HB:=ι hb;clear h1 h2 h3 hb hcell hbl n2 n3 hlt;generalize ns[i]=s at *;have hlk:=lookN_run HMD.out s;rw [n1] at hlk;clear hi n1;go_wp2_with (at_mapUpdate; refine wpList_mapUpdate_is _ rfl _ _ _ 118 rfl ss_type _ Tryz.underlying118 mb D HMD.out s (.int .i64 ((n:Int)+1)) rfl rfl rfl ?_; intro w3 hm2 hg2 hs2; have H2:=ι (And.intro hm2 (And.intro hg2 hs2)); clear hm2 hg2 hs2 hlk)
    refine Handed.intro (ns.length - (i+1)) ?_ (hJ1 _ _ _ (fun Φ hΦ=>hΦ (i+1) (aput s (.int .i64 ((n:Int)+1)) D) ?_))
    ·have:=HI.out; omega
    ·exact ⟨by have:=HI.out; omega,HCt.out,H2.out.1,HB.out.grown H2.out.2.1 HB.out.size (fun k e=>by injection e with e; have:=HSz.out; omega)⟩
   ·have hi1:((i:Int)<ns.length)=False:=by simp; omega
    have HCt:Hid (CountIs D ns):=ι (by rw [List.take_of_length_le (by omega)] at h2; exact h2);have HMD:=ι h3;have F3:Hid (Live w wr1 []):=ι ⟨hb,by simp,List.Pairwise.nil⟩;clear h1 h2 h3 hb hi;go_wp2_with fail
    refine wp_loop_ghost_k (fun k a wr=>∀ Φ:Act→Prop,(∀ ⦃s2 s3 s6 s7 s9 a0 a3 a4 a5 a6 a7 a8 a9 b0 b1 b2 b3 b4 b5 b6 b7 c1 c2 c3 c4 c5 c6 c7 c8 c9 d2 d3 d4 d5 d6:Value⦄ (j:Nat) (s:Int),(j+k=l.length∧s=Pw.sumM ((l.take j).filter fun m=>decide (m.1∈ns))∧MapIs wr ss mb D∧Live w wr [])→Φ {tmps:=#[.slice A l.length c,.slice B ns.length d,s2,s3,.int .i64 0,.map (some mb),s6,s7,.int .i64 s,s9,a0,a3,a4,a5,a6,a7,a8,a9,b0,b1,b2,b3,b4,b5,b6,b7,.slice A l.length c,.int .i64 (l.length:Int),.int .i64 (j:Int),c1,c2,c3,c4,c5,c6,c7,c8,c9,d2,d3,d4,d5,d6],defers:= []})→Φ a) (l.length) ?_ ?_
    ·refine fun Φ hΦ=>hΦ (0) (0) ?_;exact ⟨by omega,rfl,HMD.out,F3.out⟩
    ·intro k2 a2 wr2 hI2 J2 K2 hJ2 hK2;refine hI2 (fun a=>Code.wp _ _ _ a _) ?_;clear hI2 a2;iterate 35 (intro _)
     intro j s hrel
     show Code.wp _ _ _ _ _;obtain ⟨h1,h2,h3,hF⟩:=hrel;have F:=ι hF;by_cases hj:j<l.length
     ·obtain ⟨ad,off,hA,hbl,hcell⟩:=mem_cells HLL.out hj;subst hA;obtain ⟨r0,r1⟩:=hcell _ F.out.b;have hj1:(j:Int)<l.length:=by omega
      have hj0:(0:Int)≤j:=by omega
      have hmm:=HA.out _ (List.getElem_mem hj);have hb:=Ac.sumM_filter_le (l.take j) (fun m=>decide (m.1∈ns)) (fun m hm=>(HA.out m (List.mem_of_mem_take hm)).1);have hb2:=Pw.sumM_bound (l.take j) (fun m hm=>HA.out m (List.mem_of_mem_take hm));have hlt:(l.take j).length=j:=by rw [List.length_take]; omega
      have HS1:Hid ((if l[j].1∈ns then s+l[j].2 else s)=Pw.sumM ((l.take (j+1)).filter fun m=>decide (m.1∈ns))):=ι (by
       rw [List.take_succ_eq_append_getElem hj,List.filter_append,h2];by_cases hin:l[j].1∈ns
       ·rw [if_pos hin,List.filter_cons_of_pos (by simpa using hin),List.filter_nil,Pw.sumM_snoc]
       ·rw [if_neg hin,List.filter_cons_of_neg (by simpa using hin),List.filter_nil,List.append_nil])
      rw [hlt] at hb2;rw [←h2] at hb;have h7:=HL.out;have hwi:IntKind.i64.wrap ((j:Int)+1)=(j:Int)+1:=IntWalk.i64_in _ (by omega);have hws:IntKind.i64.wrap (s+l[j].2)=s+l[j].2:=IntWalk.i64_in _ (by omega);have HI:=ι (And.intro h1 hj);have HMD:=ι h3;clear h1 h2 h3 hF hcell hbl hmm hb hb2 hlt h7;generalize l[j]=m at *;clear hj;obtain ⟨nm,pw⟩:=m;simp only at r0 r1 hws HS1;obtain ⟨n,n1,_,n3⟩:=HCt.out nm;have F2:=Live.ha F #[nm,pw] 94;have HM2:=map_keep HMD ((Below.refl _ wr2).alloc (Nat.le_refl _) (.cells #[nm,pw] 94));go_upto_region 13 with fail
      generalize World.alloc wr2 _=W1 at F2 HM2 ⊢;generalize wr2.heap.size=bm at F2 ⊢;clear r0 r1;have k0:=(F2.out.blk 0 rfl).d0;have k1:=(F2.out.blk 0 rfl).d1;have hlk:=lookN_run HM2.out nm;rw [n1] at hlk;by_cases hin:nm∈ns
      ·have hn0:(0:Int)<n:=by have:=n3.2 hin; omega
       rw [if_pos hin] at HS1;clear n3 n1 hin;go_wp2_with fail
       refine Handed.intro (l.length - (j+1)) ?_ (hJ2 _ _ _ (fun Φ hΦ=>hΦ (j+1) (s+pw) ?_))
       ·have:=HI.out; omega
       ·exact ⟨by have:=HI.out; omega,HS1.out,HM2.out,F2.out.b,by simp,List.Pairwise.nil⟩
      ·have hz:n=0:=by
        have:¬0<n:=fun h=>hin (n3.1 h)
        omega
       subst hz;rw [if_neg hin] at HS1;clear n3 hin;go_wp2_with fail
       refine Handed.intro (l.length - (j+1)) ?_ (hJ2 _ _ _ (fun Φ hΦ=>hΦ (j+1) (s) ?_))
       ·have:=HI.out; omega
       ·exact ⟨by have:=HI.out; omega,HS1.out,HM2.out,F2.out.b,by simp,List.Pairwise.nil⟩
     ·have hj1:((j:Int)<l.length)=False:=by simp; omega
      have HF:Hid (X=s):=ι (by rw [HE.out,h2,List.take_of_length_le (by omega)]);clear h1 h2 h3 hF hj;go_wp2_with fail
      exact HP.out s _ HF.out F.out.b
end
section
open Go.RowKit Go.Instr
attribute [local go_sem] ba_get ByteArray.mk_append_mk
attribute [local go_sem ↓] Go.wp_at_zero Go.wp_at_succ
theorem Live.tl {w W:World} {x:Nat × Nat × Array Value} {L:List (Nat × Nat × Array Value)} (h:Hid (Live w W (x::L))):Hid (Live w W L):=
 ι ⟨h.out.b,fun y hy=>h.out.l y (List.mem_cons_of_mem _ hy),(List.pairwise_cons.1 h.out.d).2⟩
theorem any_take {α:Type} {p:α→Bool} {l:List α} {i:Nat} (hi:i<l.length) (h:p l[i]=true):l.any p=true:=List.any_eq_true.2 ⟨_,List.getElem_mem hi,h⟩
theorem cert_Check6 (w:World) (l:List Pw.Mem) (hs:∀ x∈l,x.1.length≤9223372036854775807) (A:Option Addr) (c:Nat) (HR:Reads w w.heap.size 2 A l.length (mcells l)) (d:List UInt8) (hd:d.length≤9223372036854775807) (sg:List (List UInt8)) (hg:∀ x∈sg,x.length≤9223372036854775807) (hn:sg.length≤9223372036854775807) (B:Option Addr) (e:Nat) (HN:Reads w w.heap.size 1 B sg.length (strv sg))
  (mb:Nat) (v:Value) (tab:List Sg) (hT:Tab w mb v tab) (hTb:Tbl w):
  Calls Tryz.prog 84 #[.int .i64 6,.slice A l.length c,.agg #[d,.slice B sg.length e],.pointer (some ⟨mb+1,0,none⟩)] w (Ret w (.int .i64 (Ac.certC l d sg tab:Int))):=by
 have HP:Hid (∀ (x:Nat) w',Ac.certC l d sg tab=x→Below w.heap.size w w'→Ret w (.int .i64 (Ac.certC l d sg tab:Int)) (.returned (.int .i64 (x:Int))) w'):=ι (fun x w' h hb=>by rw [h]; exact ⟨rfl,hb⟩);have HX:Hid (Ac.certC l d sg tab=if Pw.okM l=false then 50 else if Ce.mayC d sg=false then 3 else if sg.any (fun s=>decide (Ac.ofM l [s]=0)) then 5
  else if sg.any (fun s=> !(atRow (s,Led.mkW d) tab).isSome) then 70 else if Ac.ofM l sg<Pw.quoM l then 71 else 0):=ι rfl
 generalize Ret w (.int .i64 (Ac.certC l d sg tab:Int))=P at HP ⊢;generalize Ac.certC l d sg tab=X at HP HX;have HMy:=ι (fun W (hW:Below w.heap.size w W)=>cert_may W d hd sg hg hn B e ((HN.below hW).more hW.size));have HFi:=ι (fun W (hW:Below w.heap.size w W) ok=>cert_first6 W l hs A c ((HR.below hW).more hW.size) ok);have HOf:=ι (fun W (hW:Below w.heap.size w W) ns (hk:ns.length<9223372036854775807) B d h=>power_Of W l hs A c ((HR.below hW).more hW.size) ns hk B d h);have HQu:=ι (fun W (hW:Below w.heap.size w W)=>power_Quorum W l hs A c ((HR.below hW).more hW.size));have HMk:=ι (fun W (hW:Below w.heap.size w W)=>cert_Mark6 W d hd (hTb.next hW));have HSg:=ι (fun W (hW:Below w.heap.size w W) s m=>orc_Signed W mb v tab (hT.below hW) s m);have HNN:=ι HN;generalize hmk:Led.mkW d=mk at *;have hmk2:d.length=32→Led.markW d=mk:=fun h=>by rw [←hmk]; unfold Led.mkW; rw [if_pos h]
 clear hs HR hd hg hn HN hT hTb hmk;go_enter Tryz.func84,Tryz.ntmps84
 go_upto_region 1 with fail
 have F0:=Live.ha (ι (Live.start w)) #[d,.slice B sg.length e] 56;generalize World.alloc w _=w0 at F0 ⊢;generalize w.heap.size=bb at F0 ⊢;have k0:=(F0.out.blk 0 rfl).d0;have k1:=(F0.out.blk 0 rfl).d1;go_wp2_with fail
 refine (HMy.out _ F0.out.b).mono ?_;rintro e1 w1 ⟨rfl,hb⟩;have F1:=Live.hb F0 hb;clear hb k0 k1 F0 HMy;generalize hmy:Ce.mayC d sg=my at *;go_wp2_with fail
 refine (HFi.out _ F1.out.b my).mono ?_;rintro e2 w2 ⟨rfl,hb⟩;have F2:=Live.hb F1 hb;clear hb F1 HFi;cases hok:Pw.okM l with
 |false=>
  simp only [Bool.false_eq_true,if_false];rw [hok] at HX;have HE:=ι (HX.out.trans (if_pos rfl));clear HX hok hmk2 hmy;go_wp2_with fail
  exact HP.out 50 _ HE.out F2.out.b
 |true=>
 rw [hok] at HX;cases my with
 |false=>
  simp only [Bool.false_eq_true,if_false,if_true];have HE:=ι ((HX.out.trans (if_neg (by decide))).trans (if_pos rfl));clear HX hok hmk2 hmy;go_wp2_with fail
  exact HP.out 3 _ HE.out F2.out.b
 |true=>
 simp only [if_true];have HX2:=ι ((HX.out.trans (if_neg (by decide))).trans (if_neg (by decide)));have h32:d.length=32∧sg.length≤7:=by
  unfold Ce.mayC at hmy;simp only [Bool.and_eq_true,decide_eq_true_eq] at hmy;exact hmy.1
 have HL:=ι h32;have HMK:=ι (hmk2 h32.1);clear HX hok hmk2 hmy h32;have k1:=(F2.out.blk 0 rfl).d1;go_wp2_with fail
 refine wp_loop_ghost_k (fun k a wr=>∀ Φ:Act→Prop,(∀ ⦃s2 s4 s5 s7 a0 a3 a4 a5 a6 a7 a8 a9 b0 b1 b2 b3 b4 b5 b6 b7 c1 c2 c3 c4 c5 c6 c7 c8 c9 d2 d3 d4 d5 d6 d7 d8 d9 e0 e4 e5 e6 e7 e8 e9 f0 f1 f2 f3 f4 f5 f6 f7 f8 f9 g0 g1 g2:Value⦄ (i:Nat),(i+k=sg.length∧(∀ s∈sg.take i,Ac.ofM l [s]≠0)∧Live w wr [(bb,56,#[d,.slice B sg.length e])])→Φ {tmps:=#[.int .i64 6,.slice A l.length c,s2,.pointer (some ⟨mb+1,0,none⟩),s4,s5,.pointer (some ⟨bb,0,none⟩),s7,.int .i64 0,.int .i64 0,a0,a3,a4,a5,a6,a7,a8,a9,b0,b1,b2,b3,b4,b5,b6,b7,.slice B sg.length e,.int .i64 (sg.length:Int),.int .i64 (i:Int),c1,c2,c3,c4,c5,c6,c7,c8,c9,d2,d3,d4,d5,d6,d7,d8,d9,e0,e4,e5,e6,e7,e8,e9,f0,f1,f2,f3,f4,f5,f6,f7,f8,f9,g0,g1,g2],defers:= []})→Φ a) (sg.length) ?_ ?_
 ·refine fun Φ hΦ=>hΦ (0) ?_;exact ⟨by omega,by simp,F2.out⟩
 ·intro k1 a1 wr1 hI1 J1 K1 hJ1 hK1;refine hI1 (fun a=>Code.wp _ _ _ a _) ?_;clear hI1 a1;intro s0 s1 s2 s3 s4 s5 s6 s7 s8 s9 a0 a3 a4 a5 a6 a7 a8 a9 b0 b1 b2 b3 b4 b5 b6 b7 b8 b9 c0 c1 c2 c3 c4 c5 c6 c7 c8 c9 d2 d3 d4 d5 d6 d7 d8 d9 e0 e4 e5 e6 e7 e8 e9 f0 f1 f2 f3 i hrel
  show Code.wp _ _ _ _ _;obtain ⟨h1,h2,hF⟩:=hrel;have F:=ι hF;by_cases hi:i<sg.length
  ·obtain ⟨ad,off,hA,hbl,hcell⟩:=str_at HNN.out hi;subst hA;have r0:=hcell _ F.out.b;have hi1:(i:Int)<sg.length:=by omega
   have hi0:(0:Int)≤i:=by omega
   have hwi:IntKind.i64.wrap ((i:Int)+1)=(i:Int)+1:=IntWalk.i64_in _ (by have:=HL.out; omega);have HYes:Hid (Ac.ofM l [sg[i]]=0→X=5):=ι (fun h=>by
    rw [HX2.out,if_pos (any_take hi (by simpa using h))])
   have HNo:Hid (Ac.ofM l [sg[i]]≠0→∀ s∈sg.take (i+1),Ac.ofM l [s]≠0):=ι (fun h s hs=>by
    rw [List.take_succ_eq_append_getElem hi,List.mem_append,List.mem_singleton] at hs;rcases hs with hs|rfl
    ·exact h2 s hs
    ·exact h)
   have HI:=ι (And.intro h1 hi);clear h1 h2 hF hcell hbl;generalize sg[i]=s at *;clear hi;have F3:=Live.ha F #[s] 9;have HCa:=ι (HOf.out _ F3.out.b [s] (by simp) _ 1 (reads_of_blk (n:=1) (size:=1) (xs:=strv [s]) (F3.out.blk 0 rfl) rfl));generalize Ac.ofM l [s]=o at *;go_wp2_with fail
   refine HCa.out.mono ?_;rintro e3 w3 ⟨rfl,hb⟩;have F4:=Live.hb F3 hb;clear hb F3 HCa r0;by_cases ho:o=0
   ·have ho1:(o==0)=true:=by simp [ho]
    have HE:=ι (HYes.out ho);clear HYes HNo;go_wp2_with fail
    exact HP.out 5 _ HE.out F4.out.b
   ·have ho1:(o==0)=false:=by simp [ho]
    have HE:=ι (HNo.out ho);clear HYes HNo;go_wp2_with fail
    refine Handed.intro (sg.length - (i+1)) ?_ (hJ1 _ _ _ (fun Φ hΦ=>hΦ (i+1) ?_))
    ·have:=HI.out; omega
    ·exact ⟨by have:=HI.out; omega,HE.out,(Live.tl F4).out⟩
  ·have hi1:((i:Int)<sg.length)=False:=by simp; omega
   have HX3:Hid (X=if sg.any (fun s=> !(atRow (s,mk) tab).isSome) then 70 else if Ac.ofM l sg<Pw.quoM l then 71 else 0):=ι (by
    rw [HX2.out,if_neg];rw [List.take_of_length_le (by omega)] at h2;intro hc;obtain ⟨s,hs,hx⟩:=List.any_eq_true.1 hc;exact h2 s hs (of_decide_eq_true hx))
   clear h1 h2 hF hi;have k0:=(F.out.blk 0 rfl).d0;have HM1:=ι (HMk.out _ F.out.b);rw [if_pos HL.out.1,if_pos HL.out.1,HMK.out] at HM1;go_wp2_with fail
   refine HM1.out.mono ?_;rintro e3 w3 ⟨rfl,hb⟩;have F3:=Live.hb F hb;clear hb HM1 k0 F;have k1:=(F3.out.blk 0 rfl).d1;go_wp2_with fail
   refine wp_loop_ghost_k (fun k a wr=>∀ Φ:Act→Prop,(∀ ⦃s2 s4 s5 s7 a0 a3 a5 a7 a8 a9 b0 b1 b2 b3 b4 b5 b6 b7 b8 b9 c0 c1 c2 c3 c4 c5 c6 c7 c8 c9 d2 d3 d4 d5 d6 d7 d8 d9 e6 e7 e8 e9 f0 f1 f2 f3 f4 f5 f6 f7 f8 f9 g0 g1 g2:Value⦄ (j:Nat),(j+k=sg.length∧(∀ s∈sg.take j,(atRow (s,mk) tab).isSome=true)∧Live w wr [(bb,56,#[d,.slice B sg.length e])])→Φ {tmps:=#[.int .i64 6,.slice A l.length c,s2,.pointer (some ⟨mb+1,0,none⟩),s4,s5,.pointer (some ⟨bb,0,none⟩),s7,.int .i64 0,.int .i64 0,a0,a3,.string ⟨mk.toArray⟩,a5,.func (.func 118) #[] #[],a7,a8,a9,b0,b1,b2,b3,b4,b5,b6,b7,b8,b9,c0,c1,c2,c3,c4,c5,c6,c7,c8,c9,d2,d3,d4,d5,d6,d7,d8,d9,.slice B sg.length e,.int .i64 (sg.length:Int),.int .i64 (j:Int),e6,e7,e8,e9,f0,f1,f2,f3,f4,f5,f6,f7,f8,f9,g0,g1,g2],defers:= []})→Φ a) (sg.length) ?_ ?_
   ·refine fun Φ hΦ=>hΦ (0) ?_;exact ⟨by omega,by simp,F3.out⟩
   ·intro k2 a2 wr2 hI2 J2 K2 hJ2 hK2;refine hI2 (fun a=>Code.wp _ _ _ a _) ?_;clear hI2 a2;iterate 55 (intro _)
    intro j hrel
    show Code.wp _ _ _ _ _;obtain ⟨h1,h2,hF⟩:=hrel;have F:=ι hF;by_cases hj:j<sg.length
    ·obtain ⟨ad,off,hA,hbl,hcell⟩:=str_at HNN.out hj;subst hA;have r0:=hcell _ F.out.b;have hj1:(j:Int)<sg.length:=by omega
     have hj0:(0:Int)≤j:=by omega
     have hwi:IntKind.i64.wrap ((j:Int)+1)=(j:Int)+1:=IntWalk.i64_in _ (by have:=HL.out; omega);have HYes:Hid ((atRow (sg[j],mk) tab).isSome=false→X=70):=ι (fun h=>by
      rw [HX3.out,if_pos (any_take hj (by simpa using h))])
     have HNo:Hid ((atRow (sg[j],mk) tab).isSome=true→∀ s∈sg.take (j+1),(atRow (s,mk) tab).isSome=true):=ι (fun h s hs=>by
      rw [List.take_succ_eq_append_getElem hj,List.mem_append,List.mem_singleton] at hs;rcases hs with hs|rfl
      ·exact h2 s hs
      ·exact h)
     have HI:=ι (And.intro h1 hj);clear h1 h2 hF hcell hbl;generalize sg[j]=s at *;clear hj;have HCa:=ι (HSg.out _ F.out.b s mk);cases ho:(atRow (s,mk) tab).isSome with
     |false=>
      rw [ho] at HCa;have HE:=ι (HYes.out ho);clear HYes HNo ho;go_wp2_with fail
      refine HCa.out.mono ?_;rintro e3 w4 ⟨rfl,hb⟩;have F4:=Live.hb F hb;clear hb HCa r0;go_wp2_with fail
      exact HP.out 70 _ HE.out F4.out.b
     |true=>
      rw [ho] at HCa;have HE:=ι (HNo.out ho);clear HYes HNo ho;go_wp2_with fail
      refine HCa.out.mono ?_;rintro e3 w4 ⟨rfl,hb⟩;have F4:=Live.hb F hb;clear hb HCa r0;go_wp2_with fail
      refine Handed.intro (sg.length - (j+1)) ?_ (hJ2 _ _ _ (fun Φ hΦ=>hΦ (j+1) ?_))
      ·have:=HI.out; omega
      ·exact ⟨by have:=HI.out; omega,HE.out,F4.out⟩
    ·have hj1:((j:Int)<sg.length)=False:=by simp; omega
     have HX4:Hid (X=if Ac.ofM l sg<Pw.quoM l then 71 else 0):=ι (by
      rw [HX3.out,if_neg];rw [List.take_of_length_le (by omega)] at h2;intro hc;obtain ⟨s,hs,hx⟩:=List.any_eq_true.1 hc;rw [h2 s hs] at hx;cases hx)
     clear h1 h2 hF hj;have k1:=(F.out.blk 0 rfl).d1;have HCa:=ι (HOf.out _ F.out.b sg (by have:=HL.out; omega) B e ((HNN.out.below F.out.b).more F.out.b.size));generalize Ac.ofM l sg=o at *;go_wp2_with fail
     refine HCa.out.mono ?_;rintro e3 w4 ⟨rfl,hb⟩;have F4:=Live.hb F hb;clear hb HCa k1;have HCq:=ι (HQu.out _ F4.out.b);generalize Pw.quoM l=q at *;go_wp2_with fail
     refine HCq.out.mono ?_;rintro e3 w5 ⟨rfl,hb⟩;have F5:=Live.hb F4 hb;clear hb HCq;by_cases ho:o<q
     ·have ho1:(o<q)=True:=by simp; omega
      have HE:=ι (HX4.out.trans (if_pos ho));clear ho;go_wp2_with fail
      exact HP.out 71 _ HE.out F5.out.b
     ·have ho1:(o<q)=False:=by simp; omega
      have HE:=ι (HX4.out.trans (if_neg ho));clear ho;go_wp2_with fail
      exact HP.out 0 _ HE.out F5.out.b
theorem z_22 {P:Prop} (h:P:=by
 obtain ⟨h1,h2,hF⟩:=hrel;have F:=ι hF;by_cases hi:i<hs.length
 ·obtain ⟨ad,off,hA',hbl,hcell_⟩:=flat_cells hcell_len (by decide) HHs.out.1 hi;subst hA';have RG0:wr1.rangeAt ad (off+i*11) (hcell hs[i]):=fun q v hv=>hcell_ _ F.out.b q v hv;obtain ⟨o1,o2⟩:=HHs.out.2.1 _ (List.getElem_mem hi);have hi1:(i:Int)<hs.length:=by omega
  have hi0:(0:Int)≤i:=by omega
  have hwi:IntKind.i64.wrap ((i:Int)+1)=(i:Int)+1:=IntWalk.i64_in _ (by have:=HHs.out.2.2; omega);have HYes:Hid (Hd.ok hs[i].1=false→X=false):=ι (fun h=>by
   rw [HX2.out,List.all_eq_false];exact ⟨_,List.getElem_mem hi,by rw [h]; decide⟩)
  have HNo:Hid (Hd.ok hs[i].1=true→∀ y∈hs.take (i+1),Hd.ok y.1=true):=ι (fun h y hy=>by
   rw [List.take_succ_eq_append_getElem hi,List.mem_append,List.mem_singleton] at hy;rcases hy with hy|rfl
   ·exact h2 y hy
   ·exact h)
  have HI:=ι (And.intro h1 hi);have HCk:=ι (fun W (hW:Below w.heap.size w W)=>hd_Check W hs[i].1 o1 hs[i].2.1 hs[i].2.2 ((o2.below hW).more hW.size));clear h1 h2 hF hcell_ hbl o1 o2;generalize hs[i]=y at *;clear hi;generalize Hd.ok y.1=ok at *;have HPL:Hid ((hcell y).toArray=#[.int .i64 y.1.hgt,.int .i64 y.1.epo,.int .i64 y.1.vw,.bool y.1.last,.string ⟨y.1.par.toArray⟩,.string ⟨y.1.st.toArray⟩,.string ⟨y.1.rc.toArray⟩,.string ⟨y.1.tx.toArray⟩,.string ⟨y.1.mem.toArray⟩,.string ⟨y.1.nxt.toArray⟩,.slice y.2.1 y.1.sk.length y.2.2]):=ι rfl;have HPO:Hid ((hcell y).toArray.all (·.oneCell')=true):=ι (all_oneCell_toArray (hcell_one y));have HPZ:Hid ((hcell y).toArray.size=11):=ι rfl;have SZH:Hid ((Tryz.prog.info? 41).map (·.size)=some 11):=ι (by kernel_rfl);have SZL:(Tryz.prog.info? 41).map (·.size)=some (hcell y).length:=SZH.out;have SZP:(Tryz.prog.info? 41).map (·.size)=some (hcell y).toArray.size:=SZH.out;rw [←HPL.out] at HCk;have F0a:=Live.ha F (θ [ν]) 41;have TH0:(wr1.alloc (.cells (θ [ν]) 41)).there wr1.heap.size 0 11:=F0a.out.there 0 11 rfl (by decide);have THP:(wr1.alloc (.cells (θ [ν]) 41)).there wr1.heap.size 0 (hcell y).toArray.size:=by rw [HPZ.out]; exact TH0
  have ONP:=HPO.out;generalize hcell y=pl at *;go_upto_region 9 with (first|((with_reducible refine at_load 81 ?_); refine wpList_load_mid rfl 41 _ rfl ad (off+i*11) rfl pl _ RG0 Tryz.underlying41 rfl SZL ?_)|((with_reducible refine at_store 81 ?_); refine wpList_store_mid rfl 41 _ _ rfl wr1.heap.size 0 pl.toArray rfl rfl THP SZP ONP ?_))
  have F8:Hid (Live w ((wr1.alloc (.cells (θ [ν]) 41)).setCells wr1.heap.size 0 pl.toArray.toList) [(wr1.heap.size,41,pl.toArray.toList.toArray)]):=Live.hall F0a 0 _ rfl (by have:=HPZ.out; simpa using this.symm);simp only at F8 ⊢;generalize World.setCells _ wr1.heap.size 0 pl=W1 at F8 ⊢;generalize wr1.heap.size=fb at F8 ⊢;have RG2:W1.rangeAt fb 0 pl:=range_of_blk (F8.out.blk 0 rfl);clear TH0 THP SZP ONP RG0 F0a F;go_wp2_with (((with_reducible refine at_load 82 ?_); refine wpList_load_mid rfl 41 _ rfl fb 0 rfl pl _ RG2 Tryz.underlying41 rfl SZL ?_))
  refine (HCk.out _ F8.out.b).mono ?_;rintro e w8 ⟨rfl,hb⟩;have F9:=Live.hb F8 hb;clear hb HCk RG2 SZL F8;cases ok with
  |false=>
   have HE:=ι (HYes.out rfl);clear HYes HNo;simp only [Bool.false_eq_true,if_false];go_wp2_with fail
   exact HPn.out _ HE.out F9.out.b
  |true=>
   have HE:=ι (HNo.out rfl);clear HYes HNo;simp only [if_true];go_wp2_with fail
   refine Handed.intro (hs.length - (i+1)) ?_ (hJ1 _ _ _ (fun Φ hΦ=>hΦ (i+1) ?_))
   ·have:=HI.out; omega
   ·exact ⟨by have:=HI.out; omega,HE.out,(Live.tl F9).out⟩
 ·have hi1:((i:Int)<hs.length)=False:=by simp; omega
  have HE:Hid (X=true):=ι (by
   rw [HX2.out,List.all_eq_true];rw [List.take_of_length_le (by omega)] at h2;exact h2)
  clear h1 h2 hF hi;go_wp2_with fail
  exact HPy.out _ HE.out F.out.b):P:=h
theorem qu_Check0 (w:World) (x:AnM) (hgt:Int) (HA:AnAt w x):
  Calls Tryz.prog 112 #[.agg #[ζ,hgt,.slice x.hA x.hs.length x.hc,.slice x.sA x.set.length x.sc,.slice x.nA x.nxt.length x.nc,x.d,.slice x.gA x.sg.length x.gc,ν,ν,ε,ν]] w (Ret w (.int .i64 (if x.ansB hgt then 0 else 290))):=by
 have HPn:Hid (∀ w',x.ansB hgt=false→Below w.heap.size w w'→Ret w (.int .i64 (if x.ansB hgt then 0 else 290)) (.returned (.int .i64 290)) w'):=ι (fun w' e h=>by rw [e]; exact ⟨rfl,h⟩);have HPy:Hid (∀ w',x.ansB hgt=true→Below w.heap.size w w'→Ret w (.int .i64 (if x.ansB hgt then 0 else 290)) (.returned (.int .i64 0)) w'):=ι (fun w' e h=>by rw [e]; exact ⟨rfl,h⟩);generalize Ret w (.int .i64 (if x.ansB hgt then 0 else 290))=P at HPn HPy ⊢;have HX:=ι (x.ansB_eq hgt);generalize x.ansB hgt=X at HPn HPy HX;have HHt:=ι (fun W=>qu_height W hgt);have HEn:=ι (fun W (hW:Below w.heap.size w W)=>cert_Encode W x.d HA.d x.sg HA.go HA.gl x.gA x.gc ((HA.g.below hW).more hW.size));have HSs:=ι (fun W (hW:Below w.heap.size w W)=>qu_set W x.set HA.so x.sA x.sc ((HA.s.below hW).more hW.size));have HSn:=ι (fun W (hW:Below w.heap.size w W)=>qu_set W x.nxt HA.no x.nA x.nc ((HA.n.below hW).more hW.size));have HBa:=ι (fun W=>qu_bareCert W x.d x.sg x.gA x.gc);have HTx:=ι (fun W=>qu_texts W [] none 0 Reads.none_ (by simp));have HPg:=ι (fun W=>qu_page0 W);have ht:textsB []=true:=rfl;rw [ht] at HTx;simp only [List.length_nil] at HTx;clear ht;have HAA:=ι HA;have HHs:=ι (And.intro HA.h (And.intro HA.ho HA.hl));clear HA;obtain ⟨hs,hA,hc,set,sA,sc,nxt,nA,nc,d,sg,gA,gc⟩:=x;simp only at *;unfold CEncEnd at HEn;generalize (decide (0≤hgt) && decide (hgt≤1048576))=b0 at *;generalize (set.isEmpty||Pw.okM set)=b1 at *;generalize (nxt.isEmpty||Pw.okM nxt)=b2 at *;generalize (d.isEmpty && sg.isEmpty)=b3 at *;generalize Ce.mayC d sg=b4 at *;go_enter Tryz.func112,Tryz.ntmps112
 go_upto_region 1 with fail
 have F0:=Live.ha (ι (Live.start w)) #[ζ,hgt,.slice hA hs.length hc,.slice sA set.length sc,.slice nA nxt.length nc,d,.slice gA sg.length gc,ν,ν,ε,ν] 60;generalize World.alloc w _=w0 at F0 ⊢;generalize w.heap.size=bb at F0 ⊢;have k0:=(F0.out.blk 0 rfl).d0;have k1:=(F0.out.blk 0 rfl).d1;go_wp2_with fail
 refine (HHt.out _).mono ?_;rintro e w1 ⟨rfl,hb⟩;have F1:=Live.hb F0 hb;clear hb k0 k1 F0 HHt;have k0:=(F1.out.blk 0 rfl).c11;cases b0 with
 |false=>
  have HE:Hid (X=false):=ι (by rw [HX.out]; rfl);clear HX;go_wp2_with fail
  exact HPn.out _ HE.out F1.out.b
 |true=>
 have hc4:((if b4 then (0:Int) else 3) !=0)= !b4:=by cases b4<;>rfl
 generalize (if b4 then (0:Int) else 3)=c4 at HEn hc4;go_wp2_with fail
 refine (HEn.out _ F1.out.b).mono ?_;rintro e w2 ⟨s4,rfl,hb⟩;have F2:=Live.hb F1 hb;clear hb HEn k0 F1;have k0:=(F2.out.blk 0 rfl).c11;by_cases h64:hs.length≤64;rotate_left
 ·have h64':((64:Int)<hs.length)=True:=by simp; omega
  have h64n:(64<hs.length)=True:=by simp; omega
  have HE:Hid (X=false):=ι (by rw [HX.out,decide_eq_false h64]; rfl);clear HX;go_wp2_with fail
  exact HPn.out _ HE.out F2.out.b
 have h64':((64:Int)<hs.length)=False:=by simp; omega
 have h64n:(64<hs.length)=False:=by simp; omega
 rw [decide_eq_true h64] at HX;clear h64;go_wp2_with fail
 refine (HSs.out _ F2.out.b).mono ?_;rintro e w3 ⟨rfl,hb⟩;have F3:=Live.hb F2 hb;clear hb HSs k0 F2;have k0:=(F3.out.blk 0 rfl).c11;cases b1 with
 |false=>
  have HE:Hid (X=false):=ι (by rw [HX.out]; rfl);clear HX;go_wp2_with fail
  exact HPn.out _ HE.out F3.out.b
 |true=>
 go_wp2_with fail
 refine (HSn.out _ F3.out.b).mono ?_;rintro e w4 ⟨rfl,hb⟩;have F4:=Live.hb F3 hb;clear hb HSn k0 F3;have k0:=(F4.out.blk 0 rfl).c11;cases b2 with
 |false=>
  have HE:Hid (X=false):=ι (by rw [HX.out]; rfl);clear HX;go_wp2_with fail
  exact HPn.out _ HE.out F4.out.b
 |true=>
 go_wp2_with fail
 refine (HBa.out _).mono ?_;rintro e w5 ⟨rfl,hb⟩;have F5:=Live.hb F4 hb;clear hb HBa k0 F4;have k0:=(F5.out.blk 0 rfl).c11;cases b3 with
 |true=>
  have HX2:Hid (X=hs.all fun y=>Hd.ok y.1):=ι (by rw [HX.out]; rfl);clear HX hc4;go_wp2_with fail
  refine (HTx.out _).mono ?_;rintro e w6 ⟨rfl,hb⟩;have F6:=Live.hb F5 hb;clear hb k0 F5;have k0:=(F6.out.blk 0 rfl).c11;go_wp2_with fail
  refine (HPg.out _).mono ?_;rintro e w7 ⟨rfl,hb⟩;have F7:=Live.hb F6 hb;clear hb k0 F6;have k0:=(F7.out.blk 0 rfl).c11;go_wp2_with fail
  clear k0;refine wp_loop_ghost_k (fun k a wr=>∀ Φ:Act→Prop,(∀ ⦃s0 s3 s4 s5 s6 s7 s8 s9 a0 a2 a3 a4 a5 a6 a7 a8 a9 b5 b6 b7 b8 b9 c0 c1 c2 c3 c5 c6 c7 c8 c9 d2 d3 d4 d5 d6 d7 d8 d9 e0 e1 e2 e3 e4 e5 e6 e7 e8 e9 f0 f1 f2 f3 f4 f5 f6 f7 f8 f9 g0 g1 g2 g3 g4 g5 g6 g7 g8 g9 h0 h3 h4 h5 h6 i0 i1 i2 i3 i4 i5 i6:Value⦄ (i:Nat),(i+k=hs.length∧(∀ y∈hs.take i,Hd.ok y.1=true)∧Live w wr [])→Φ {tmps:=#[s0,.pointer (some ⟨bb,0,none⟩),.int .i64 0,s3,s4,s5,s6,s7,s8,s9,a0,a2,a3,a4,a5,a6,a7,a8,a9,b5,b6,b7,b8,b9,c0,c1,c2,c3,c5,c6,c7,c8,c9,d2,d3,d4,d5,d6,d7,d8,d9,e0,e1,e2,e3,e4,e5,e6,e7,e8,e9,f0,f1,f2,f3,f4,f5,f6,f7,f8,f9,g0,g1,g2,g3,g4,g5,g6,g7,g8,g9,h0,h3,h4,h5,h6,.slice hA hs.length hc,.int .i64 (hs.length:Int),.int .i64 (i:Int),i0,i1,i2,i3,i4,i5,i6],defers:= []})→Φ a) (hs.length) ?_ ?_
  ·refine fun Φ hΦ=>hΦ (0) ?_;exact ⟨by omega,by simp,(Live.tl F7).out⟩
  ·intro k1 a1 wr1 hI1 J1 K1 hJ1 hK1;refine hI1 (fun a=>Code.wp _ _ _ a _) ?_;clear hI1 a1;intro s0 s1 s2 s3 s4 s5 s6 s7 s8 s9 a0 a2 a3 a4 a5 a6 a7 a8 a9 b5 b6 b7 b8 b9 c0 c1 c2 c3 c5 c6 c7 c8 c9 d2 d3 d4 d5 d6 d7 d8 d9 e0 e1 e2 e3 e4 e5 e6 e7 e8 e9 f0 f1 f2 f3 f4 f5 f6 f7 f8 f9 g0 g1 g2 g3 g4 g5 g6 g7 g8 g9 h0 h3 h4 h5 h6 h7 h8 h9 i0 i1 i hrel
   show Code.wp _ _ _ _ _;exact z_22
 |false=>
 cases b4 with
 |false=>
  have hc4':(c4 !=0)=true:=hc4;have HE:Hid (X=false):=ι (by rw [HX.out]; rfl);clear HX hc4;go_wp2_with fail
  exact HPn.out _ HE.out F5.out.b
 |true=>
  have hc4':(c4 !=0)=false:=hc4;have HX2:Hid (X=hs.all fun y=>Hd.ok y.1):=ι (by rw [HX.out]; rfl);clear HX hc4;go_wp2_with fail
  refine (HTx.out _).mono ?_;rintro e w6 ⟨rfl,hb⟩;have F6:=Live.hb F5 hb;clear hb k0 F5;have k0:=(F6.out.blk 0 rfl).c11;go_wp2_with fail
  refine (HPg.out _).mono ?_;rintro e w7 ⟨rfl,hb⟩;have F7:=Live.hb F6 hb;clear hb k0 F6;have k0:=(F7.out.blk 0 rfl).c11;go_wp2_with fail
  clear k0;refine wp_loop_ghost_k (fun k a wr=>∀ Φ:Act→Prop,(∀ ⦃s0 s3 s4 s5 s6 s7 s8 s9 a0 a2 a3 a4 a5 a6 a7 a8 a9 b5 b6 b7 b8 b9 c0 c1 c2 c3 c5 c6 c7 c8 c9 d2 d3 d4 d5 d6 d7 d8 d9 e0 e1 e2 e3 e4 e5 e6 e7 e8 e9 f0 f1 f2 f3 f4 f5 f6 f7 f8 f9 g0 g1 g2 g3 g4 g5 g6 g7 g8 g9 h0 h3 h4 h5 h6 i0 i1 i2 i3 i4 i5 i6:Value⦄ (i:Nat),(i+k=hs.length∧(∀ y∈hs.take i,Hd.ok y.1=true)∧Live w wr [])→Φ {tmps:=#[s0,.pointer (some ⟨bb,0,none⟩),.int .i64 0,s3,s4,s5,s6,s7,s8,s9,a0,a2,a3,a4,a5,a6,a7,a8,a9,b5,b6,b7,b8,b9,c0,c1,c2,c3,c5,c6,c7,c8,c9,d2,d3,d4,d5,d6,d7,d8,d9,e0,e1,e2,e3,e4,e5,e6,e7,e8,e9,f0,f1,f2,f3,f4,f5,f6,f7,f8,f9,g0,g1,g2,g3,g4,g5,g6,g7,g8,g9,h0,h3,h4,h5,h6,.slice hA hs.length hc,.int .i64 (hs.length:Int),.int .i64 (i:Int),i0,i1,i2,i3,i4,i5,i6],defers:= []})→Φ a) (hs.length) ?_ ?_
  ·refine fun Φ hΦ=>hΦ (0) ?_;exact ⟨by omega,by simp,(Live.tl F7).out⟩
  ·intro k1 a1 wr1 hI1 J1 K1 hJ1 hK1;refine hI1 (fun a=>Code.wp _ _ _ a _) ?_;clear hI1 a1;iterate 81 (intro _)
   intro i hrel
   show Code.wp _ _ _ _ _;exact z_22
end
namespace Ac
open Pw
def epoA (L:List En) (i:Nat):Int:=((L[i]?).map (·.hd.epo)).getD 0
def behA (L:List En) (i:Nat):Int:=((L[i]?).map (fun e=>behI e.hd)).getD 0
theorem epoA_of {L:List En} {i:Nat} (h:i<L.length):epoA L i=L[i].hd.epo:=by unfold epoA; rw [List.getElem?_eq_getElem h]; rfl
theorem behA_of {L:List En} {i:Nat} (h:i<L.length):behA L i=behI L[i].hd:=by unfold behA; rw [List.getElem?_eq_getElem h]; rfl
theorem epo_next {L:List En} (h:Led.Wf L) {i:Nat} (hi:i+1<L.length):epoA L (i+1)=behA L i:=by
 rw [epoA_of hi,behA_of (by omega)];have t:=(h.two i hi).epo;unfold behI;exact t
theorem beh_ge {L:List En} {i:Nat} (hi:i<L.length):epoA L i≤behA L i∧behA L i≤epoA L i+1:=by
 rw [epoA_of hi,behA_of hi];unfold behI
 split<;>omega
theorem epo_mono {L:List En} (h:Led.Wf L) (i:Nat):∀ (d:Nat),i+d<L.length→epoA L i≤epoA L (i+d)∧epoA L (i+d)≤epoA L i+d
 |0,hd=>by simp
 |d+1,hd=>by
  have a:=epo_mono h i d (by omega);have b:=epo_next h (i:=i+d) (by omega);have c:=beh_ge (L:=L) (i:=i+d) (by omega);rw [show i+(d+1)=i+d+1 by omega,b];omega
theorem epo_le {L:List En} (h:Led.Wf L) {i j:Nat} (hij:i≤j) (hj:j<L.length):epoA L i≤epoA L j∧epoA L j≤epoA L i+((j - i:Nat):Int):=by
 obtain ⟨d,rfl⟩:∃ d,j=i+d:=⟨j - i,by omega⟩
 have:=epo_mono h i d hj
 rw [show i+d - i=d by omega];exact this
theorem ownC_iff {L:List En} {i j:Nat} (hij:i<j) (hj:j<L.length):ownC L i j=if epoA L j=behA L i then 0 else 340:=by
 unfold ownC;rw [if_neg (by omega),List.getElem?_eq_getElem hj,List.getElem?_eq_getElem (by omega:i<L.length),epoA_of hj,behA_of (by omega)];simp only [Option.map_some,Option.some.injEq]
structure Top (L:List En) (goal i m:Nat):Prop where
 lt:i<m
 le:m≤goal
 epo:epoA L m=behA L i
 up:m<goal→epoA L (m+1)=behA L i+1∧behA L m=behA L i+1
theorem top_next {L:List En} (h:Led.Wf L) {goal m:Nat} (hm:m<goal) (hg:goal<L.length) {e:Int} (he:epoA L m=e) (hn:epoA L (m+1)≠e):epoA L (m+1)=e+1∧behA L m=e+1:=by
 have b:=epo_next h (i:=m) (by omega);have c:=beh_ge (L:=L) (i:=m) (by omega);omega
theorem best_top {L:List En} (h:Led.Wf L) {goal:Nat} (hg:goal<L.length):∀ (f a:Nat),a≤goal→goal≤a+f→∀ (l:List EnM),l.map (·.en)=L→
  a≤Led.bestN l goal f a∧Led.bestN l goal f a≤goal∧epoA L (Led.bestN l goal f a)=epoA L a∧(Led.bestN l goal f a<goal→epoA L (Led.bestN l goal f a+1)≠epoA L a)
 |0,a,h1,h2,l,hl=>by
  have:a=goal:=by omega
  subst this;simp [Led.bestN]
 |f+1,a,h1,h2,l,hl=>by
  have hll:l.length=L.length:=by rw [←hl,List.length_map]
  rw [Led.bestN];by_cases hc:(a:Int)<goal∧a+1<l.length∧(l[a+1]?).map (·.en.hd.epo)=(l[a]?).map (·.en.hd.epo)
  ·rw [if_pos hc];have ih:=best_top h hg f (a+1) (by omega) (by omega) l hl;have e1:epoA L (a+1)=epoA L a:=by
    have:=hc.2.2
    subst hl;unfold epoA;rw [List.getElem?_map,List.getElem?_map,Option.map_map,Option.map_map];exact congrArg (·.getD 0) this
   rw [e1] at ih;exact ⟨by omega,ih.2.1,ih.2.2.1,ih.2.2.2⟩
  ·rw [if_neg hc];refine ⟨Nat.le_refl _,h1,rfl,fun hlt he=>hc ⟨by omega,by omega,?_⟩⟩;subst hl;rw [List.length_map] at hg;rw [epoA_of (by rw [List.length_map]; omega),epoA_of (by rw [List.length_map]; omega),List.getElem_map,List.getElem_map] at he;rw [List.getElem?_eq_getElem (by omega:a+1<l.length),List.getElem?_eq_getElem (by omega:a<l.length)];simp only [Option.map_some,he]
theorem top_best {L:List En} (h:Led.Wf L) {goal i:Nat} (hi:i<goal) (hg:goal<L.length) (l:List EnM) (hl:l.map (·.en)=L):Top L goal i (Led.bestN l goal l.length (i+1)):=by
 have hll:l.length=L.length:=by rw [←hl,List.length_map]
 obtain ⟨b1,b2,b3,b4⟩:=best_top h hg l.length (i+1) (by omega) (by omega) l hl;have e:=epo_next h (i:=i) (by omega);rw [e] at b3 b4;exact ⟨by omega,b2,b3,fun hm=>top_next h hm hg b3 (b4 hm)⟩
def needS (L:List En) (goal i:Nat):Int:=if goal≤i then 0 else epoA L goal - behA L i+1
theorem need_pos {L:List En} (h:Led.Wf L) {goal i:Nat} (hi:i<goal) (hg:goal<L.length):1≤needS L goal i∧needS L goal i≤((goal - i:Nat):Int):=by
 unfold needS;rw [if_neg (by omega)];have e:=epo_next h (i:=i) (by omega);have a:=epo_le h (i:=i+1) (j:=goal) (by omega) hg;omega
theorem need_top {L:List En} (h:Led.Wf L) {goal i m:Nat} (hi:i<goal) (hg:goal<L.length) (t:Top L goal i m):needS L goal m=needS L goal i - 1:=by
 unfold needS;rw [if_neg (show ¬goal≤i by omega)];by_cases hm:goal≤m
 ·have:m=goal:=by have:=t.le; omega
  subst this
  have:=t.epo
  rw [if_pos (Nat.le_refl _)];omega
 ·rw [if_neg hm]
  have:=(t.up (by omega)).2
  omega
theorem need_epochs {L:List En} (h:Led.Wf L) {goal i:Nat} (hi:i<goal) (hg:goal<L.length):needS L goal i=epoA L goal - epoA L (i+1)+1:=by
 unfold needS;rw [if_neg (by omega),epo_next h (by omega)]
theorem top_own {L:List En} (h:Led.Wf L) {goal i m:Nat} (hg:goal<L.length) (t:Top L goal i m) {j:Nat} (hij:i<j) (hj:j≤goal):ownC L i j=if j≤m then 0 else 340:=by
 rw [ownC_iff hij (by omega)];have t1:=t.lt;have t2:=t.le;by_cases hm:j≤m
 ·rw [if_pos hm,if_pos];have a:=epo_le h (i:=j) (j:=m) hm (by omega);have b:=epo_le h (i:=i+1) (j:=j) (by omega) (by omega);have c:=epo_next h (i:=i) (by omega);have d:=t.epo;omega
 ·rw [if_neg hm,if_neg];have a:=(t.up (by omega)).1;have b:=epo_le h (i:=m+1) (j:=j) (by omega) (by omega);omega
theorem top_in {L:List En} (h:Led.Wf L) {goal i m:Nat} (hg:goal<L.length) (t:Top L goal i m) {j:Nat} (hij:i<j) (hj:j<m):Top L goal j m∧needS L goal j=needS L goal i:=by
 have t1:=t.lt;have t2:=t.le;have a:=epo_le h (i:=j+1) (j:=m) hj (by omega);have b:=epo_le h (i:=i+1) (j:=j) (by omega) (by omega);have c:=epo_next h (i:=i) (by omega);have d:=t.epo;have e:=epo_next h (i:=j) (by omega);have f:=beh_ge (L:=L) (i:=j) (by omega);have hb:behA L j=behA L i:=by omega
 refine ⟨⟨hj,t2,by rw [hb]; exact d,fun hm=>by rw [hb]; exact t.up hm⟩,?_⟩;unfold needS;rw [if_neg (by omega),if_neg (by omega),hb]
def len2:Nat→Nat→Nat
 |0,_=>0
 |f+1,n=>if n=0 then 0 else len2 f (n / 2)+1
def lenB (n:Nat):Nat:=len2 n n
theorem len2_fuel:∀ (f g n:Nat),n≤f→n≤g→len2 f n=len2 g n
 |0,g,n,h,_=>by
  have:n=0:=by omega
  subst this;cases g<;>rfl
 |f+1,0,n,_,h=>by
  have:n=0:=by omega
  subst this;rfl
 |f+1,g+1,n,h1,h2=>by
  rw [len2,len2]
  split
  ·rfl
  ·rw [len2_fuel f g (n / 2) (by omega) (by omega)]
theorem lenB_half {n:Nat} (h:n≠0):lenB n=lenB (n / 2)+1:=by
 unfold lenB;obtain ⟨k,rfl⟩:∃ k,n=k+1:=⟨n - 1,by omega⟩
 rw [len2,if_neg h,len2_fuel k ((k+1) / 2) _ (by omega) (Nat.le_refl _)]
theorem lenB_mono:∀ (k:Nat) (a b:Nat),a≤k→a≤b→lenB a≤lenB b
 |0,a,b,h,_=>by
  have:a=0:=by omega
  subst this;exact Nat.zero_le _
 |k+1,a,b,h,hab=>by
  by_cases ha:a=0
  ·subst ha; exact Nat.zero_le _
  ·rw [lenB_half ha,lenB_half (n:=b) (by omega)]
   have:=lenB_mono k (a / 2) (b / 2) (by omega) (by omega)
   omega
theorem lenB_le {a b:Nat} (h:a≤b):lenB a≤lenB b:=lenB_mono a a b (Nat.le_refl _) h
def HalfI (L:List En) (goal K i far r most:Nat):Prop:=
 if goal≤i then r≤most∧i=goal else
 ∃ m,Top L goal i m∧i<far∧far≤goal∧(far=goal∨m - i≤2*(far - i))∧lenB (goal - i)+2≤K∧(r:Int)+((needS L goal i - 1)*(K*K:Nat)+((lenB (m - i)*K+lenB (far - i):Nat):Int))≤most
theorem half_start {L:List En} (h:Led.Wf L) {goal i:Nat} (hi:i<goal) (hg:goal<L.length) {K most:Nat} (hK:K=lenB (goal - i)+2) (hm:(most:Int)=needS L goal i*(K*K:Nat)) (l:List EnM) (hl:l.map (·.en)=L):HalfI L goal K i goal 0 most:=by
 unfold HalfI;rw [if_neg (by omega)];have t:=top_best h hi hg l hl;refine ⟨_,t,hi,Nat.le_refl _,.inl rfl,by omega,?_⟩;have a:=lenB_le (a:=Led.bestN l goal l.length (i+1) - i) (b:=goal - i) (by have:=t.le; omega);generalize lenB (Led.bestN l goal l.length (i+1) - i)=x at *;generalize lenB (goal - i)=y at *;subst hK;have b:x*(y+2)≤y*(y+2):=Nat.mul_le_mul_right _ a;rw [hm,Int.sub_mul];have c:(y+2)*(y+2)=y*(y+2)+2*(y+2):=by rw [Nat.add_mul]
 generalize needS L goal i*(((y+2)*(y+2):Nat):Int)=z at *;generalize x*(y+2)=p at *;generalize y*(y+2)=q at *;omega
theorem half_more {L : List En} (h : Led.Wf L) {goal K i far r most : Nat} (hg : goal < L.length) (hi : i < goal) (H : HalfI L goal K i far r most) : i < far ∧ far ≤ goal ∧ r < most ∧
    (ownC L i far = 0 → HalfI L goal K far goal (r + 1) most) ∧ (ownC L i far ≠ 0 → ownC L i far = 340 ∧ 2 ≤ far - i ∧ HalfI L goal K i (i + (far - i) / 2) (r + 1) most) := by
  unfold HalfI at H
  rw [if_neg (by omega)] at H
  obtain ⟨m, t, h1, h2, h3, hK, hP⟩ := H
  have hn := need_pos h hi hg
  have t1 := t.lt
  have t2 := t.le
  have l1 := lenB_half (n := far - i) (by omega)
  have l2 := lenB_half (n := m - i) (by omega)
  have hKK : (0 : Int) ≤ (needS L goal i - 1) * (K * K : Nat) := Int.mul_nonneg (by omega) (by omega)
  have hr : r < most := by
    generalize (needS L goal i - 1) * (K * K : Nat) = z at *
    generalize lenB (m - i) * K = p at *
    omega
  refine ⟨h1, h2, hr, fun h0 => ?_, fun h0 => ?_⟩
  · rw [top_own h hg t h1 h2] at h0
    have hm : far ≤ m := by
      by_cases hm : far ≤ m
      · exact hm
      · rw [if_neg hm] at h0; cases h0
    unfold HalfI
    by_cases hgt : goal ≤ far
    · rw [if_pos hgt]
      exact ⟨by omega, by omega⟩
    rw [if_neg hgt]
    have hlg := lenB_le (a := goal - far) (b := goal - i) (by omega)
    rcases Nat.lt_or_ge far m with hlt | hge
    · obtain ⟨q1, q2⟩ := top_in h hg t h1 hlt
      refine ⟨m, q1, by omega, Nat.le_refl _, .inl rfl, by omega, ?_⟩
      rw [q2]
      have hle := lenB_le (a := m - far) (b := (m - i) / 2) (by omega)
      have hmul : lenB (m - far) * K ≤ lenB ((m - i) / 2) * K := Nat.mul_le_mul_right _ hle
      rw [l2, Nat.add_mul, Nat.one_mul] at hP
      generalize (needS L goal i - 1) * (K * K : Nat) = z at *
      generalize lenB ((m - i) / 2) * K = p at *
      generalize lenB (m - far) * K = q at *
      omega
    · have hmt : m = far := by omega
      subst hmt
      have hnd := need_top h hi hg t
      have htb : ∃ m', Top L goal m m' := by
        -- the highest of the next epoch
        have hmono : ∀ f, f ≤ goal - (m + 1) → ∃ x, m + 1 ≤ x ∧ x ≤ m + 1 + f ∧ epoA L x = epoA L (m + 1) ∧ (x < m + 1 + f → epoA L (x + 1) ≠ epoA L (m + 1)) := by
          intro f
          induction f with
          | zero => intro _; exact ⟨m + 1, by omega, by omega, rfl, fun hx => by omega⟩
          | succ f ih =>
            intro hf
            obtain ⟨x, x1, x2, x3, x4⟩ := ih (by omega)
            by_cases hx : x < m + 1 + f
            · exact ⟨x, x1, by omega, x3, fun _ => x4 hx⟩
            · have : x = m + 1 + f := by omega
              subst this
              by_cases he : epoA L (m + 1 + f + 1) = epoA L (m + 1)
              · exact ⟨m + 1 + f + 1, by omega, by omega, he, fun hx => by omega⟩
              · exact ⟨m + 1 + f, x1, by omega, x3, fun _ => he⟩
        obtain ⟨x, x1, x2, x3, x4⟩ := hmono (goal - (m + 1)) (Nat.le_refl _)
        have e := epo_next h (i := m) (by omega)
        rw [e] at x3 x4
        exact ⟨x, by omega, by omega, x3, fun hx => top_next h hx hg x3 (x4 (by omega))⟩
      obtain ⟨m', t'⟩ := htb
      refine ⟨m', t', by omega, Nat.le_refl _, .inl rfl, by omega, ?_⟩
      rw [hnd]
      have hle := lenB_le (a := m' - m) (b := goal - i) (by have := t'.le; omega)
      have hmul : lenB (m' - m) * K ≤ (K - 2) * K := Nat.mul_le_mul_right _ (by omega)
      obtain ⟨k, rfl⟩ : ∃ k, K = k + 2 := ⟨K - 2, by omega⟩
      have c : (k + 2) * (k + 2) = k * (k + 2) + 2 * (k + 2) := by rw [Nat.add_mul]
      rw [show k + 2 - 2 = k by omega] at hmul
      rw [show needS L goal i - 1 - 1 = (needS L goal i - 1) - 1 by omega, Int.sub_mul (needS L goal i - 1) 1]
      generalize (needS L goal i - 1) * ((((k + 2) * (k + 2)) : Nat) : Int) = z at *
      generalize lenB (m' - m) * (k + 2) = q at *
      generalize lenB (m - i) * (k + 2) = q' at *
      generalize k * (k + 2) = p at *
      omega
  · rw [top_own h hg t h1 h2] at h0 ⊢
    have hm : ¬ far ≤ m := by
      intro hm
      rw [if_pos hm] at h0
      exact h0 rfl
    rw [if_neg hm]
    refine ⟨rfl, by omega, ?_⟩
    unfold HalfI
    rw [if_neg (by omega)]
    refine ⟨m, t, by omega, by omega, .inr (by omega), hK, ?_⟩
    rw [show i + (far - i) / 2 - i = (far - i) / 2 by omega]
    generalize (needS L goal i - 1) * (K * K : Nat) = z at *
    generalize lenB (m - i) * K = p at *
    omega
end Ac
namespace Ac
theorem add0 {L:List En} (h:Led.Wf L) {n:Nat} (hn:L.length=n+1) (v:Int) (hv:1≤v) (hv2:v≤1000) (hn2:n≤1000) (hw:(L[n]'(by omega)).hd.last=false→(L[n]'(by omega)).hd.vw<v):
  ∃ e:En,(Led.addW L v []).1=L++ [e]∧e.hd.last=false∧e.hd.vw=v∧e.hd.epo=behI (L[n]'(by omega)).hd:=by
 have o:=h.one n (by omega);have hc:Led.makeC (L[n]'(by omega)) v []=0:=by
  unfold Led.makeC;rw [if_neg (by have:=o.hgt; omega),if_neg (by intro hx; have:=hw hx.1; omega)];rfl
 refine ⟨Led.makeE L (L[n]'(by omega)) v [],?_,rfl,rfl,rfl⟩;unfold Led.addW;rw [Led.last_of hn];simp only
 rw [if_pos hc]
theorem work_led:∃ e0 e1 e2 e3:En,Led.madeW Ex.wA Ex.wM [(1,[]),(2,[]),(3,[])]= [e0,e1,e2,e3]∧Led.Wf [e0,e1,e2,e3]∧e3.hd.epo=behI e0.hd:=by
 obtain ⟨t,u,h1,_⟩:=Ex.works_plain;have hg:=Ex.genW_good Ex.wA Ex.wM;rw [h1] at hg;have w0:=Led.newE_wf hg.1 (by omega) Ex.wM_ok;have hL:Led.madeW Ex.wA Ex.wM [(1,[]),(2,[]),(3,[])]=Led.growW [Led.newE t Ex.wM] [(1,[]),(2,[]),(3,[])]:=by
  unfold Led.madeW;rw [h1,if_pos rfl]
 rw [hL];obtain ⟨e1,a1,l1,v1,p1⟩:=add0 w0 (n:=0) rfl 1 (by omega) (by omega) (by omega) (fun h=>by cases h);have w1:=Led.addW_wf w0 1 [];rw [a1] at w1;obtain ⟨e2,a2,l2,v2,p2⟩:=add0 w1 (n:=1) rfl 2 (by omega) (by omega) (by omega) (fun _=>by show e1.hd.vw<2; omega);have w2:=Led.addW_wf w1 2 [];rw [a2] at w2;obtain ⟨e3,a3,l3,v3,p3⟩:=add0 w2 (n:=2) rfl 3 (by omega) (by omega) (by omega) (fun _=>by show e2.hd.vw<3; omega);have w3:=Led.addW_wf w2 3 [];rw [a3] at w3;refine ⟨Led.newE t Ex.wM,e1,e2,e3,?_,w3,?_⟩
 ·rw [Led.growW,a1,Led.growW,a2,Led.growW,a3];rfl
 ·have q1:e1.hd.epo=behI (Led.newE t Ex.wM).hd:=p1;have q2:e2.hd.epo=behI e1.hd:=p2;have q3:e3.hd.epo=behI e2.hd:=p3;rw [q3];unfold behI at q2 ⊢;rw [l2];rw [l1] at q2;simp only [Bool.false_eq_true,if_false] at q2 ⊢;rw [q2,q1];rfl
theorem work_own {e0 e1 e2 e3:En} (h:e3.hd.epo=behI e0.hd):ownC [e0,e1,e2,e3] 0 3=0:=by
 unfold ownC;rw [if_neg (by decide)];simp only [List.getElem?_cons_zero,List.getElem?_cons_succ,Option.map_some,h,if_true]
end Ac
section
open Go.RowKit Go.Instr
attribute [local go_sem] ba_get ByteArray.mk_append_mk
attribute [local go_sem ↓] Go.wp_at_zero Go.wp_at_succ
def okBl (b:BlkM):Prop:=b.2.1.length≤20∧∀ p∈b.2.1,okBig p
def Big35End (w:World) (l:List Ex.Ac) (set:List Pw.Mem) (bl:List BlkM) (bad:List (List UInt8)) (nr:Nat) (e:Ending) (w':World):Prop:=
 ∃ b,e= .returned (.bool b)∧Below w.heap.size w w'∧(b=false→(l.length≤20∧set.length≤100∧bl.length≤16∧fewW bad 20 100=true∧nr≤30)∧∀ x∈bl,okBl x)
theorem law35_big (w:World) (l:List Ex.Ac) (hs:∀ x∈l,x.1.length≤9223372036854775807) (hl:l.length≤9223372036854775807) (A:Option Addr) (c:Nat) (HR:Reads w w.heap.size 3 A l.length (acells l)) (set:List Pw.Mem) (B:Option Addr) (d:Nat)
  (bl:List BlkM) (C:Option Addr) (ce:Nat) (HB:BlksAt w C bl) (bad:List (List UInt8)) (bA:Option Addr) (bc:Nat) (HD:Reads w w.heap.size 1 bA bad.length (strv bad)) (nr:Nat) (R:Option Addr) (rc:Nat):
  Calls Tryz.prog 9 #[.agg #[.slice A l.length c,.slice B set.length d,.slice C bl.length ce,.slice bA bad.length bc],.slice R nr rc] w (Big35End w l set bl bad nr):=by
 have HPt:Hid (∀ w',Below w.heap.size w w'→Big35End w l set bl bad nr (.returned (.bool true)) w'):=ι (fun w' h=>⟨true,rfl,h,fun e=>by cases e⟩);have HPf:Hid (∀ w',Below w.heap.size w w'→l.length≤20→set.length≤100→bl.length≤16→fewW bad 20 100=true→nr≤30→(∀ x∈bl,okBl x)→Big35End w l set bl bad nr (.returned (.bool false)) w'):=ι (fun w' h h1 h2 h3 h4 h5 h6=>⟨false,rfl,h,fun _=>⟨⟨h1,h2,h3,h4,h5⟩,h6⟩⟩);generalize Big35End w l set bl bad nr=P at HPt HPf ⊢;have HAc:=ι HR;have HBB:=ι HB;have HN:=ι (And.intro hs hl);have HFw:=ι (fun W (hW:Below w.heap.size w W)=>book_Few W bA bc bad 20 100 ((HD.below hW).more hW.size) (by decide) (by decide));generalize hf:fewW bad 20 100=fw at *;clear hs hl HR HB HD hf;go_enter Tryz.func9,Tryz.ntmps9
 go_upto_region 1 with fail
 have F0:=Live.ha (ι (Live.start w)) #[.slice A l.length c,.slice B set.length d,.slice C bl.length ce,.slice bA bad.length bc] 27;generalize World.alloc w _=W0 at F0 ⊢;generalize w.heap.size=sb at F0 ⊢;go_wp2_with fail
 refine wp_loop_ghost_k (fun k a wr=>∀ Φ:Act→Prop,(∀ ⦃s0 s3 s6 s7 s8 s9 a0 a4 a5 a6 a7 a8 a9 b0 b1 b2 b3 b4 b5 b6 b7 b8 b9 c0 c1 c2 c3 c4 c5 c6 c7 c8 c9 d0 d1 d2 d3 d4 d5 d6 d7 d8 d9 e0 e1 e2 e3 e4 e5 e6 e7 e8 e9 f0 f1 f2 f3 f4 f5 f6 f7 f8 f9 g0 g6 g7 g8 g9 h0 h7 h8 h9 i0 i1 i2 i3 i4 i5 i6 i7 i8 i9 j0 j1 j2 j3 j4 j5 j6 j7 j8 j9 k4 k5 k6 k7 k8 k9 l0 l1 l2 l3 l4 l5 l6 l7 l8 l9 m0 m1 m2 m3:Value⦄ (i:Nat),(i+k=l.length∧Live w wr [(sb,27,#[.slice A l.length c,.slice B set.length d,.slice C bl.length ce,.slice bA bad.length bc])])→Φ {tmps:=#[s0,.slice R nr rc,.pointer (some ⟨sb,0,none⟩),s3,.bool false,.int .i64 (i:Int),s6,s7,s8,s9,a0,a4,a5,a6,a7,a8,a9,b0,b1,b2,b3,b4,b5,b6,b7,b8,b9,c0,c1,c2,c3,c4,c5,c6,c7,c8,c9,d0,d1,d2,d3,d4,d5,d6,d7,d8,d9,e0,e1,e2,e3,e4,e5,e6,e7,e8,e9,f0,f1,f2,f3,f4,f5,f6,f7,f8,f9,g0,g6,g7,g8,g9,h0,h7,h8,h9,i0,i1,i2,i3,i4,i5,i6,i7,i8,i9,j0,j1,j2,j3,j4,j5,j6,j7,j8,j9,k4,k5,k6,k7,k8,k9,l0,l1,l2,l3,l4,l5,l6,l7,l8,l9,m0,m1,m2,m3],defers:= []})→Φ a) (l.length) ?_ ?_
 ·refine fun Φ hΦ=>hΦ (0) ?_;exact ⟨by omega,F0.out⟩
 ·intro k1 a1 wr1 hI1 J1 K1 hJ1 hK1;refine hI1 (fun a=>Code.wp _ _ _ a _) ?_;clear hI1 a1;intro s0 s1 s2 s3 s4 s5 s6 s7 s8 s9 a0 a4 a5 a6 a7 a8 a9 b0 b1 b2 b3 b4 b5 b6 b7 b8 b9 c0 c1 c2 c3 c4 c5 c6 c7 c8 c9 d0 d1 d2 d3 d4 d5 d6 d7 d8 d9 e0 e1 e2 e3 e4 e5 e6 e7 e8 e9 f0 f1 f2 f3 f4 f5 f6 f7 f8 f9 g0 g6 g7 g8 g9 h0 h7 h8 h9 i0 i1 i2 i3 i4 i5 i6 i7 i8 i9 j0 j1 j2 j3 j4 j5 j6 j7 j8 j9 k4 k5 k6 k7 k8 k9 l0 l1 l2 l3 l4 l5 l6 l7 l8 l9 i hrel
  show Code.wp _ _ _ _ _;obtain ⟨h1,hF⟩:=hrel;have F:=ι hF;have k0:=hF.cell 0 0 rfl rfl;have HI:=ι h1;by_cases hi:i<l.length
  ·obtain ⟨ad,off,rfl,hbl,hcell⟩:=ac_cells HAc.out hi;obtain ⟨r0,_,_⟩:=hcell _ F.out.b;have hi1:(i:Int)<l.length:=by omega
   have hi0:(0:Int)≤i:=by omega
   have hwi:IntKind.i64.wrap ((i:Int)+1)=(i:Int)+1:=IntWalk.i64_in _ (by have:=HN.out.2; omega);have hlen:=HN.out.1 _ (List.getElem_mem hi);clear hcell hbl h1 hF;generalize l[i]=x at *;by_cases g:100<x.1.length
   ·have g':(100:Int)<x.1.length:=by omega
    clear g;go_wp2_with fail
    exact HPt.out _ F.out.b
   ·have g':((100:Int)<x.1.length)=False:=by simp; omega
    clear g;go_wp2_with fail
    refine Handed.intro (l.length - (i+1)) ?_ (hJ1 _ _ _ (fun Φ hΦ=>hΦ (i+1) ?_))
    ·have:=HI.out; omega
    exact ⟨by have:=HI.out; omega,F.out⟩
  ·have hi1:((i:Int)<l.length)=False:=by simp; omega
   clear hi h1 HI hF;go_wp2_with fail
   refine wp_loop_ghost_k (fun k a wr=>∀ Φ:Act→Prop,(∀ ⦃s0 s3 s5 s7 s8 s9 a0 a4 a5 a6 a7 a8 a9 b0 b1 b2 b3 b4 b5 b6 b7 b8 b9 c0 c1 c2 c3 c4 c5 c6 c7 c8 c9 d0 d1 d2 d3 d4 d5 d6 d7 d8 d9 e0 e1 e2 e3 e4 e5 e6 e7 e8 e9 f0 f1 f2 f3 f4 f5 f6 f7 f8 f9 g0 g6 g7 g8 g9 h0 h7 h8 h9 i0 i1 i2 i3 i4 i5 i6 i7 i8 i9 j0 j1 j2 j3 j4 j5 j6 j7 j8 j9 k4 k5 k6 k7 k8 k9 l0 l1 l2 l3 l4 l5 l6 l7 l8 l9 m0 m1 m2 m3:Value⦄ (i:Nat),(i+k=bl.length∧(∀ x∈bl.take i,okBl x)∧Live w wr [(sb,27,#[.slice A l.length c,.slice B set.length d,.slice C bl.length ce,.slice bA bad.length bc])])→Φ {tmps:=#[s0,.slice R nr rc,.pointer (some ⟨sb,0,none⟩),s3,.bool false,s5,.int .i64 (i:Int),s7,s8,s9,a0,a4,a5,a6,a7,a8,a9,b0,b1,b2,b3,b4,b5,b6,b7,b8,b9,c0,c1,c2,c3,c4,c5,c6,c7,c8,c9,d0,d1,d2,d3,d4,d5,d6,d7,d8,d9,e0,e1,e2,e3,e4,e5,e6,e7,e8,e9,f0,f1,f2,f3,f4,f5,f6,f7,f8,f9,g0,g6,g7,g8,g9,h0,h7,h8,h9,i0,i1,i2,i3,i4,i5,i6,i7,i8,i9,j0,j1,j2,j3,j4,j5,j6,j7,j8,j9,k4,k5,k6,k7,k8,k9,l0,l1,l2,l3,l4,l5,l6,l7,l8,l9,m0,m1,m2,m3],defers:= []})→Φ a) (bl.length) ?_ ?_
   ·refine fun Φ hΦ=>hΦ (0) ?_;exact ⟨by omega,by simp,F.out⟩
   ·intro k2 a2 wr2 hI2 J2 K2 hJ2 hK2;refine hI2 (fun a=>Code.wp _ _ _ a _) ?_;clear hI2 a2;intro s0 s1 s2 s3 s4 s5 s6 s7 s8 s9 a0 a4 a5 a6 a7 a8 a9 b0 b1 b2 b3 b4 b5 b6 b7 b8 b9 c0 c1 c2 c3 c4 c5 c6 c7 c8 c9 d0 d1 d2 d3 d4 d5 d6 d7 d8 d9 e0 e1 e2 e3 e4 e5 e6 e7 e8 e9 f0 f1 f2 f3 f4 f5 f6 f7 f8 f9 g0 g6 g7 g8 g9 h0 h7 h8 h9 i0 i1 i2 i3 i4 i5 i6 i7 i8 i9 j0 j1 j2 j3 j4 j5 j6 j7 j8 j9 k4 k5 k6 k7 k8 k9 l0 l1 l2 l3 l4 l5 l6 l7 l8 l9 i hrel
    show Code.wp _ _ _ _ _;obtain ⟨h1,h2,hF⟩:=hrel;have F:=ι hF;have k2:=hF.cell 0 2 rfl rfl;have HI:=ι (And.intro h1 h2);by_cases hi:i<bl.length
    ·obtain ⟨ad,off,hC,hbl,hcell⟩:=flat_cells wbcell_len (by decide) HBB.out.r hi;rw [hC] at k2;clear hC;have r1:wr2.cell? ⟨ad,off+i*2+1,none⟩=some (.slice bl[i].2.2.1 bl[i].2.1.length bl[i].2.2.2):=hcell _ F.out.b 1 _ rfl;have hi1:(i:Int)<bl.length:=by omega
     have hi0:(0:Int)≤i:=by omega
     have hwi:IntKind.i64.wrap ((i:Int)+1)=(i:Int)+1:=IntWalk.i64_in _ (by have:=HBB.out.n; omega);have HTx:=ι (HBB.out.t _ (List.getElem_mem hi));have HSt:=ι (take_all (Q:=okBl) hi h2);clear hcell hbl h1 h2 hF;generalize bl[i]=bk at *;obtain ⟨vw,L,tA,tc⟩:=bk;simp only at r1 HTx HSt;go_wp2_with fail
     refine wp_loop_ghost_k (fun k a wr=>∀ Φ:Act→Prop,(∀ ⦃s0 s3 s5 s9 a0 a4 a5 a6 a7 a8 a9 b0 b1 b2 b3 b4 b5 b6 b7 b8 b9 c0 c1 c2 c3 c4 c5 c6 c7 c8 c9 d0 d1 d2 d3 d4 d5 d6 d7 d8 d9 e0 e1 e2 e3 e4 e5 e6 e7 e8 e9 f0 f1 f2 f3 f4 f5 f6 f7 f8 f9 g0 g6 g7 g8 g9 h0 h7 h8 h9 i0 i1 i2 i3 i4 i5 i6 i7 i8 i9 j0 j1 j2 j3 j4 j5 j6 j7 j8 j9 k4 k5 k6 k7 k8 k9 l0 l1 l2 l3 l4 l5 l6 l7 l8 l9 m0 m1 m2 m3:Value⦄ (j:Nat),(j+k=L.length∧(∀ x∈L.take j,okBig x)∧Live w wr [(sb,27,#[.slice A l.length c,.slice B set.length d,.slice C bl.length ce,.slice bA bad.length bc])])→Φ {tmps:=#[s0,.slice R nr rc,.pointer (some ⟨sb,0,none⟩),s3,.bool false,s5,.int .i64 (i:Int),.slice tA L.length tc,.int .i64 (j:Int),s9,a0,a4,a5,a6,a7,a8,a9,b0,b1,b2,b3,b4,b5,b6,b7,b8,b9,c0,c1,c2,c3,c4,c5,c6,c7,c8,c9,d0,d1,d2,d3,d4,d5,d6,d7,d8,d9,e0,e1,e2,e3,e4,e5,e6,e7,e8,e9,f0,f1,f2,f3,f4,f5,f6,f7,f8,f9,g0,g6,g7,g8,g9,h0,h7,h8,h9,i0,i1,i2,i3,i4,i5,i6,i7,i8,i9,j0,j1,j2,j3,j4,j5,j6,j7,j8,j9,k4,k5,k6,k7,k8,k9,l0,l1,l2,l3,l4,l5,l6,l7,l8,l9,m0,m1,m2,m3],defers:= []})→Φ a) (L.length) ?_ ?_
     ·refine fun Φ hΦ=>hΦ (0) ?_;exact ⟨by omega,by simp,F.out⟩
     ·intro k3 a3 wr3 hI3 J3 K3 hJ3 hK3;refine hI3 (fun a=>Code.wp _ _ _ a _) ?_;clear hI3 a3;intro s0 s1 s2 s3 s4 s5 s6 s7 s8 s9 a0 a4 a5 a6 a7 a8 a9 b0 b1 b2 b3 b4 b5 b6 b7 b8 b9 c0 c1 c2 c3 c4 c5 c6 c7 c8 c9 d0 d1 d2 d3 d4 d5 d6 d7 d8 d9 e0 e1 e2 e3 e4 e5 e6 e7 e8 e9 f0 f1 f2 f3 f4 f5 f6 f7 f8 f9 g0 g6 g7 g8 g9 h0 h7 h8 h9 i0 i1 i2 i3 i4 i5 i6 i7 i8 i9 j0 j1 j2 j3 j4 j5 j6 j7 j8 j9 k4 k5 k6 k7 k8 k9 l0 l1 l2 l3 l4 l5 l6 l7 j hrel
      show Code.wp _ _ _ _ _;obtain ⟨h1,h2,hF⟩:=hrel;have F:=ι hF;have HJ:=ι (And.intro h1 h2);by_cases hj:j<L.length
      ·obtain ⟨ad2,off2,rfl,hbl,hcell⟩:=tx_cells HTx.out.r hj;obtain ⟨_,s1,_,s3,_,s5,s6,s7⟩:=hcell _ F.out.b;have hj1:(j:Int)<L.length:=by omega
       have hj0:(0:Int)≤j:=by omega
       have hj9:(j:Int)<9223372036854775807:=by have:=HTx.out.n; omega
       obtain ⟨o1,o2,o3,o4,_⟩:=HTx.out.t _ (List.getElem_mem hj);have HSj:=ι (take_all (Q:=okBig) hj h2);clear hcell hbl h1 h2 hF;generalize L[j]=x at *;by_cases g1:100<x.1.frm.length
       ·have g1':(100:Int)<x.1.frm.length:=by omega
        clear g1;go_wp2_with fail
        exact HPt.out _ F.out.b
       have g1':((100:Int)<x.1.frm.length)=False:=by simp; omega
       by_cases g2:100<x.1.dst.length
       ·have g2':(100:Int)<x.1.dst.length:=by omega
        clear g1 g2;go_wp2_with fail
        exact HPt.out _ F.out.b
       have g2':((100:Int)<x.1.dst.length)=False:=by simp; omega
       by_cases g3:100<x.1.key.length
       ·have g3':(100:Int)<x.1.key.length:=by omega
        clear g1 g2 g3;go_wp2_with fail
        exact HPt.out _ F.out.b
       have g3':((100:Int)<x.1.key.length)=False:=by simp; omega
       by_cases g4:100<x.1.val.length
       ·have g4':(100:Int)<x.1.val.length:=by omega
        clear g1 g2 g3 g4;go_wp2_with fail
        exact HPt.out _ F.out.b
       have g4':((100:Int)<x.1.val.length)=False:=by simp; omega
       by_cases g5:100<x.1.mem.length
       ·have g5':(100:Int)<x.1.mem.length:=by omega
        clear g1 g2 g3 g4 g5;go_wp2_with fail
        exact HPt.out _ F.out.b
       have g5':((100:Int)<x.1.mem.length)=False:=by simp; omega
       have HSn:=ι (HSj.out ⟨by omega,by omega,by omega,by omega,by omega⟩);clear g1 g2 g3 g4 g5;go_wp2_with fail
       refine Handed.intro (L.length - (j+1)) ?_ (hJ3 _ _ _ (fun Φ hΦ=>hΦ (j+1) ?_))
       ·have:=HJ.out.1; omega
       exact ⟨by have:=HJ.out.1; omega,HSn.out,F.out⟩
      ·have hj1:((j:Int)<L.length)=False:=by simp; omega
       have HLt:Hid (∀ x∈L,okBig x):=ι (by rw [List.take_of_length_le (by omega)] at h2; exact h2);clear hj h1 h2 HJ hF;by_cases g1:20<L.length
       ·have g1':(20:Int)<L.length:=by omega
        clear g1;go_wp2_with fail
        exact HPt.out _ F.out.b
       have g1':((20:Int)<L.length)=False:=by simp; omega
       have HSn:=ι (HSt.out ⟨by show L.length≤20; omega,HLt.out⟩);clear g1;go_wp2_with fail
       refine Handed.intro (bl.length - (i+1)) ?_ (hJ2 _ _ _ (fun Φ hΦ=>hΦ (i+1) ?_))
       ·have:=HI.out.1; omega
       exact ⟨by have:=HI.out.1; omega,HSn.out,F.out⟩
    ·have hi1:((i:Int)<bl.length)=False:=by simp; omega
     have HAll:Hid (∀ x∈bl,okBl x):=ι (by rw [List.take_of_length_le (by omega)] at h2; exact h2);have k0:=hF.cell 0 0 rfl rfl;have k1:=hF.cell 0 1 rfl rfl;have k3:=hF.cell 0 3 rfl rfl;clear hi h1 h2 HI hF;by_cases g1:20<l.length
     ·have g1':(20:Int)<l.length:=by omega
      clear g1;go_wp2_with fail
      exact HPt.out _ F.out.b
     have g1':((20:Int)<l.length)=False:=by simp; omega
     by_cases g2:100<set.length
     ·have g2':(100:Int)<set.length:=by omega
      clear g1 g2;go_wp2_with fail
      exact HPt.out _ F.out.b
     have g2':((100:Int)<set.length)=False:=by simp; omega
     by_cases g3:16<bl.length
     ·have g3':(16:Int)<bl.length:=by omega
      clear g1 g2 g3;go_wp2_with fail
      exact HPt.out _ F.out.b
     have g3':((16:Int)<bl.length)=False:=by simp; omega
     have HG:=ι (show l.length≤20∧set.length≤100∧bl.length≤16 by omega);have HFc:=ι (HFw.out _ F.out.b);clear g1 g2 g3 HFw;go_wp2_with fail
     refine HFc.out.mono ?_;rintro e w5 ⟨rfl,hb⟩;have F5:=Live.hb F hb;clear hb HFc;cases fw with
     |false=>
      go_wp2_with fail
      exact HPt.out _ F5.out.b
     |true=>
      by_cases g4:30<nr
      ·have g4':(30:Int)<nr:=by omega
       clear g4;go_wp2_with fail
       exact HPt.out _ F5.out.b
      have g4':((30:Int)<nr)=False:=by simp; omega
      have HG4:=ι (Nat.le_of_not_lt g4);clear g4;go_wp2_with fail
      exact HPf.out _ F5.out.b HG.out.1 HG.out.2.1 HG.out.2.2 (by first|exact trivial|rfl) HG4.out HAll.out
end
end Go.Proofs.YtdkiloganbhfkaaGreatDoor