import Derived.Test.YtdkiloganbhfkaaGreatDoorJ42
import Derived.Test.YtdkiloganbhfkaaGreatDoorJ43
set_option linter.unusedSimpArgs false
set_option linter.unusedVariables false
set_option maxHeartbeats 4000000
set_option maxRecDepth 100000
namespace Go.Proofs.YtdkiloganbhfkaaGreatDoor
section
open Go.RowKit Go.Instr
attribute [local go_sem] ba_get ByteArray.mk_append_mk
attribute [local go_sem ↓] Go.wp_at_zero Go.wp_at_succ
theorem z_37 {P:Prop} (h:P:=by
 try go_frame
 refine tk 0 103 rfl ?_;try go_frame
 refine rd1 1 rfl (fun K hK=> ?_);go_simp
 refine (HDo.out _ FB.out.b).mono ?_;rintro e V1 ⟨rfl,hb⟩;have F:=Live.hb F hb;have FB:=Live.hb FB hb;clear hb;go_simp
 refine hK.out _ _ ⟨HCg.out _ F.out.b,trivial⟩ (fun hHeld=> ?_);clear hK K;try go_frame
 refine tk 2 105 rfl ?_;try go_frame
 refine tk 3 106 rfl ?_;try go_frame
 refine tk 5 108 rfl ?_;try go_frame
 refine rd1 4 rfl (fun K hK=> ?_);go_simp
 refine (HRo.out _ FB.out.b).mono ?_;rintro e V2 ⟨rfl,rfl⟩;go_simp
 refine hK.out _ _ ⟨HCg.out _ F.out.b,trivial⟩ (fun hHeld=> ?_);clear hK K;try go_frame
 refine tk 6 109 rfl ?_;try go_frame
 refine tk 7 110 rfl ?_;try go_frame
 refine tk 8 111 rfl ?_;try go_frame
 refine tk 9 112 rfl ?_;try go_frame
 refine tk 12 115 rfl ?_;try go_frame
 refine tk 13 116 rfl ?_;try go_frame
 refine tk 14 117 rfl ?_;try go_frame
 refine tk 15 118 rfl ?_;try go_frame
 refine' wpAnyH_take (i:=16) (oi:=⟨some 119,_,_,_,_,_⟩) (v:=_) rfl (by kernel_rfl) (by kernel_rfl) (by kernel_rfl) (fun _ _ _ h=>h) (yieldsIf_load_mid (by rfl) _ _ rfl ad (off+j*17) rfl (η pg.en.hd [.slice pg.kA pg.en.hd.sk.length pg.kc]) _ (fun w h=>h.1) Tryz.underlying41 rfl SZH2.out) (by assumption) ?_
 try go_frame
 refine rd1 10 rfl (fun K hK=> ?_);go_simp
 refine (HTr.out _ FB.out.b).mono ?_;rintro e V4 ⟨kA2,kc2,nA2,nc2,rfl,hb,hok⟩;have F:=Live.hb F hb;have FB:=Live.hb FB hb;have HSh:=ι (book_SameHeader_eq V4 pg.en.hd kA2 pg.kA kc2 pg.kc hok.k (reads_base HOkg.out.k F.out.b) (by have:=HOg.out.ok.sk_le; omega));clear hb hok;have hfd:=fun W=>tr_field0 (.int .i64 pg.en.hd.hgt) (.int .i64 pg.en.hd.epo) (.int .i64 pg.en.hd.vw) (.bool pg.en.hd.last) (.string ⟨pg.en.hd.par.toArray⟩) (.string ⟨pg.en.hd.st.toArray⟩) (.string ⟨pg.en.hd.rc.toArray⟩) (.string ⟨pg.en.hd.tx.toArray⟩) (.string ⟨pg.en.hd.mem.toArray⟩) (.string ⟨pg.en.hd.nxt.toArray⟩) (.slice kA2 pg.en.hd.sk.length kc2) (.slice nA2 s.now.nx.length nc2) s.now.ta W;go_simp
 refine hK.out _ _ ⟨HCg.out _ F.out.b,trivial⟩ (fun hHeld=> ?_);clear hK K;try go_frame
 refine tk 11 114 rfl ?_;try go_frame
 refine rd1 17 rfl (fun K hK=> ?_);go_simp
 refine HSh.out.mono ?_;rintro e V5 ⟨rfl,hb⟩;have F:=Live.hb F hb;have FB:=Live.hb FB hb;clear hb hfd HSh;go_simp
 refine hK.out _ _ ⟨HCg.out _ F.out.b,trivial⟩ (fun hHeld=> ?_);clear hK K;try go_frame
 refine tk 18 121 rfl ?_;try go_frame
 refine tk 19 4 rfl ?_;try go_frame
 refine wpAnyH_done (by kernel_rfl) ?_ _;clear hHeld;go_wp2_with fail
 exact HP.out _ (HB4.out.trans (F.out.b.mono HB4.out.size))):P:=h
theorem law_SyncHalves (w:World) (hT:Tbl w) (l:List Ex.Ac) (hs:∀ x∈l,x.1.length≤9223372036854775807) (hl:l.length≤9223372036854775807) (A:Option Addr) (c:Nat) (HR:Reads w w.heap.size 3 A l.length (acells l)) (set:List Pw.Mem) (hm:∀ x∈set,x.1.length≤9223372036854775807) (B:Option Addr) (d:Nat) (HS:Reads w w.heap.size 2 B set.length (mcells set))
  (bl:List BlkM) (C:Option Addr) (ce:Nat) (HB:BlksAt w C bl) (bad:List (List UInt8)) (hbad:bad.length≤9223372036854775807) (bA:Option Addr) (bc:Nat) (HD:Reads w w.heap.size 1 bA bad.length (strv bad)) (e0 e1:Int):
  Calls Tryz.prog 5 #[.agg #[.slice A l.length c,.slice B set.length d,.slice C bl.length ce,.slice bA bad.length bc],.agg #[e0,e1]] w (Ret w (.bool true)):=by
 have HP:Hid (∀ w',Below w.heap.size w w'→Ret w (.bool true) (.returned (.bool true)) w'):=ι (fun w' h=>⟨rfl,h⟩);generalize Ret w (.bool true)=P at HP ⊢;have HTb:=ι hT;have HMd:=ι (fun W (hW:Below w.heap.size w W) bd=>law35_made W l hs A c (reads_base HR hW) set hm B d (reads_base HS hW) bl C ce (HB.next hW) bd);have HBg:=ι (fun W (hW:Below w.heap.size w W)=>law35_big W l hs hl A c (reads_base HR hW) set B d bl C ce (HB.next hW) bad bA bc (reads_base HD hW) 0 none 0);have HSd:=ι (fun W (hW:Below w.heap.size w W) (M:List EnM) hWf h17 MA mc hE x0 x1 x2=>law35_signed W M hWf h17 MA mc hE bad hbad bA bc (reads_base HD hW) x0 x1 x2);clear hT hs hl HR hm HS HB hbad HD;go_enter Tryz.func5,Tryz.ntmps5
 go_upto_region 1 with fail
 have F0:=Live.ha (Live.ha (ι (Live.start w)) #[.slice A l.length c,.slice B set.length d,.slice C bl.length ce,.slice bA bad.length bc] 27) #[e0,e1] 28;simp only [World.size_alloc] at F0;generalize (w.alloc (.cells #[.slice A l.length c,.slice B set.length d,.slice C bl.length ce,.slice bA bad.length bc] 27)).alloc (.cells #[e0,e1] 28)=W0 at F0 ⊢;generalize heb:w.heap.size+1=eb at F0 ⊢;clear heb;generalize hxb:w.heap.size=xb at F0 ⊢;clear hxb;have HW:=ι (law35_works W0 (HTb.out.next F0.out.b));go_wp2_with fail
 refine HW.out.mono ?_;rintro e W1 ⟨rfl,hb⟩;have F1:=Live.hb F0 hb;clear hb HW F0;have k1:=(F1.out.blk 1 rfl).c4;have HM1:=ι (fun bd=>HMd.out _ F1.out.b bd);go_wp2_with fail
 refine (HM1.out _).mono ?_;rintro e W2 ⟨M,MA,mc,rfl,hb,hM,hE,_⟩;have F2:=Live.hb F1 hb;have HE:=ι hE;have HMm:=ι hM;clear hb hE hM HM1 HMd F1 k1;have k1:=(F2.out.blk 1 rfl).c4;have HB1:=ι (HBg.out _ F2.out.b);go_wp2_with fail
 refine HB1.out.mono ?_;rintro e W3 ⟨b,rfl,hb,hbf⟩;have F3:=Live.hb F2 hb;have HE3:=ι (HE.out.next hb);have HBf:=ι hbf;clear hb hbf HB1 HBg F2 HE k1;cases b with
 |true=>
  go_wp2_with fail
  exact HP.out _ F3.out.b
 |false=>
 by_cases hlen:M.length<2
 ·have hlen':((M.length:Int)<2)=True:=by simp; omega
  clear hlen;go_wp2_with fail
  exact HP.out _ F3.out.b
 have hlen':((M.length:Int)<2)=False:=by simp; omega
 obtain ⟨n1,hn1⟩:∃ n1,M.length=n1+1:=⟨M.length - 1,by omega⟩
 have hml:(M.map (·.en)).length=n1+1:=by rw [List.length_map,hn1]
 obtain ⟨hWf,h17⟩:=Led.madeW_wf l set (bl.map BlkM.p) (by intro e; rw [HMm.out,e] at hml; simp at hml);rw [←HMm.out,hml] at h17;rw [←HMm.out] at hWf;rw [List.length_map] at h17;have hbl16:=(HBf.out rfl).1.2.2.1;have HN:=ι (show M.length=n1+1∧1≤n1∧n1≤16 from ⟨hn1,by omega,by omega⟩);have HWf:=ι hWf;clear hml hWf h17 hbl16 HBf HMm hn1 hlen;have hwA:IntKind.i64.wrap ((M.length:Int) - 1)=((n1:Nat):Int):=by rw [show (M.length:Int) - 1=((n1:Nat):Int) from by have:=HN.out.1; omega]; exact IntWalk.i64_in _ (by have:=HN.out; omega)
 have q0:=(F3.out.blk 0 rfl).d0;have HBe:=ι (book_Below16 e0 n1 W3 HN.out.2.1 (by have:=HN.out; omega));go_wp2_with fail
 refine HBe.out.mono ?_;rintro e W3' ⟨i,hi,rfl,rfl⟩;obtain ⟨n2,hn2⟩:∃ n2,n1=i+n2:=⟨n1 - i,by omega⟩
 have hwB:IntKind.i64.wrap (((n1:Nat):Int) - (i:Int))=((n2:Nat):Int):=by rw [show ((n1:Nat):Int) - (i:Int)=((n2:Nat):Int) from by omega]; exact IntWalk.i64_in _ (by have:=HN.out; omega)
 have hwC:IntKind.i64.wrap ((i:Int)+1)=(i:Int)+1:=IntWalk.i64_in _ (by have:=HN.out; omega);have HI:=ι (And.intro hi hn2);clear hi hn2 HBe q0 hlen';have q1:=(F3.out.blk 0 rfl).d1;have HBe:=ι (book_Below16 e1 n2 W3 (by have:=HI.out; omega) (by have:=HN.out; have:=HI.out; omega));go_wp2_with fail
 refine HBe.out.mono ?_;rintro e W3' ⟨k2,hk2,rfl,rfl⟩;obtain ⟨g,hg⟩:∃ g,g=i+1+k2:=⟨_,rfl⟩
 have hwD:IntKind.i64.wrap ((i:Int)+1+(k2:Int))=((g:Nat):Int):=by rw [show (i:Int)+1+(k2:Int)=((g:Nat):Int) from by omega]; exact IntWalk.i64_in _ (by have:=HN.out; have:=HI.out; omega)
 have HG:=ι (show i<g∧g<M.length from ⟨by omega,by have:=HN.out; have:=HI.out; omega⟩);clear hk2 hg HBe q1;have k1:=(F3.out.blk 1 rfl).c4;have HS1:=ι (HSd.out _ F3.out.b M HWf.out (by have:=HN.out; omega) MA mc HE3.out);go_wp2_with fail
 refine (HS1.out _ _ _).mono ?_;rintro e W4 ⟨mb,v,rfl,hTab,_,hb⟩;have F4:=Live.hb F3 hb;have HE4:=ι (HE3.out.next hb);have HTab:=ι hTab;have HT4:=ι (HTb.out.next F4.out.b);have HB4:=ι F4.out.b;clear hb hTab HS1 HSd F3 HE3 HTb k1 hwA hwB hwC hwD;have hgl:=HG.out;obtain ⟨p,hp⟩:∃ p,M[i]'(by omega)=p:=⟨_,rfl⟩
 obtain ⟨ad,off,hMA,hbl,hcell_⟩:=ent_cells HE4.out.r (show i<M.length by omega);rw [hp] at hcell_;subst hMA;have HOk:=ι (hp ▸ HE4.out.o _ (List.getElem_mem (show i<M.length by omega)));have HOne:Hid (Led.One p.en i):=ι (by have:=HWf.out.one i (by rw [List.length_map]; omega); rw [List.getElem_map,hp] at this; exact this);have HC0:Hid (∀ W,Below W4.heap.size W4 W→W.rangeAt ad (off+i*17) (η p.en.hd [.slice p.kA p.en.hd.sk.length p.kc])∧W.cell? ⟨ad,off+i*17+16,none⟩=some (.slice p.nA p.en.nxt.length p.nc)):=ι (fun W hW=>⟨fun j u hu=>by
  refine hcell_ W hW j u ?_;have hj:j<11:=(List.getElem?_eq_some_iff.1 hu).1;rw [←hu];rcases j with _|_|_|_|_|_|_|_|_|_|_|j<;>first|rfl|omega,hcell_ W hW 16 _ rfl⟩)
 have HP0:=ι hp;have SZH:Hid ((Tryz.prog.info? 41).map (·.size)=some 11):=ι (by kernel_rfl);have HNw:=ι (fun W (hW:Below W4.heap.size W4 W)=>sync_New W ⟨p.en.hd,p.kA,p.kc,p.en.nxt,p.nA,p.nc,0⟩ ⟨okH_of HOne.out.ok,reads_base HOk.out.k hW,reads_base HOk.out.nx hW,mem_lens HOne.out.nxt,by have:=HOne.out.ok.sk_le; show p.en.hd.sk.length≤_; omega,by have:=(Pw.okM_len HOne.out.nxt).2; show p.en.nxt.length≤_; omega⟩ (g:Int) (HT4.out.next hW));have HNc:Hid (newC ⟨p.en.hd,p.kA,p.kc,p.en.nxt,p.nA,p.nc,0⟩ (g:Int)=0):=ι (by
  have ht:=Ac.trust_own HWf.out (i:=i) (by rw [List.length_map]; omega) (a:=0) (by omega) (by omega);rw [List.getElem_map,hp] at ht;unfold newC;rw [if_neg (by rw [ht]; decide),if_neg (by have:=HOne.out.hgt; have:=HN.out; simp only; omega)])
 have hi1:(i:Int)<M.length:=by omega
 have hi0:(0:Int)≤i:=by omega
 clear hcell_ hbl hp;go_upto_region 9 with fail
 have F:=live_drew (ι (Live.start W4));refine wp_region_held_drew (S:=fun w'=>w'.rangeAt ad (off+i*17) (η p.en.hd [.slice p.kA p.en.hd.sk.length p.kc])∧w'.cell? ⟨ad,off+i*17+16,none⟩=some (.slice p.nA p.en.nxt.length p.nc)) (by kernel_rfl) (HC0.out _ F.out.b) (fun hHeld=> ?_);generalize W4.drew=Wd at F hHeld ⊢;try go_frame
 refine tk 0 48 rfl ?_;try go_frame
 refine tk 1 49 rfl ?_;try go_frame
 refine tk 2 50 rfl ?_;try go_frame
 refine tk 3 51 rfl ?_;try go_frame
 refine' wpAnyH_take (i:=4) (oi:=⟨some 52,_,_,_,_,_⟩) (v:=_) rfl (by kernel_rfl) (by kernel_rfl) (by kernel_rfl) (fun _ _ _ h=>h) (yieldsIf_load_mid (by rfl) _ _ rfl ad (off+i*17) rfl (η p.en.hd [.slice p.kA p.en.hd.sk.length p.kc]) _ (fun w h=>h.1) Tryz.underlying41 rfl SZH.out) (by assumption) ?_
 try go_frame
 refine tk 5 53 rfl ?_;try go_frame
 refine tk 6 54 rfl ?_;try go_frame
 refine tk 7 55 rfl ?_;try go_frame
 refine tk 8 56 rfl ?_;try go_frame
 refine tk 9 57 rfl ?_;try go_frame
 refine tk 10 58 rfl ?_;try go_frame
 refine tk 11 59 rfl ?_;try go_frame
 refine rd1 12 rfl (fun K hK=> ?_);go_simp
 refine (HNw.out _ F.out.b).mono ?_;rintro e W5 ⟨hb,hcase⟩;rcases hcase with ⟨h,_⟩|⟨_,sb,kA,kc,nA,nc,hsb,rfl,hS⟩
 ·exact absurd HNc.out h
 have HSb:Hid (W4.heap.size≤sb):=ι (Nat.le_trans F.out.b.size hsb);have F5:=Live.hb F hb;have HS5:=ι hS;clear hb hS hsb;go_simp
 refine hK.out _ _ (HC0.out _ F5.out.b) (fun hHeld=> ?_);clear hK K;try go_frame
 refine tk 13 47 rfl ?_;try go_frame
 refine tk 14 61 rfl ?_;try go_frame
 refine tk 15 62 rfl ?_;try go_frame
 refine tk 16 9 rfl ?_;try go_frame
 refine tk 17 10 rfl ?_;try go_frame
 refine wpAnyH_done (by kernel_rfl) ?_ _;clear hHeld HNw HNc F hi1 hi0 HC0 F4;have HIw:=ι (show i<g∧g<(List.map (fun x:EnM=>x.en) M).length from ⟨HG.out.1,by rw [List.length_map]; exact HG.out.2⟩);have SZQ:Hid ((Tryz.prog.info? 50).map (·.size)=some 6):=ι (by kernel_rfl);have HEp:Hid ((List.map (fun x:EnM=>x.en) M)[i]'(by rw [List.length_map]; omega)=p.en):=ι (by rw [List.getElem_map,HP0.out]);obtain ⟨y,hy⟩:∃ y,Ac.lenB (g - i)=y:=⟨_,rfl⟩
 obtain ⟨K,hK⟩:∃ K,y+2=K:=⟨_,rfl⟩
 have hy5:y≤5:=by rw [←hy]; exact lenB_small _ (by have:=HN.out; omega)
 have HLen:=ι (fun W=>bits_Len (g - i) W (by have:=HG.out; omega) (by have:=HN.out; omega));rw [hy] at HLen;obtain ⟨gi,hgi⟩:∃ gi,g - i=gi:=⟨_,rfl⟩
 rw [hgi] at HLen;have hws:IntKind.i64.wrap ((g:Int) - (i:Int))=(gi:Int):=by rw [show (g:Int) - (i:Int)=(gi:Int) from by have:=HG.out; omega]; exact IntWalk.i64_in _ (by have:=HN.out; omega)
 have hwu:IntKind.u64.wrap (gi:Int)=(gi:Int):=IntWalk.u64_in _ (by have:=HN.out; omega);have hwK:IntKind.i64.wrap ((y:Int)+2)=(K:Int):=by rw [show (y:Int)+2=(K:Int) from by omega]; exact IntWalk.i64_in _ (by omega)
 have hnp:=Ac.need_pos HWf.out HIw.out.1 HIw.out.2;obtain ⟨E0,hE0⟩:=Int.eq_ofNat_of_zero_le (show 0≤Ac.needS (List.map (fun x:EnM=>x.en) M) g i by omega);have hep:(M[g]'(by have:=HG.out; omega)).en.hd.epo - (M[i+1]'(by have:=HG.out; omega)).en.hd.epo+1=(E0:Int):=by
  have e1:=Ac.need_epochs HWf.out HIw.out.1 HIw.out.2;rw [Ac.epoA_of HIw.out.2,Ac.epoA_of (show i+1<(List.map (fun x:EnM=>x.en) M).length by have:=HIw.out; omega),List.getElem_map,List.getElem_map] at e1;rw [←e1,hE0]
 have hE1:E0≤16:=by have:=HN.out; have:=HG.out; omega
 have HEps:=ι (fun W (hW:Below W4.heap.size W4 W)=>law35_epochs W M HWf.out (some ⟨ad,off,none⟩) mc (HE4.out.next hW) i g (by have:=HG.out; omega) (by have:=HG.out; omega));rw [hep] at HEps;obtain ⟨m1,hm1⟩:∃ m1,E0*K=m1:=⟨_,rfl⟩
 obtain ⟨mo,hmo⟩:∃ mo,m1*K=mo:=⟨_,rfl⟩
 have hb1:m1≤16*7:=by rw [←hm1]; exact Nat.mul_le_mul hE1 (by omega)
 have hb2:mo≤112*7:=by rw [←hmo]; exact Nat.mul_le_mul hb1 (by omega)
 have hwm:IntKind.i64.wrap ((E0:Int)*(K:Int))=(m1:Int):=by rw [←Int.natCast_mul,hm1]; exact IntWalk.i64_in _ (by omega)
 have hwn:IntKind.i64.wrap ((m1:Int)*(K:Int))=(mo:Int):=by rw [←Int.natCast_mul,hmo]; exact IntWalk.i64_in _ (by omega)
 have HSt:Hid (Ac.HalfI (List.map (fun x:EnM=>x.en) M) g K i g 0 mo):=ι (Ac.half_start HWf.out HIw.out.1 HIw.out.2 (by rw [hy]; exact hK.symm) (by rw [hE0,←hmo,←hm1,Nat.mul_assoc,Int.natCast_mul]) M rfl);have HMo:=ι hb2;clear hy hK hy5 hgi hnp hE0 hep hE1 hm1 hmo hb1 hb2;go_wp2_with fail
 refine (HLen.out _).mono ?_;rintro e W5' ⟨rfl,rfl⟩;go_wp2_with fail
 refine (HEps.out _ F5.out.b).mono ?_;rintro e W5b ⟨rfl,hb⟩;have F5:=Live.hb F5 hb;have HS5:=ι (HS5.out.next hb);clear hb HEps HLen hws hwu hwK;go_wp2_with fail
 clear hwm hwn;refine wp_loop_ghost_k (fun k a wr=>∀ Φ:Act→Prop,(∀ ⦃s0 s1 s2 s3 s4 s5 s6 s7 s8 s9 a0 a2 a3 a4 a5 a6 a7 a8 a9 b0 b1 b2 b3 b4 b5 b6 b7 b8 b9 c0 c1 c3 c5 c6 c7 c8 c9 d3 d4 d5 d6 d7 d8 d9 e2 e3 e4 e5 e6 e7 e8 e9 f0 f5 f6 f7 f8 f9 g6 g7 g8 g9 h0 h9 i0 i3 i4 i9 j0 j1 j2 j3 j4 j5 j6 j7 j8 j9 k0 k3 k4 k5 k6 k7 k8 k9 l0 l1 l2 l3 l4 l5 l6 l7 l8 l9 m0 m2 m3 m4 m5 m6 m7 m8 m9 n0 n3 n4 n5:Value⦄ (r:Nat) (j:Nat) (far:Nat) (s:SyM),(r+k=mo∧j≤g∧Ac.HalfI (List.map (fun x:EnM=>x.en) M) g K j far r mo∧SyAt wr sb s∧(∃ h:j<(List.map (fun x:EnM=>x.en) M).length,s.p.now=(((List.map (fun x:EnM=>x.en) M)[j]'h).hd,((List.map (fun x:EnM=>x.en) M)[j]'h).nxt,0))∧s.since.length≤r∧s.goal=(g:Int)∧s.far=(far:Int)∧s.rounds=(r:Int)∧Below W4.heap.size W4 wr)→Φ {tmps:=#[s0,s1,.pointer (some ⟨xb,0,none⟩),.pointer (some ⟨eb,0,none⟩),.bool false,.slice (some ⟨ad,off,none⟩) M.length mc,.int .i64 (i:Int),.int .i64 (g:Int),.pointer (some ⟨mb+1,0,none⟩),.pointer (some ⟨sb,0,none⟩),.int .i64 0,.int .i64 (K:Int),.int .i64 (mo:Int),s2,s3,s4,s5,s6,s7,s8,s9,a0,a2,a3,a4,a5,a6,a7,a8,a9,b0,b1,b2,b3,b4,b5,b6,b7,b8,b9,c0,c1,c3,c5,c6,c7,c8,c9,d3,d4,d5,d6,d7,d8,d9,e2,e3,e4,e5,e6,e7,e8,e9,f0,f5,f6,f7,f8,f9,g6,g7,g8,g9,h0,h9,i0,i3,i4,i9,.int .i64 (mo:Int),.int .i64 (r:Int),j0,j1,j2,j3,j4,j5,j6,j7,j8,j9,k0,k3,k4,k5,k6,k7,k8,k9,l0,l1,l2,l3,l4,l5,l6,l7,l8,l9,m0,m2,m3,m4,m5,m6,m7,m8,m9,n0,n3,n4,n5],defers:= []})→Φ a) (mo) ?_ ?_
 ·refine fun Φ hΦ=>hΦ (0) (i) (g) (⟨⟨p.en.hd,kA,kc,p.en.nxt,nA,nc,0⟩,[],none,0,(g:Int),(g:Int),0⟩) ?_;exact ⟨by omega,by have:=HIw.out.1; omega,HSt.out,HS5.out,⟨by have:=HIw.out; omega,by rw [HEp.out]; rfl⟩,Nat.zero_le _,rfl,rfl,rfl,F5.out.b⟩
 ·intro k1 a1 wr1 hI1 J1 K1 hJ1 hK1;refine hI1 (fun a=>Code.wp _ _ _ a _) ?_;clear hI1 a1;iterate 109 (intro _)
  intro r j far s hrel
  show Code.wp _ _ _ _ _;obtain ⟨h1,h2,h3,hS,⟨hj,h4⟩,h5,h6,h7,h8,hb⟩:=hrel;have HO:=ι (HWf.out.one j hj);have hhg:s.now.h.hgt=(j:Int):=by have e:=congrArg (fun p:TrP=>p.1) h4; rw [show s.now.h=((List.map (fun x:EnM=>x.en) M)[j]'hj).hd from e]; exact HO.out.hgt
  have HS6:=ι hS;have F5':Hid (Live W4 wr1 []):=ι ⟨hb,by simp,List.Pairwise.nil⟩;have HInv:=ι (And.intro h6 (And.intro h8 (And.intro hhg (And.intro h7 (And.intro h5 (And.intro h1 h2))))));have HHf:=ι h3;have HRm:=ι (show r≤mo by omega);have H4:=ι (show ∃ h:j<(List.map (fun x:EnM=>x.en) M).length,s.p.now=(((List.map (fun x:EnM=>x.en) M)[j]'h).hd,((List.map (fun x:EnM=>x.en) M)[j]'h).nxt,0) from ⟨hj,h4⟩);by_cases hr:r<mo;rotate_left
  ·have hr0:((r:Int)<(mo:Int))=False:=by simp; omega
   have hjg:j=g:=by
    by_cases hjg:j<g
    ·exact absurd (Ac.half_more HWf.out HIw.out.2 hjg h3).2.2.1 hr
    ·omega
   subst hjg;have F7:=F5';have HS7:=HS6;clear HO h1 h2 h3 h4 h5 h6 h7 h8 hS hb hj hr hhg F5' HS6 F5 HS5;go_upto_region 22 with fail
   have hjl:=HG.out.2;obtain ⟨pg,hpg⟩:∃ p,M[j]'hjl=p:=⟨_,rfl⟩
   have HOg:Hid (Led.One pg.en j):=ι (by have:=HWf.out.one j (by rw [List.length_map]; exact hjl); rw [List.getElem_map,hpg] at this; exact this);have HOkg:=ι (hpg ▸ HE4.out.o _ (List.getElem_mem hjl));have hnh:s.now.h=pg.en.hd:=by
    obtain ⟨h,e⟩:=H4.out
    have:=congrArg (fun p:TrP=>p.1) e
    rw [show s.now.h=((List.map (fun x:EnM=>x.en) M)[j]'h).hd from this,List.getElem_map,hpg]
   obtain ⟨ad',off',hMA',_,hcg⟩:=ent_cells HE4.out.r hjl;injection hMA' with hMA'
   injection hMA' with ea eo _
   subst ea;subst eo;rw [hpg] at hcg;have HCg:Hid (∀ W,Below W4.heap.size W4 W→W.rangeAt ad (off+j*17) (η pg.en.hd [.slice pg.kA pg.en.hd.sk.length pg.kc])):=ι (fun W hW q u hu=>by
    refine hcg W hW q u ?_;have hq:q<11:=(List.getElem?_eq_some_iff.1 hu).1;rw [←hu];rcases q with _|_|_|_|_|_|_|_|_|_|_|q<;>first|rfl|omega)
   have HDo:=ι (fun W (hW:Below wr1.heap.size wr1 W)=>sync_Done W sb s (HS7.out.next hW));rw [HInv.out.1,HInv.out.2.2.1,decide_eq_true (show (j:Int)≤(j:Int) by omega)] at HDo;have HTr:=ι (fun W (hW:Below wr1.heap.size wr1 W)=>sync_Trusted W sb s (HS7.out.next hW));unfold TruEnd at HTr;rw [hnh] at HTr;have SZH2:Hid ((Tryz.prog.info? 41).map (·.size)=some 11):=ι (by kernel_rfl);have hj1:(j:Int)<M.length:=by omega
   have hj0:(0:Int)≤j:=by omega
   have HRo:=ι (fun W (hW:Below wr1.heap.size wr1 W)=>sync_Rounds W sb s (HS7.out.next hW));rw [HInv.out.2.1] at HRo;have hrm:(r:Int)≤(mo:Int):=by have:=HRm.out; omega
   clear hcg;have FB:=ι (Live.start wr1);have F:=live_drew F7;have FB:=live_drew FB;refine wp_region_held_drew (S:=fun w'=>w'.rangeAt ad (off+j*17) (η pg.en.hd [.slice pg.kA pg.en.hd.sk.length pg.kc])∧True) (by kernel_rfl) ⟨HCg.out _ F.out.b,trivial⟩ (fun hHeld=> ?_);generalize wr1.drew=Wd at F FB hHeld ⊢;exact z_37
  have hr1:(r:Int)<(mo:Int):=by omega
  have hwr:IntKind.i64.wrap ((r:Int)+1)=(r:Int)+1:=IntWalk.i64_in _ (by have:=HMo.out; omega);clear HO h1 h2 h3 h4 h5 h6 h7 h8 hS hb hj hr hhg;go_wp2_with fail
  refine (sync_Ask wr1 sb s HS6.out).mono ?_;intro e W6 hA;unfold AskEnd at hA;rw [HInv.out.1,HInv.out.2.2.1,HInv.out.2.2.2.1] at hA;by_cases hd:g≤j
  ·rw [if_pos (by omega),decide_eq_true (by omega)] at hA;obtain ⟨rfl,hb⟩:=hA;have F6:=Live.hb F5' hb;have HS6:=ι (HS6.out.next hb);have hjg:j=g:=by have:=HInv.out.2.2.2.2.2.2; omega
   subst hjg;clear hb hd hr1 hwr F5' F5 HS5;have F6a:=Live.ha F6 #[ζ,ζ,ζ,ε,ε,ζ] 50;have TH:(W6.alloc (.cells #[ζ,ζ,ζ,ε,ε,ζ] 50)).there W6.heap.size 0 6:=F6a.out.there 0 6 rfl (by decide);have F7:Hid (Live W4 ((W6.alloc (.cells #[ζ,ζ,ζ,ε,ε,ζ] 50)).setCells W6.heap.size 0 [ζ,ζ,ζ,ε,ε,ζ]) [(W6.heap.size,50,#[ζ,ζ,ζ,ε,ε,ζ])]):=Live.hall F6a 0 _ rfl rfl;have HS7:Hid (SyAt ((W6.alloc (.cells #[ζ,ζ,ζ,ε,ε,ζ] 50)).setCells W6.heap.size 0 [ζ,ζ,ζ,ε,ε,ζ]) sb s):=ι (HS6.out.next (((Below.refl _ W6).alloc (Nat.le_refl _) _).grown (grown_setAll (g:=W6.heap.size) [ζ,ζ,ζ,ε,ε,ζ] 0 _ (World.grownBy.refl _ _)) (by rw [World.size_alloc]; omega) (fun k e=>Nat.le_of_eq (Option.some.inj e))));go_upto_region 22 with ((with_reducible refine at_store 85 ?_); refine wpList_store_mid rfl 50 _ _ rfl W6.heap.size 0 #[ζ,ζ,ζ,ε,ε,ζ] rfl rfl TH SZQ.out (by simp [Value.oneCell']) ?_)
   generalize World.setCells _ W6.heap.size 0 _=W7 at F7 HS7 ⊢;generalize W6.heap.size=qb at F7 ⊢;clear TH F6a F6 HS6;have hjl:=HG.out.2;obtain ⟨pg,hpg⟩:∃ p,M[j]'hjl=p:=⟨_,rfl⟩
   have HOg:Hid (Led.One pg.en j):=ι (by have:=HWf.out.one j (by rw [List.length_map]; exact hjl); rw [List.getElem_map,hpg] at this; exact this);have HOkg:=ι (hpg ▸ HE4.out.o _ (List.getElem_mem hjl));have hnh:s.now.h=pg.en.hd:=by
    obtain ⟨h,e⟩:=H4.out
    have:=congrArg (fun p:TrP=>p.1) e
    rw [show s.now.h=((List.map (fun x:EnM=>x.en) M)[j]'h).hd from this,List.getElem_map,hpg]
   obtain ⟨ad',off',hMA',_,hcg⟩:=ent_cells HE4.out.r hjl;injection hMA' with hMA'
   injection hMA' with ea eo _
   subst ea;subst eo;rw [hpg] at hcg;have HCg:Hid (∀ W,Below W4.heap.size W4 W→W.rangeAt ad (off+j*17) (η pg.en.hd [.slice pg.kA pg.en.hd.sk.length pg.kc])):=ι (fun W hW q u hu=>by
    refine hcg W hW q u ?_;have hq:q<11:=(List.getElem?_eq_some_iff.1 hu).1;rw [←hu];rcases q with _|_|_|_|_|_|_|_|_|_|_|q<;>first|rfl|omega)
   have HDo:=ι (fun W (hW:Below W7.heap.size W7 W)=>sync_Done W sb s (HS7.out.next hW));rw [HInv.out.1,HInv.out.2.2.1,decide_eq_true (show (j:Int)≤(j:Int) by omega)] at HDo;have HTr:=ι (fun W (hW:Below W7.heap.size W7 W)=>sync_Trusted W sb s (HS7.out.next hW));unfold TruEnd at HTr;rw [hnh] at HTr;have SZH2:Hid ((Tryz.prog.info? 41).map (·.size)=some 11):=ι (by kernel_rfl);have hj1:(j:Int)<M.length:=by omega
   have hj0:(0:Int)≤j:=by omega
   have HRo:=ι (fun W (hW:Below W7.heap.size W7 W)=>sync_Rounds W sb s (HS7.out.next hW));rw [HInv.out.2.1] at HRo;have hrm:(r:Int)≤(mo:Int):=by have:=HRm.out; omega
   clear hcg;have FB:=ι (Live.start W7);have F:=live_drew F7;have FB:=live_drew FB;refine wp_region_held_drew (S:=fun w'=>w'.rangeAt ad (off+j*17) (η pg.en.hd [.slice pg.kA pg.en.hd.sk.length pg.kc])∧True) (by kernel_rfl) ⟨HCg.out _ F.out.b,trivial⟩ (fun hHeld=> ?_);generalize W7.drew=Wd at F FB hHeld ⊢;exact z_37
  ·rw [if_neg (by omega),decide_eq_false (by omega)] at hA;obtain ⟨rfl,hb⟩:=hA;have F6:=Live.hb F5' hb;have HS6:=ι (HS6.out.next hb);have hmore:=Ac.half_more HWf.out HIw.out.2 (show j<g by omega) HHf.out;have HJ:=ι (And.intro (show j<g by omega) hmore);clear hb hd F5' hmore;have F6a:=Live.ha F6 #[ζ,ζ,ζ,ε,ε,ζ] 50;have TH:(W6.alloc (.cells #[ζ,ζ,ζ,ε,ε,ζ] 50)).there W6.heap.size 0 6:=F6a.out.there 0 6 rfl (by decide);have F7:Hid (Live W4 ((W6.alloc (.cells #[ζ,ζ,ζ,ε,ε,ζ] 50)).setCells W6.heap.size 0 [.int .i64 2,j,far,ε,ε,ζ]) [(W6.heap.size,50,#[.int .i64 2,j,far,ε,ε,ζ])]):=Live.hall F6a 0 _ rfl rfl;have HS7:Hid (SyAt ((W6.alloc (.cells #[ζ,ζ,ζ,ε,ε,ζ] 50)).setCells W6.heap.size 0 [.int .i64 2,j,far,ε,ε,ζ]) sb s):=ι (HS6.out.next (((Below.refl _ W6).alloc (Nat.le_refl _) _).grown (grown_setAll (g:=W6.heap.size) [.int .i64 2,j,far,ε,ε,ζ] 0 _ (World.grownBy.refl _ _)) (by rw [World.size_alloc]; omega) (fun k e=>Nat.le_of_eq (Option.some.inj e))));go_upto_region 18 with ((with_reducible refine at_store 85 ?_); refine wpList_store_mid rfl 50 _ _ rfl W6.heap.size 0 #[.int .i64 2,j,far,ε,ε,ζ] rfl rfl TH SZQ.out (by simp [Value.oneCell']) ?_)
   generalize World.setCells _ W6.heap.size 0 _=W7 at F7 HS7 ⊢;generalize W6.heap.size=qb at F7 ⊢;clear TH F6a F6 HS6;have c2:=(F7.out.blk 0 rfl).d2;have hjl:far<M.length:=by have:=HG.out; have:=HJ.out.2.2.1; omega
   obtain ⟨p3,hp3⟩:∃ p,M[far]'hjl=p:=⟨_,rfl⟩
   have HO3:Hid (Led.One p3.en far):=ι (by have:=HWf.out.one far (by rw [List.length_map]; exact hjl); rw [List.getElem_map,hp3] at this; exact this);have HOk3:=ι (hp3 ▸ HE4.out.o _ (List.getElem_mem hjl));have HE3:Hid (∃ h:far<(List.map (fun x:EnM=>x.en) M).length,p3.en=(List.map (fun x:EnM=>x.en) M)[far]'h):=ι ⟨by rw [List.length_map]; exact hjl,by rw [List.getElem_map,hp3]⟩;have HAn:=ι (law35_answer W7 M (some ⟨ad,off,none⟩) mc (HE4.out.next F7.out.b) (by have:=HN.out; omega) far hjl p3 hp3 (Pw.okM_len HO3.out.set).2 (Pw.okM_len HO3.out.nxt).2);clear hp3 hjl;go_wp2_with fail
   refine HAn.out.mono ?_;rintro e W9 ⟨hA,hc,sA,sc,nA3,nc3,gA,gc,rfl,hb,r1,r2,r3,r4,f1,f2,f3,f4⟩;have F9:=Live.hb F7 hb;have HS9:=ι (HS7.out.next hb);have hlt5:=HS7.out.blk.lt;have HBg:Hid (∀ W,W9.grownBy W (some sb)→Below W4.heap.size W4 W):=ι (fun W hg=>F9.out.b.grown hg F9.out.b.size (fun k e=>by have:=Option.some.inj e; have:=HSb.out; omega));have HAt:Hid (∀ W,W9.grownBy W (some sb)→AnAt W (ansOf p3 hA hc sA sc nA3 nc3 gA gc)):=ι (fun W hg=>ans_at HOk3.out HO3.out HSb.out hlt5 F9.out.b hg r1 r2 r3 r4 f1 f2 f3 f4);obtain ⟨i6,i8,ihg,i7,i5,i1,i2⟩:=HInv.out;have hfl:=HJ.out.2.2.1;have HTk:=ι (sync_Take W9 sb s HS9.out (ansOf p3 hA hc sA sc nA3 nc3 gA gc) (far:Int) 0 mb v (Led.signW bad (List.map (fun x:EnM=>x.en) M)) HAt.out (fun W hg=>HTab.out.below (HBg.out W hg)) (fun W hg=>HT4.out.next (HBg.out W hg)) (by have:=(Pw.okM_len HO3.out.nxt).2; show p3.en.nxt.length≤_; omega) (fun y hy=>by have e:y=(p3.en.hd,p3.kA,p3.kc):=(by simpa [ansOf] using hy); subst e; have:=HO3.out.ok.sk_le; show p3.en.hd.sk.length≤_; omega) (by omega) (by have:=HMo.out; omega) (by omega) (by have:=HN.out; have:=HG.out; omega) (by omega) (by have:=HN.out; have:=HG.out; omega) (by have:=HMo.out; omega));clear hb r1 r2 r3 r4 f1 f2 f3 f4 HAn hlt5 F7 HS7 HAt i1 i2 i5 i6 i7 i8 ihg hfl c2;have HPu:Hid (∀ cd (s':SyM),TakeR s.p (ansOf p3 hA hc sA sc nA3 nc3 gA gc) (far:Int) 0 (Led.signW bad (List.map (fun x:EnM=>x.en) M)) cd s'.p→(cd=0∨cd=340)∧∃ j' far',j'≤g∧Ac.HalfI (List.map (fun x:EnM=>x.en) M) g K j' far' (r+1) mo∧(∃ h:j'<(List.map (fun x:EnM=>x.en) M).length,s'.p.now=(((List.map (fun x:EnM=>x.en) M)[j']'h).hd,((List.map (fun x:EnM=>x.en) M)[j']'h).nxt,0))∧s'.since.length≤r+1∧s'.goal=(g:Int)∧s'.far=(far':Int)∧s'.rounds=((r+1:Nat):Int)):=ι (fun cd s' hR=>by
    obtain ⟨i6,i8,ihg,i7,i5,i1,i2⟩:=HInv.out;obtain ⟨hj,h4⟩:=H4.out;obtain ⟨hjj,hpe⟩:=HE3.out;obtain ⟨hjg,hlt,hle,hrm,hz,hn⟩:=HJ.out;have hRd:=round_own HWf.out (by rw [List.length_map]; have:=HN.out; omega) bad hj hjj (ta:=0) (now:=0) (by decide) (by decide) (by decide) (by decide) hpe h4 (by show (j:Int)<s.goal; rw [i6]; omega) (by show (far:Int)≤s.far; rw [i7]; omega) hR;by_cases ho:Ac.ownC (List.map (fun x:EnM=>x.en) M) j far=0
    ·have hcd:cd=0:=by rw [hRd.code,ho]
     obtain ⟨_,hp'⟩:=hRd.ok hcd;have hsl:s'.since.length=s.since.length+1:=by
      have:=congrArg (fun p:SyP=>p.since.length) hp'
      simpa [SyM.p] using this
     exact ⟨.inl hcd,far,g,hle,hz ho,⟨hjj,congrArg SyP.now hp'⟩,by omega,(congrArg SyP.goal hp').trans i6,(congrArg SyP.far hp').trans i6,(congrArg SyP.rounds hp').trans (by show s.rounds+1=_; rw [i8]; rfl)⟩
    ·obtain ⟨h340,h2f,hhf⟩:=hn ho;have hcd:cd=340:=by rw [hRd.code,h340]
     have hp':=hRd.half hcd;have hsl:s'.since.length=s.since.length:=by
      have:=congrArg (fun p:SyP=>p.since.length) hp'
      simpa [SyM.p] using this
     refine ⟨.inr hcd,j,j+(far - j) / 2,i2,hhf,⟨hj,(congrArg SyP.now hp').trans h4⟩,by omega,(congrArg SyP.goal hp').trans i6,(congrArg SyP.far hp').trans ?_,(congrArg SyP.rounds hp').trans (by show s.rounds+1=_; rw [i8]; rfl)⟩
     show halfFar s.far j=_;unfold halfFar;rw [i7,if_neg (by omega)];omega)
   unfold ansOf at HTk HPu;simp only [List.length_cons,List.length_nil,Nat.zero_add,List.length_map] at HTk;go_wp2_with fail
   refine HTk.out.mono ?_;rintro e W10 ⟨cd,s',rfl,hb,hS',hR⟩;obtain ⟨hcd,j',far',g0,gh,g1,g2,g3,g4,g5⟩:=HPu.out cd s' hR;have HS10:=ι hS';have HBw:=ι (F9.out.b.trans (hb.mono HSb.out));have HGs:=ι (And.intro g0 (And.intro gh (And.intro g1 (And.intro g2 (And.intro g3 (And.intro g4 g5))))));clear hb hS' hR g0 gh g1 g2 g3 g4 g5 HTk HPu F9 HS9 HBg;have HNx:Hid (Ac.HalfI (List.map (fun x:EnM=>x.en) M) g K j' far' (r+1) mo∧r+1+(mo - (r+1))=mo):=ι ⟨HGs.out.2.1,by have:=HInv.out.2.2.2.2.2.1; have:=HJ.out.2.2.2.1; omega⟩;rcases hcd with rfl|rfl
   ·go_wp2_with fail
    refine Handed.intro (mo - (r+1)) ?_ (hJ1 _ _ _ (fun Φ hΦ=>hΦ (r+1) (j') (far') (s') ?_))
    ·have:=HInv.out.2.2.2.2.2.1; have:=HJ.out.2.2.2.1; omega
    ·obtain ⟨g0,gh,g1,g2,g3,g4,g5⟩:=HGs.out;exact ⟨HNx.out.2,g0,gh,HS10.out,g1,g2,g3,g4,g5,HBw.out⟩
   ·go_wp2_with fail
    refine Handed.intro (mo - (r+1)) ?_ (hJ1 _ _ _ (fun Φ hΦ=>hΦ (r+1) (j') (far') (s') ?_))
    ·have:=HInv.out.2.2.2.2.2.1; have:=HJ.out.2.2.2.1; omega
    ·obtain ⟨g0,gh,g1,g2,g3,g4,g5⟩:=HGs.out;exact ⟨HNx.out.2,g0,gh,HS10.out,g1,g2,g3,g4,g5,HBw.out⟩
end
end Go.Proofs.YtdkiloganbhfkaaGreatDoor