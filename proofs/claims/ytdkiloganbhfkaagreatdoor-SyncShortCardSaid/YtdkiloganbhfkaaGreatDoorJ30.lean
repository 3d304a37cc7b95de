import Derived.Test.YtdkiloganbhfkaaGreatDoorJ29
set_option linter.unusedSimpArgs false
set_option linter.unusedVariables false
set_option maxHeartbeats 4000000
set_option maxRecDepth 100000
namespace Go.Proofs.YtdkiloganbhfkaaGreatDoor
section
open Go.RowKit Go.Instr
attribute [local go_sem] ba_get ByteArray.mk_append_mk
attribute [local go_sem ↓] Go.wp_at_zero Go.wp_at_succ
theorem info_ent:(Tryz.prog.info? 46).map (fun i=>(i.zero,i.size,i.bytes))=some (some (.agg (θ [ν,ε,ν,ν,ν,ν,ν])),17,288):=by kernel_rfl
theorem foldl_set:∀ (pl Z pre:List Value),pl.length=Z.length→List.foldl (fun (cs:Array Value) (x:Value × Nat)=>cs.setIfInBounds x.snd x.fst) (pre++Z).toArray (pl.zipIdx pre.length)=(pre++pl).toArray
 | [],Z,pre,h=>by
  have:Z= []:=List.length_eq_zero_iff.1 (by simpa using h.symm)
  subst this;rfl
 |v::r,[],pre,h=>by simp at h
 |v::r,z::Z,pre,h=>by
  rw [List.zipIdx_cons,List.foldl_cons];have e:(pre++z::Z).toArray.setIfInBounds pre.length v=((pre++ [v])++Z).toArray:=by simp
  have ih:=foldl_set r Z (pre++ [v]) (by simpa using h);rw [List.length_append] at ih
  show List.foldl _ ((pre++z::Z).toArray.setIfInBounds pre.length v) _=_;rw [e];simpa using ih
theorem ref20_Add (w:World) (l:List EnM) (n:Nat) (hn:l.length=n+1) (hW:Led.Wf (l.map (·.en))) (A:Option Addr) (c:Nat) (hc:l.length≤c) (HL:EntsAt w A l) (view:Int) (tl:List TxM) (xA:Option Addr) (xc:Nat) (HT:TxsAt w xA tl):
  Calls Tryz.prog 37 #[.slice A l.length c,view,.slice xA tl.length xc] w (LedEnd w (Led.addW (l.map (·.en)) view (tl.map (·.1)))):=by
 have HM:=ι (ref20_Make w l n hn hW A c HL view tl xA xc HT);have HX:Hid (Led.addW (l.map (·.en)) view (tl.map (·.1))=if Led.makeC (l[n]'(by omega)).en view (tl.map (·.1))=0 then (l.map (·.en)++ [Led.makeE (l.map (·.en)) (l[n]'(by omega)).en view (tl.map (·.1))],0) else (l.map (·.en),Led.makeC (l[n]'(by omega)).en view (tl.map (·.1)))):=ι (by
  unfold Led.addW;rw [Led.last_of (show (l.map (·.en)).length=n+1 by rw [List.length_map,hn])];simp only [List.getElem_map])
 have hle:l.length≤1048577:=by have:=hW.le; rw [List.length_map] at this; omega
 have HLL:=ι HL;unfold MakeEnd at HM;generalize (l[n]'(by omega)).en=q at HM HX;generalize hm:Led.makeE (l.map (·.en)) q view (tl.map (·.1))=ME at HM HX;generalize hcd:Led.makeC q view (tl.map (·.1))=cd at HM HX;generalize Led.addW (l.map (·.en)) view (tl.map (·.1))=X at HX ⊢;have HP:Hid (∀ (M:List EnM) (k:Nat) A' c' w',Below w.heap.size w w'→(M.map (·.en),k)=X→EntsAt w' A' M→M.length≤c'→LedEnd w X (.returned (.tuple #[.slice A' M.length c',k])) w'):=ι (fun M k A' c' w' h1 h2 h3 h4=>by rw [←h2]; exact ⟨M,A',c',rfl,h1,rfl,h3,h4⟩);generalize LedEnd w X=P at HP ⊢;have HC:=ι hc;have HLE:=ι hle;clear hm hcd HT hW hn hc hle HL;have SZE:Hid ((Tryz.prog.info? 46).map (·.size)=some 17):=ι (by kernel_rfl);go_enter Tryz.func37,Tryz.ntmps37
 go_wp2_with fail
 refine HM.out.mono ?_;rintro e w1 ⟨x,rfl,hb,hok,hno⟩;have F1:Hid (Live w w1 []):=ι ⟨hb,by simp,List.Pairwise.nil⟩;have HN:=ι hno;have HO:=ι hok;clear hb hok hno HM;have HPV0:Hid (PVs x (ecell x).toArray):=ι (pvs x);have hpl:((η x.en.hd [.slice x.kA x.en.hd.sk.length x.kc,x.en.sum,.slice x.xA x.tl.length x.xc,.slice x.rA x.en.rcs.length x.rc,.slice x.iA x.n x.ic,.slice x.sA x.en.set.length x.sc,.slice x.nA x.en.nxt.length x.nc]):List Value)=ecell x:=rfl;rw [hpl];clear hpl;obtain ⟨pl,hpl⟩:∃ z,ecell x=z:=⟨_,rfl⟩
 have HPE:=ι hpl;rw [hpl] at HPV0 ⊢;clear hpl;have hsz:pl.length=17:=by simpa using HPV0.out.sz
 have HSz:=ι hsz;have ONP:=ι HPV0.out.one;have SZL:(Tryz.prog.info? 46).map (·.size)=some pl.toArray.size:=by rw [HPV0.out.sz]; exact SZE.out
 have SZM:(Tryz.prog.info? 46).map (·.size)=some pl.length:=SZL;have F2:=Live.ha F1 (θ [ν,ε,ν,ν,ν,ν,ν]) 46;have TH:(w1.alloc (.cells (θ [ν,ε,ν,ν,ν,ν,ν]) 46)).there w1.heap.size 0 pl.toArray.size:=by rw [HPV0.out.sz]; exact F2.out.there 0 17 rfl (by decide)
 clear hsz;by_cases hc:cd=0
 ·subst hc;have HX0:=ι (HX.out.trans (if_pos rfl));obtain ⟨rfl,hxo⟩:=HO.out rfl;have HXO:=ι hxo;clear hxo HX HO HN;go_upto_region 4 with ((with_reducible refine at_store 16 ?_); refine wpList_store_mid rfl 46 _ _ rfl w1.heap.size 0 pl.toArray rfl rfl TH SZL ONP.out ?_)
  have F3:Hid (Live w ((w1.alloc (.cells (θ [ν,ε,ν,ν,ν,ν,ν]) 46)).setCells w1.heap.size 0 pl) [(w1.heap.size,46,pl.toArray)]):=Live.hall F2 0 pl.toArray.toList rfl (by show 17=pl.length; exact HSz.out.symm);have hb3:Below w1.heap.size w1 ((w1.alloc (.cells (θ [ν,ε,ν,ν,ν,ν,ν]) 46)).setCells w1.heap.size 0 pl):=(Live.hall (Live.ha (ι (Live.start w1)) (θ [ν,ε,ν,ν,ν,ν,ν]) 46) 0 pl.toArray.toList rfl (by show 17=pl.length; exact HSz.out.symm)).out.b;generalize World.setCells _ w1.heap.size 0 pl=w3 at F3 hb3 ⊢;have HXO:=ι (HXO.out.next hb3);clear TH F2 hb3;generalize w1.heap.size=xb at F3 ⊢;obtain ⟨i0,hi0,hz0,hz1,hz2⟩:=info_parts info_ent;have R3:=ι (HLL.out.next F3.out.b);have hle:=HLE.out;go_upto_region 6 with (at_builtin; refine wpList_append_any w3 rfl _ _ 30 rfl w3.heap.size 46 i0 _ 17 288 Tryz.underlying30 hi0 hz0 hz1 hz2 rfl (by decide) (.slice none 0 0) 0 [] rfl (World.ownsRow_nil _ _ _ _) w3.heap.size A l.length c (ecells l) rfl R3.out.r (ecells_one l) (by simp only [maxLen]; omega) (by omega) (Nat.le_refl _) ?_; intro v4 w4 own4 hg4 _; obtain ⟨A4,c4,rfl,_,_,_⟩:=own_form own4; have O4:=ι (And.intro own4 hg4); clear own4 hg4)
  have hb4:Below w3.heap.size w3 w4:=(Below.refl _ w3).grown O4.out.2 (Nat.le_refl _) (by intro k hk; simp [Value.ownBlock] at hk);have F4:=Live.hb F3 hb4;have OW4:Hid (w4.ownsRow w3.heap.size 46 17 (.slice A4 l.length c4) l.length (ecells l)):=ι (by have:=O4.out.1; simpa using this);have RG:w4.rangeAt xb 0 pl:=range_of_blk (F4.out.blk 0 rfl);have HB4:=ι hb4;have HFo:List.foldl (fun (cs:Array Value) (x:Value × Nat)=>cs.setIfInBounds x.snd x.fst) (θ [ν,ε,ν,ν,ν,ν,ν]) pl.zipIdx=pl.toArray:=foldl_set pl (θ [ν,ε,ν,ν,ν,ν,ν]) [] (by rw [HSz.out]; rfl);clear hb4 O4;have hsz:=HSz.out;go_wp2_with (first|((with_reducible refine at_load 26 ?_); refine wpList_load_mid rfl 46 _ rfl xb 0 rfl pl _ RG Tryz.underlying46 rfl SZM ?_)|(at_builtin; generalize hF:List.foldl _ _ pl.zipIdx=cs; have hF:=hF.symm.trans HFo; subst hF; refine wpList_append_new w4 46 pl rfl _ _ 30 rfl w3.heap.size 17 288 _ info_ent Tryz.underlying30 rfl (by decide) (.slice A4 l.length c4) l.length (ecells l) rfl OW4.out 1 1 rfl HSz.out (fun u hu=>by rw [←HPE.out] at hu; exact ecell_one x u hu) (by simp only [maxLen]; omega) (by omega) w3.heap.size w3 HB4.out (Nat.le_refl _) HB4.out.size ?_; intro v5 w5 own5 hb5 _ _ _; obtain ⟨A5,c5,rfl,_,hc5,_⟩:=own_form own5; have O5:=ι (And.intro own5 (And.intro hb5 hc5)); clear own5 hb5 hc5))
  have hb5:=O5.out.2.1;have hlen:(l++ [x]).length=l.length+1:=by simp
  have hr:=Reads.of_own O5.out.1;rw [←HPE.out,ecells_snoc,←hlen] at hr
  have:=HP.out (l++ [x]) 0 A5 c5 _ (F3.out.b.nxt hb5) (by rw [HX0.out,List.map_append]; rfl) ⟨hr,fun e he=>by
   rw [List.mem_append,List.mem_singleton] at he;rcases he with he|rfl
   ·exact (R3.out.next hb5).o e he
   ·exact HXO.out.next hb5⟩ (by rw [hlen]; exact O5.out.2.2)
  rw [hlen] at this;exact this
 ·have hc1:((cd:Int) !=0)=true:=by simp; exact hc
  have HX1:=ι (HX.out.trans (if_neg hc));clear HX HO HN;go_wp2_with ((with_reducible refine at_store 16 ?_); refine wpList_store_mid rfl 46 _ _ rfl w1.heap.size 0 pl.toArray rfl rfl TH SZL ONP.out ?_)
  have F3:=Live.hall F2 0 pl.toArray.toList rfl (by show 17=pl.length; exact HSz.out.symm);exact HP.out l cd A c _ F3.out.b HX1.out.symm (HLL.out.next F3.out.b) HC.out
abbrev BlkM:=Int × List TxM × Option Addr × Nat
def wbcell (b:BlkM):List Value:= [.int .i64 b.1,.slice b.2.2.1 b.2.1.length b.2.2.2]
abbrev wbcells (l:List BlkM):List Value:=l.flatMap wbcell
theorem wbcell_len (b:BlkM):(wbcell b).length=2:=rfl
structure BlksAt (w:World) (A:Option Addr) (l:List BlkM):Prop where
 r:Reads w w.heap.size 2 A l.length (wbcells l)
 t:∀ b∈l,TxsAt w b.2.2.1 b.2.1
 n:l.length≤9223372036854775807
theorem BlksAt.next {w w':World} {A:Option Addr} {l:List BlkM} (h:BlksAt w A l) (hb:Below w.heap.size w w'):BlksAt w' A l:=
 ⟨(h.r.below hb).more hb.size,fun b hm=>(h.t b hm).next hb,h.n⟩
def BlkM.p (b:BlkM):Int × List Ex.Tx:=(b.1,b.2.1.map (·.1))
def Led.madeW (l:List Ex.Ac) (set:List Pw.Mem) (bs:List (Int × List Ex.Tx)):List En:=if (Ex.genW l set).2=0 then Led.growW [Led.newE (Ex.genW l set).1 set] bs else []
def MadeLedEnd (w:World) (L:List En) (e:Ending) (w':World):Prop:=
 ∃ (M:List EnM) (A:Option Addr) (c:Nat),e= .returned (.slice A M.length c)∧Below w.heap.size w w'∧M.map (·.en)=L∧EntsAt w' A M∧M.length≤c
theorem law35_made (w:World) (l:List Ex.Ac) (hs:∀ x∈l,x.1.length≤9223372036854775807) (A:Option Addr) (c:Nat) (HR:Reads w w.heap.size 3 A l.length (acells l)) (set:List Pw.Mem) (hm:∀ x∈set,x.1.length≤9223372036854775807) (B:Option Addr) (d:Nat) (HS:Reads w w.heap.size 2 B set.length (mcells set))
  (bl:List BlkM) (C:Option Addr) (ce:Nat) (HB:BlksAt w C bl) (bad:Value):
  Calls Tryz.prog 8 #[.agg #[.slice A l.length c,.slice B set.length d,.slice C bl.length ce,bad]] w (MadeLedEnd w (Led.madeW l set (bl.map BlkM.p))):=by
 have HP:Hid (∀ (M:List EnM) A' c' w',Below w.heap.size w w'→M.map (·.en)=Led.madeW l set (bl.map BlkM.p)→EntsAt w' A' M→M.length≤c'→MadeLedEnd w (Led.madeW l set (bl.map BlkM.p)) (.returned (.slice A' M.length c')) w'):=ι (fun M A' c' w' h1 h2 h3 h4=>⟨M,A',c',rfl,h1,h2,h3,h4⟩);generalize MadeLedEnd w (Led.madeW l set (bl.map BlkM.p))=P at HP ⊢;have hg:=Ex.genW_good l set;have hok:=@genW_ok l set;have HX:Hid (Led.madeW l set (bl.map BlkM.p)=if (Ex.genW l set).2=0 then Led.growW [Led.newE (Ex.genW l set).1 set] (bl.map BlkM.p) else []):=ι rfl;have HNew:=ι (fun W (hW:Below w.heap.size w W)=>ref20_New W l hs A c ((HR.below hW).more hW.size) set hm B d ((HS.below hW).more hW.size));have HXn:Hid (Led.newW l set=if (Ex.genW l set).2=0 then ([Led.newE (Ex.genW l set).1 set],0) else ([],(Ex.genW l set).2)):=ι rfl;generalize Led.newW l set=NW at HNew HXn;generalize Led.madeW l set (bl.map BlkM.p)=X at *;generalize Ex.genW l set=g at *;obtain ⟨t,cd⟩:=g;simp only at hg hok HX HXn;have HBB:=ι HB;have HGo:=ι (And.intro hg hok);clear hg hok HR HS HB hs hm;go_enter Tryz.func8,Tryz.ntmps8
 go_upto_region 1 with fail
 have F0:=Live.ha (ι (Live.start w)) #[.slice A l.length c,.slice B set.length d,.slice C bl.length ce,bad] 27;generalize World.alloc w _=w0 at F0 ⊢;generalize w.heap.size=xb at F0 ⊢;have k0:=(F0.out.blk 0 rfl).d0;have k1:=(F0.out.blk 0 rfl).d1;go_wp2_with fail
 refine (HNew.out _ F0.out.b).mono ?_;rintro e w1 ⟨M,MA,mc,rfl,hb,hM,hE,hcap⟩;have F1:=Live.hb F0 hb;have HM:=ι (And.intro hM (And.intro hE hcap));clear hb hM hE hcap k0 k1 F0 HNew;by_cases hc:cd=0;rotate_left
 ·rw [HXn.out,if_neg hc];have hc1:((cd:Int) !=0)=true:=by simp; exact hc
  have HXX:=ι (HX.out.trans (if_neg hc));clear HX HXn HM HGo hc;go_wp2_with fail
  exact HP.out [] none 0 _ F1.out.b HXX.out.symm ⟨Reads.none_,by simp⟩ (Nat.le_refl _)
 subst hc;rw [HXn.out,if_pos rfl] at HM ⊢;have HXX:=ι (HX.out.trans (if_pos rfl));have HW0:Hid (Led.Wf [Led.newE t set]):=ι (Led.newE_wf HGo.out.1.1 (by have:=HGo.out.1; omega) (HGo.out.2 rfl));clear HX HXn HGo;generalize [Led.newE t set]=L0 at *;go_wp2_with fail
 refine wp_loop_ghost_k (fun k a wr=>∀ Φ:Act→Prop,(∀ ⦃s0 s4 s6 s7 s8 s9 s1 s2 s3 s5 a0 a2 a3 a4 a5 a6 a7 a8 a9 b0 b1 b2 b3 b4 b5 b6 b7 b8 b9 c0 c1 c2 c4 c5 c6 c7 c8:Value⦄ (i:Nat) (M:List EnM) (MA:Option Addr) (mc:Nat),(i+k=bl.length∧M.map (·.en)=Led.growW L0 ((bl.take i).map BlkM.p)∧EntsAt wr MA M∧M.length≤mc∧Live w wr [(xb,27,#[.slice A l.length c,.slice B set.length d,.slice C bl.length ce,bad])])→Φ {tmps:=#[s0,.pointer (some ⟨xb,0,none⟩),.slice none 0 0,.slice MA M.length mc,s4,.int .i64 (i:Int),s6,s7,s8,s9,s1,s2,s3,s5,a0,a2,a3,a4,a5,a6,a7,a8,a9,b0,b1,b2,b3,b4,b5,b6,b7,b8,b9,c0,c1,c2,c4,c5,c6,c7,c8],defers:= []})→Φ a) (bl.length) ?_ ?_
 ·refine fun Φ hΦ=>hΦ (0) (M) (MA) (mc) ?_;exact ⟨by omega,HM.out.1,HM.out.2.1,HM.out.2.2,F1.out⟩
 ·intro k1 a1 wr1 hI1 J1 K1 hJ1 hK1;refine hI1 (fun a=>Code.wp _ _ _ a _) ?_;clear hI1 a1;iterate 37 (intro _)
  intro i M2 MA2 mc2 hrel
  show Code.wp _ _ _ _ _;obtain ⟨h1,h2,h3,h4,hF⟩:=hrel;have F:=ι hF;have kx:=hF.cell 0 2 rfl rfl;by_cases hi:i<bl.length
  ·obtain ⟨ad,off,hC,hbl,hcell⟩:=flat_cells wbcell_len (by decide) HBB.out.r hi;subst hC;have hT:=HBB.out.t _ (List.getElem_mem hi);have HR0:Hid (∀ W,Below w.heap.size w W→W.cell? ⟨ad,off+i*2,none⟩=some (.int .i64 bl[i].1)∧W.cell? ⟨ad,off+i*2+1,none⟩=some (.slice bl[i].2.2.1 bl[i].2.1.length bl[i].2.2.2)):=ι (fun W hW=>⟨hcell W hW 0 _ rfl,hcell W hW 1 _ rfl⟩);have HWf:Led.Wf (M2.map (·.en)):=by rw [h2]; exact Led.growW_wf _ _ HW0.out
   obtain ⟨n,hn⟩:∃ n,M2.length=n+1:=⟨M2.length - 1,by have:=HWf.pos; rw [List.length_map] at this; omega⟩
   have HAdd:=ι (fun W (hW:Below wr1.heap.size wr1 W)=>ref20_Add W M2 n hn HWf MA2 mc2 h4 (h3.next hW) bl[i].1 bl[i].2.1 bl[i].2.2.1 bl[i].2.2.2 (hT.next (F.out.b.nxt hW)));have HNx:Hid ((Led.addW (M2.map (·.en)) bl[i].1 (bl[i].2.1.map (·.1))).1=Led.growW L0 ((bl.take (i+1)).map BlkM.p)):=ι (by
    rw [List.take_succ_eq_append_getElem hi,List.map_append,List.map_singleton,Led.growW_snoc,←h2]; rfl)
   have hi1:(i:Int)<bl.length:=by omega
   have hi0:(0:Int)≤i:=by omega
   have hwi:IntKind.i64.wrap ((i:Int)+1)=(i:Int)+1:=IntWalk.i64_in _ (by have:=HBB.out.n; omega);have HI:=ι (And.intro h1 hi);clear h1 h2 h3 h4 hF hn HWf hT hcell hbl;generalize bl[i]=b at *;obtain ⟨vw,tl,tA,tc⟩:=b;simp only at HR0 HAdd HNx;generalize Led.addW (M2.map (·.en)) vw (tl.map (·.1))=AW at HAdd HNx;have r0:=(HR0.out _ F.out.b).1;have r1:=(HR0.out _ F.out.b).2;clear hi;go_upto_region 7 with fail
   go_region_held3 (fun w'=>w'.cell? ⟨xb,2,none⟩=some (.slice (some ⟨ad,off,none⟩) bl.length ce)∧w'.cell? ⟨ad,off+i*2,none⟩=some (.int .i64 vw)∧w'.cell? ⟨ad,off+i*2+1,none⟩=some (.slice tA tl.length tc)) (first|go_keep|(refine ⟨?_,?_,?_⟩<;>assumption)) ((go_at_call 37; ((with_reducible refine (HAdd.out _ ?_).mono ?_); (first|exact (Below.refl _ _)|exact (Below.refl _ _).drew); (rintro e w3 ⟨M3,A3,c3,rfl,hb,hM3,hE3,hc3⟩; have H3:=ι (And.intro hM3 (And.intro hE3 hc3)); clear hM3 hE3 hc3; (first|have F:=Live.hb F hb|have F:=Live.hbd F hb); clear hb; have r0:=(HR0.out _ F.out.b).1; have r1:=(HR0.out _ F.out.b).2; have kx:=F.out.cell 0 2 rfl rfl))))
   go_wp2_with fail
   refine Handed.intro (bl.length - (i+1)) ?_ (hJ1 _ _ _ (fun Φ hΦ=>hΦ (i+1) (M3) (A3) (c3) ?_))
   ·have:=HI.out; omega
   ·exact ⟨by have:=HI.out; omega,by rw [H3.out.1,HNx.out],H3.out.2.1,H3.out.2.2,F.out⟩
  ·have hi1:((i:Int)<bl.length)=False:=by simp; omega
   have HE:Hid (M2.map (·.en)=X):=ι (by rw [h2,HXX.out,List.take_of_length_le (by omega)]);have HI:=ι (And.intro h3 h4);clear h1 h2 h3 h4 hF hi;go_wp2_with fail
   exact HP.out M2 MA2 mc2 _ F.out.b HE.out HI.out.1 HI.out.2
def Led.markW (s:List UInt8):List UInt8:=shaW (6::s)
theorem ref07_Tag6 (w:World):Calls Tryz.prog 76 #[.int .i64 6] w (Ret w (.bool true)):=by
 have HP:Hid (∀ w',Below w.heap.size w w'→Ret w (.bool true) (.returned (.bool true)) w'):=ι (fun w' h=>⟨rfl,h⟩);generalize Ret w (.bool true)=P at HP ⊢;go_enter Tryz.func76,Tryz.ntmps76
 go_wp2_with fail
 exact HP.out _ (Below.refl _ _)
theorem ref07_Mark6 (w:World) (s:List UInt8) (hs:s.length≤9223372036854775807):
  Calls Tryz.prog 40 #[.int .i64 6,s] w (Ret w (.tuple #[.string ⟨(if s.length=32 then Led.markW s else []).toArray⟩,.int .i64 (if s.length=32 then 0 else 3)])):=by
 have HP:Hid (∀ w',Below w.heap.size w w'→Ret w (.tuple #[.string ⟨(if s.length=32 then Led.markW s else []).toArray⟩,.int .i64 (if s.length=32 then 0 else 3)]) (.returned (.tuple #[.string ⟨(if s.length=32 then Led.markW s else []).toArray⟩,.int .i64 (if s.length=32 then 0 else 3)])) w'):=ι (fun w' h=>⟨rfl,h⟩);generalize Ret w (.tuple #[.string ⟨(if s.length=32 then Led.markW s else []).toArray⟩,.int .i64 (if s.length=32 then 0 else 3)])=P at HP ⊢;have HTg:=ι (ref07_Tag6 w);go_enter Tryz.func40,Tryz.ntmps40
 go_wp2_with fail
 refine HTg.out.mono ?_;rintro e w1 ⟨rfl,hb⟩;have F1:=Live.hb (ι (Live.start w)) hb;clear hb HTg;by_cases hl:s.length=32
 ·have HTd:=ι (ref04_Tagged w1 6 (by decide) s (by omega));have hl1:((s.length:Int) !=32)=false:=by simp; omega
  rw [if_pos hl,if_pos hl] at HP;have hm:shaW (UInt8.ofNat 6::s)=Led.markW s:=rfl;rw [hm] at HTd;generalize Led.markW s=M at *;clear hs hm hl;go_wp2_with fail
  refine HTd.out.mono ?_;rintro e w2 ⟨rfl,hb⟩;have F2:=Live.hb F1 hb;clear hb HTd;go_wp2_with fail
  exact HP.out _ F2.out.b
 ·have hl1:((s.length:Int) !=32)=true:=by simp; omega
  rw [if_neg hl,if_neg hl] at HP;clear hl;go_wp2_with fail
  exact HP.out _ F1.out.b
theorem cert_Mark6 (w:World) (s:List UInt8) (hs:s.length≤9223372036854775807) (hT:Tbl w):
  Calls Tryz.prog 85 #[.int .i64 6,s] w (Ret w (.tuple #[.string ⟨(if s.length=32 then Led.markW s else []).toArray⟩,.int .i64 (if s.length=32 then 0 else 3)])):=by
 have HP:Hid (∀ w',Below w.heap.size w w'→Ret w (.tuple #[.string ⟨(if s.length=32 then Led.markW s else []).toArray⟩,.int .i64 (if s.length=32 then 0 else 3)]) (.returned (.tuple #[.string ⟨(if s.length=32 then Led.markW s else []).toArray⟩,.int .i64 (if s.length=32 then 0 else 3)])) w'):=ι (fun w' h=>⟨rfl,h⟩);generalize Ret w (.tuple #[.string ⟨(if s.length=32 then Led.markW s else []).toArray⟩,.int .i64 (if s.length=32 then 0 else 3)])=P at HP ⊢;have HTb:=ι hT;clear hT;go_enter Tryz.func85,Tryz.ntmps85
 by_cases hl:s.length=32
 ·have HTd:=ι (digest_Sum w 6 (by decide) (by decide) s (by omega) HTb.out);have hl1:((s.length:Int) !=32)=false:=by simp; omega
  rw [if_pos hl,if_pos hl] at HP;have hm:shaW (UInt8.ofNat 6::s)=Led.markW s:=rfl;rw [hm] at HTd;generalize Led.markW s=M at *;clear hs hm hl;go_wp2_with fail
  refine HTd.out.mono ?_;rintro e w2 ⟨rfl,hb⟩;have F2:=Live.hb (ι (Live.start w)) hb;clear hb HTd;go_wp2_with fail
  exact HP.out _ F2.out.b
 ·have hl1:((s.length:Int) !=32)=true:=by simp; omega
  rw [if_neg hl,if_neg hl] at HP;clear hl;go_wp2_with fail
  exact HP.out _ (Below.refl _ _)
def Led.bestN (L:List EnM) (hi:Int):Nat→Nat→Nat
 |0,a=>a
 |f+1,a=>if (a:Int)<hi∧a+1<L.length∧(L[a+1]?).map (·.en.hd.epo)=(L[a]?).map (·.en.hd.epo) then Led.bestN L hi f (a+1) else a
def Led.oneL (L:List (List UInt8)) (s:List UInt8):List (List UInt8):=if s∈L then [s] else []
def OneEnd (w:World) (L:List (List UInt8)) (e:Ending) (w':World):Prop:=
 ∃ (A:Option Addr) (c:Nat),e= .returned (.slice A L.length c)∧Below w.heap.size w w'∧Reads w' w'.heap.size 1 A L.length (strv L)
theorem str_at {w:World} {B:Nat} {A:Option Addr} {l:List (List UInt8)} (h:Reads w B 1 A l.length (strv l)) {i:Nat} (hi:i<l.length):
  ∃ ad off,A=some ⟨ad,off,none⟩∧ad<B∧∀ w',Below B w w'→w'.cell? ⟨ad,off+i,none⟩=some (.string ⟨l[i].toArray⟩):=by
 obtain ⟨ad,off,rfl,hbl,hcell⟩:=h.form (by omega) (by omega);refine ⟨ad,off,rfl,hbl,fun w' hb=> ?_⟩;have q:=hcell i (by simp [strv]; exact hi);simp only [strv,List.getElem_map] at q;exact (hb.cell (p:=⟨ad,off+i,none⟩) hbl).trans q
theorem law35_one (w:World) (L:List (List UInt8)) (A:Option Addr) (c:Nat) (HL:Reads w w.heap.size 1 A L.length (strv L)) (hl:L.length≤9223372036854775807) (s:List UInt8):
  Calls Tryz.prog 42 #[.slice A L.length c,s] w (OneEnd w (Led.oneL L s)):=by
 have HP0:Hid (s ∉ L→∀ w',Below w.heap.size w w'→OneEnd w (Led.oneL L s) (.returned (.slice none 0 0)) w'):=ι (fun h w' hb=>by unfold Led.oneL; rw [if_neg h]; exact ⟨none,0,rfl,hb,Reads.none_⟩);have HP1:Hid (s∈L→∀ g w',Below w.heap.size w w'→Blk w' g 9 #[s]→OneEnd w (Led.oneL L s) (.returned (.slice (some ⟨g,0,none⟩) 1 1)) w'):=ι (fun h g w' hb hk=>by unfold Led.oneL; rw [if_pos h]; exact ⟨_,1,rfl,hb,reads_of_blk hk rfl⟩);generalize OneEnd w (Led.oneL L s)=P at HP0 HP1 ⊢;have HLL:=ι HL;have HN:=ι hl;clear HL hl;go_enter Tryz.func42,Tryz.ntmps42
 go_wp2_with fail
 refine wp_loop_ghost_k (fun k a wr=>∀ Φ:Act→Prop,(∀ ⦃s2 s3 s6 s7 s8 s9 s0 s1 s4 s5 a0 a2 a3 a4 a5 a6:Value⦄ (i:Nat),(i+k=L.length∧s ∉ L.take i∧Live w wr [])→Φ {tmps:=#[.slice A L.length c,.string ⟨s.toArray⟩,s2,s3,.slice none 0 0,.int .i64 (i:Int),s6,s7,s8,s9,s0,s1,s4,s5,a0,a2,a3,a4,a5,a6],defers:= []})→Φ a) (L.length) ?_ ?_
 ·refine fun Φ hΦ=>hΦ (0) ?_;exact ⟨by omega,by simp,Live.start w⟩
 ·intro k1 a1 wr1 hI1 J1 K1 hJ1 hK1;refine hI1 (fun a=>Code.wp _ _ _ a _) ?_;clear hI1 a1;iterate 16 (intro _)
  intro i hrel
  show Code.wp _ _ _ _ _;obtain ⟨h1,h2,hF⟩:=hrel;have F:=ι hF;by_cases hi:i<L.length
  ·obtain ⟨ad,off,hA,hbl,hcell⟩:=str_at HLL.out hi;subst hA;have r0:=hcell _ F.out.b;have hi1:(i:Int)<L.length:=by omega
   have hi0:(0:Int)≤i:=by omega
   have hwi:IntKind.i64.wrap ((i:Int)+1)=(i:Int)+1:=IntWalk.i64_in _ (by have:=HN.out; omega);have HMem:Hid (L[i]∈L):=ι (List.getElem_mem hi);have HTk:Hid (∀ x,L[i]=x→x≠s→s ∉ L.take (i+1)):=ι (fun x hx hne hm=>by
    rw [List.take_succ_eq_append_getElem hi,List.mem_append,List.mem_singleton] at hm;rcases hm with hm|hm
    ·exact h2 hm
    ·exact hne (hx.symm.trans hm.symm))
   have HI:=ι (And.intro h1 hi);clear h1 h2 hF hcell hbl;obtain ⟨x,hx⟩:∃ x,L[i]=x:=⟨_,rfl⟩
   have HTx:=ι (HTk.out x hx);rw [hx] at r0 HMem;clear hx HTk hi;by_cases hs:x=s
   ·subst hs;go_wp2_with fail
    have F2:=Live.ha F #[x] 9;exact HP1.out HMem.out _ _ F2.out.b (F2.out.blk 0 rfl)
   ·have hs1:(x==s)=false:=by simp [hs]
    have HNo:=ι (HTx.out hs);go_wp2_with fail
    refine Handed.intro (L.length - (i+1)) ?_ (hJ1 _ _ _ (fun Φ hΦ=>hΦ (i+1) ?_))
    ·have:=HI.out; omega
    ·exact ⟨by have:=HI.out; omega,HNo.out,F.out⟩
  ·have hi1:((i:Int)<L.length)=False:=by simp; omega
   have HNo:Hid (s ∉ L):=ι (by rw [List.take_of_length_le (by omega)] at h2; exact h2);clear h1 h2 hF hi;go_wp2_with fail
   exact HP0.out HNo.out _ F.out.b
theorem law35_epochs (w:World) (l:List EnM) (hW:Led.Wf (l.map (·.en))) (A:Option Addr) (c:Nat) (HL:EntsAt w A l) (i g:Nat) (hi:i+1<l.length) (hg:g<l.length):
  Calls Tryz.prog 19 #[.slice A l.length c,i,g] w (Ret w (.int .i64 ((l[g]'hg).en.hd.epo - (l[i+1]'hi).en.hd.epo+1))):=by
 obtain ⟨ad,off,hA,hbl,hcell⟩:=ent_cells HL.r hi;obtain ⟨ad',off',hA',_,hcell'⟩:=ent_cells HL.r hg;subst hA;injection hA' with hA'
 injection hA' with e1 e2 _
 subst e1;subst e2;have r1:=hcell _ (Below.refl _ _) 1 _ rfl;have r0:=hcell' _ (Below.refl _ _) 1 _ rfl;have o1:=(hW.one (i+1) (by rw [List.length_map]; exact hi)).ok;have o0:=(hW.one g (by rw [List.length_map]; exact hg)).ok;simp only [List.getElem_map] at o1 o0;have b0:=o1.e0;have b1:=o1.e1;have b2:=o0.e0;have b3:=o0.e1;have hle:=hW.le;rw [List.length_map] at hle;clear hcell hcell' o1 o0 HL hW hbl;generalize l[i+1].en.hd.epo=p1 at *;generalize l[g].en.hd.epo=p0 at *;have hx1:(i:Int)+1<l.length:=by omega
 have hx0:(g:Int)<l.length:=by omega
 have hp1:(0:Int)≤(i:Int)+1:=by omega
 have hp0:(0:Int)≤(g:Int):=by omega
 have hw1:IntKind.i64.wrap ((i:Int)+1)=(i:Int)+1:=IntWalk.i64_in _ (by omega);have hw2:IntKind.i64.wrap (p0 - p1)=p0 - p1:=IntWalk.i64_in _ (by omega);have hw3:IntKind.i64.wrap (p0 - p1+1)=p0 - p1+1:=IntWalk.i64_in _ (by omega);have HP:Hid (∀ w',Below w.heap.size w w'→Ret w (.int .i64 (p0 - p1+1)) (.returned (.int .i64 (p0 - p1+1))) w'):=ι (fun w' h=>⟨rfl,h⟩);generalize Ret w (.int .i64 (p0 - p1+1))=P at HP ⊢;have F:=ι (Live.start w);clear b0 b1 b2 b3 hle hi hg;go_enter Tryz.func19,Tryz.ntmps19
 go_upto_region 1 with fail
 go_region_held3 (fun w'=>w'.cell? ⟨ad,off+(i+1)*17+1,none⟩=some (.int .i64 p1)∧w'.cell? ⟨ad,off+g*17+1,none⟩=some (.int .i64 p0)) (first|go_keep|(refine ⟨?_,?_⟩<;>assumption)) (fail)
 all_goals
  go_wp2_with fail
  exact HP.out _ (by first|exact (live_drew F).out.b|exact F.out.b)
def Ce.risS:List UInt8→List (List UInt8)→Bool
 |_,[]=>true
 |last,s::r=>decide (s.length≤6) && Op.bytesLess last s && Ce.risS s r
def Ce.mayC (d:List UInt8) (l:List (List UInt8)):Bool:=decide (d.length=32) && decide (l.length≤7) && Ce.risS [] l
theorem cert_may (w:World) (d:List UInt8) (hd:d.length≤9223372036854775807) (l:List (List UInt8)) (hs:∀ x∈l,x.length≤9223372036854775807) (hn:l.length≤9223372036854775807) (A:Option Addr) (c:Nat) (HR:Reads w w.heap.size 1 A l.length (strv l)):
  Calls Tryz.prog 117 #[.agg #[d,.slice A l.length c]] w (Ret w (.bool (Ce.mayC d l))):=by
 have HP:Hid (∀ (b:Bool) w',Ce.mayC d l=b→Below w.heap.size w w'→Ret w (.bool (Ce.mayC d l)) (.returned (.bool b)) w'):=ι (fun b w' h1 h2=>by rw [h1]; exact ⟨rfl,h2⟩);generalize Ret w (.bool (Ce.mayC d l))=P at HP ⊢;have HX:Hid (Ce.mayC d l=(decide (d.length=32) && decide (l.length≤7) && Ce.risS [] l)):=ι rfl;generalize Ce.mayC d l=X at *;have HRR:=ι HR;have HS:=ι hs;clear HR hs;go_enter Tryz.func117,Tryz.ntmps117
 go_upto_region 1 with fail
 have F0:=Live.ha (ι (Live.start w)) #[d,.slice A l.length c] 56;generalize World.alloc w _=w0 at F0 ⊢;generalize w.heap.size=xb at F0 ⊢;have k0:=(F0.out.blk 0 rfl).d0;have k1:=(F0.out.blk 0 rfl).d1;by_cases h32:d.length=32;rotate_left
 ·have hl1:((d.length:Int) !=32)=true:=by simp; omega
  have HE:Hid (X=false):=ι (by rw [HX.out,decide_eq_false h32]; rfl);clear h32 hd hn;go_wp2_with fail
  exact HP.out _ _ HE.out F0.out.b
 have hl1:((d.length:Int) !=32)=false:=by simp; omega
 by_cases h7:7<l.length
 ·have h7':(7:Int)<l.length:=by omega
  have HE:Hid (X=false):=ι (by rw [HX.out,decide_eq_false (show ¬l.length≤7 by omega)]; simp);clear h32 hd hn h7;go_wp2_with fail
  exact HP.out _ _ HE.out F0.out.b
 have h7':((7:Int)<l.length)=False:=by simp; omega
 have HK:Hid (X=Ce.risS [] l):=ι (by rw [HX.out,decide_eq_true h32,decide_eq_true (show l.length≤7 by omega)]; rfl);have HL7:=ι (Nat.le_of_not_lt h7);clear h32 hd hn h7 HX;go_wp2_with fail
 refine wp_loop_ghost_k (fun k a wr=>∀ Φ:Act→Prop,(∀ ⦃s0 s4 s5 s6 s7 s8 s9 s1 s2 s3 a0 a2 a3 a4 a5 a6 a7 a8 a9 b0 b1 b2 b3 b4 b5 b6 b7:Value⦄ (i:Nat) (last:List UInt8),(i+k=l.length∧X=Ce.risS last (l.drop i)∧Live w wr [(xb,56,#[d,.slice A l.length c])])→Φ {tmps:=#[s0,.pointer (some ⟨xb,0,none⟩),.bool false,.string ⟨last.toArray⟩,s4,s5,s6,s7,s8,s9,s1,s2,s3,a0,a2,a3,a4,.slice A l.length c,.int .i64 (l.length:Int),.int .i64 (i:Int),a5,a6,a7,a8,a9,b0,b1,b2,b3,b4,b5,b6,b7],defers:= []})→Φ a) (l.length) ?_ ?_
 ·refine fun Φ hΦ=>hΦ (0) ([]) ?_;exact ⟨by omega,HK.out,F0.out⟩
 ·intro k1 a1 wr1 hI1 J1 K1 hJ1 hK1;refine hI1 (fun a=>Code.wp _ _ _ a _) ?_;clear hI1 a1;iterate 27 (intro _)
  intro i last hrel
  show Code.wp _ _ _ _ _;obtain ⟨h1,h2,hF⟩:=hrel;have F:=ι hF;by_cases hi:i<l.length
  ·obtain ⟨ad,off,rfl,hbl,hcell⟩:=str_at HRR.out hi;have r0:=hcell _ F.out.b;have hi1:(i:Int)<l.length:=by omega
   have hi0:(0:Int)≤i:=by omega
   have hwi:IntKind.i64.wrap ((i:Int)+1)=(i:Int)+1:=IntWalk.i64_in _ (by have:=HL7.out; omega);have hdr:l.drop i=l[i]::l.drop (i+1):=List.drop_eq_getElem_cons hi;have hlen:=HS.out _ (List.getElem_mem hi);rw [hdr] at h2;have HI:=ι (And.intro h1 hi);clear h1 hcell hdr hbl hF;generalize l[i]=x at *;clear hi;have H2:=ι h2;clear h2;have hq:=bl_leq x last;cases g2:Op.bytesLess last x with
   |false=>
    have HNo:Hid (X=false):=ι (by rw [H2.out,Ce.risS,g2]; simp);rw [g2,Bool.not_false] at hq;clear g2;go_wp2_with fail
    exact HP.out _ _ HNo.out F.out.b
   |true=>
   rw [g2,Bool.not_true] at hq;by_cases g1:6<x.length
   ·have g1':(6:Int)<x.length:=by omega
    have HNo:Hid (X=false):=ι (by rw [H2.out,Ce.risS,decide_eq_false (show ¬x.length≤6 by omega)]; simp);clear g1 g2;go_wp2_with fail
    exact HP.out _ _ HNo.out F.out.b
   have g1':((6:Int)<x.length)=False:=by simp; omega
   have HY:Hid (X=Ce.risS x (l.drop (i+1))):=ι (by
    rw [H2.out,Ce.risS,decide_eq_true (show x.length≤6 by omega),g2]; rfl)
   clear g1 g2 H2;go_wp2_with fail
   refine Handed.intro (l.length - (i+1)) ?_ (hJ1 _ _ _ (fun Φ hΦ=>hΦ (i+1) (x) ?_))
   ·have:=HI.out; omega
   exact ⟨by have:=HI.out; omega,HY.out,F.out⟩
  ·have hi1:((i:Int)<l.length)=False:=by simp; omega
   have HY:Hid (X=true):=ι (by rw [h2,List.drop_of_length_le (by omega)]; rfl);clear h1 h2 hF hi;go_wp2_with fail
   exact HP.out _ _ HY.out F.out.b
theorem cert_first6 (w:World) (l:List Pw.Mem) (hs:∀ x∈l,x.1.length≤9223372036854775807) (A:Option Addr) (c:Nat) (HR:Reads w w.heap.size 2 A l.length (mcells l)) (ok:Bool):
  Calls Tryz.prog 116 #[.int .i64 6,.slice A l.length c,ok] w (Ret w (.int .i64 (if Pw.okM l then (if ok then 0 else 3) else 50))):=by
 have HC:=ι (power_Check w l hs A c HR);have HP:Hid (∀ w',Below w.heap.size w w'→Ret w (.int .i64 (if Pw.okM l then (if ok then 0 else 3) else 50)) (.returned (.int .i64 (if Pw.okM l then (if ok then 0 else 3) else 50))) w'):=ι (fun w' h=>⟨rfl,h⟩);generalize Ret w (.int .i64 (if Pw.okM l then (if ok then 0 else 3) else 50))=P at HP ⊢;clear HR hs;go_enter Tryz.func116,Tryz.ntmps116
 go_wp2_with fail
 refine HC.out.mono ?_;rintro e w1 ⟨rfl,hb⟩;have F1:=Live.hb (ι (Live.start w)) hb;clear hb HC;generalize Pw.okM l=b at *;cases b with
 |false=>
  simp only [codeM,Bool.false_eq_true,if_false] at HP ⊢;go_wp2_with fail
  exact HP.out _ F1.out.b
 |true=>
  simp only [codeM,if_true] at HP ⊢;cases ok with
  |false=>
   simp only [Bool.false_eq_true,if_false] at HP;go_wp2_with fail
   exact HP.out _ F1.out.b
  |true=>
   simp only [if_true] at HP;go_wp2_with fail
   exact HP.out _ F1.out.b
def Pw.sumM:List Pw.Mem→Int
 | []=>0
 |m::r=>m.2+Pw.sumM r
def Pw.totM (l:List Pw.Mem):Int:=if Pw.okM l then Pw.sumM l else 0
theorem Pw.sumM_snoc:∀ (l:List Pw.Mem) (m:Pw.Mem),Pw.sumM (l++ [m])=Pw.sumM l+m.2
 | [],m=>by simp [Pw.sumM]
 |x::r,m=>by rw [List.cons_append,Pw.sumM,Pw.sumM_snoc r m,Pw.sumM]; omega
theorem Pw.sumM_bound:∀ (l:List Pw.Mem),(∀ m∈l,1≤m.2∧m.2≤1000)→(l.length:Int)≤Pw.sumM l∧Pw.sumM l≤1000*l.length
 | [],h=>by simp [Pw.sumM]
 |x::r,h=>by
  have h1:=h x (by simp);have h2:=Pw.sumM_bound r (fun m hm=>h m (by simp [hm]));rw [Pw.sumM,List.length_cons];omega
theorem power_Total (w:World) (l:List Pw.Mem) (hs:∀ x∈l,x.1.length≤9223372036854775807) (A:Option Addr) (c:Nat) (HR:Reads w w.heap.size 2 A l.length (mcells l)):
  Calls Tryz.prog 50 #[.slice A l.length c] w (Ret w (.int .i64 (Pw.totM l))):=by
 have HP:Hid (∀ x w',Pw.totM l=x→Below w.heap.size w w'→Ret w (.int .i64 (Pw.totM l)) (.returned (.int .i64 x)) w'):=ι (fun x w' h hb=>by rw [h]; exact ⟨rfl,hb⟩);have HC:=ι (power_Check w l hs A c HR);have HX:Hid (Pw.totM l=if Pw.okM l then Pw.sumM l else 0):=ι rfl;generalize Ret w (.int .i64 (Pw.totM l))=P at HP ⊢;generalize Pw.totM l=X at *;have HLL:=ι HR;clear HR hs;go_enter Tryz.func50,Tryz.ntmps50
 go_wp2_with fail
 refine HC.out.mono ?_;rintro e w1 ⟨rfl,hb⟩;have F1:=Live.hb (ι (Live.start w)) hb;clear hb HC;cases hok:Pw.okM l with
 |false=>
  simp only [codeM,Bool.false_eq_true,if_false];rw [hok] at HX;have HE:=ι HX.out;clear HX hok;go_wp2_with fail
  exact HP.out 0 _ (by rw [HE.out]; rfl) F1.out.b
 |true=>
  simp only [codeM,if_true];have HE:Hid (X=Pw.sumM l):=ι (by rw [HX.out,hok]; rfl);have HL:=ι (Pw.okM_len hok);have HA:=ι (fun m hm=>(Pw.okM_all hok m hm).2.2);clear HX hok;go_wp2_with fail
  refine wp_loop_ghost_k (fun k a wr=>∀ Φ:Act→Prop,(∀ ⦃s1 s4 s5 s6 s7 s8 s0 s2 s3 s9 a0 a2 a3 a4 a5:Value⦄ (i:Nat) (s:Int),(i+k=l.length∧s=Pw.sumM (l.take i)∧Live w wr [])→Φ {tmps:=#[.slice A l.length c,s1,.int .i64 0,.int .i64 s,s4,s5,s6,s7,s8,.slice A l.length c,.int .i64 (l.length:Int),.int .i64 (i:Int),s0,s2,s3,s9,a0,a2,a3,a4,a5],defers:= []})→Φ a) (l.length) ?_ ?_
  ·refine fun Φ hΦ=>hΦ (0) (0) ?_;exact ⟨by omega,rfl,F1.out⟩
  ·intro k1 a1 wr1 hI1 J1 K1 hJ1 hK1;refine hI1 (fun a=>Code.wp _ _ _ a _) ?_;clear hI1 a1;iterate 15 (intro _)
   intro i s hrel
   show Code.wp _ _ _ _ _;obtain ⟨h1,h2,hF⟩:=hrel;have F:=ι hF;by_cases hi:i<l.length
   ·obtain ⟨ad,off,hA,hbl,hcell⟩:=mem_cells HLL.out hi;subst hA;obtain ⟨r0,r1⟩:=hcell _ F.out.b;have hi1:(i:Int)<l.length:=by omega
    have hi0:(0:Int)≤i:=by omega
    have hm:=HA.out _ (List.getElem_mem hi);have hb:=Pw.sumM_bound (l.take i) (fun m hm=>HA.out m (List.mem_of_mem_take hm));have HS1:Hid (s+l[i].2=Pw.sumM (l.take (i+1))):=ι (by rw [List.take_succ_eq_append_getElem hi,Pw.sumM_snoc,h2]);have hlt:(l.take i).length=i:=by rw [List.length_take]; omega
    rw [hlt,←h2] at hb;have h7:=HL.out;have hwi:IntKind.i64.wrap ((i:Int)+1)=(i:Int)+1:=IntWalk.i64_in _ (by omega);have hws:IntKind.i64.wrap (s+l[i].2)=s+l[i].2:=IntWalk.i64_in _ (by omega);have HI:=ι (And.intro h1 hi);clear h1 h2 hF hcell hbl hm hb hlt h7;generalize l[i]=m at *;clear hi;obtain ⟨nm,pw⟩:=m;simp only at r0 r1 hws HS1;have F2:=Live.ha F #[nm,pw] 94;go_upto_region 7 with fail
    generalize World.alloc wr1 _=W1 at F2 ⊢;generalize wr1.heap.size=bm at F2 ⊢;clear r0 r1;have k1:=(F2.out.blk 0 rfl).d1;go_wp2_with fail
    refine Handed.intro (l.length - (i+1)) ?_ (hJ1 _ _ _ (fun Φ hΦ=>hΦ (i+1) (s+pw) ?_))
    ·have:=HI.out; omega
    ·exact ⟨by have:=HI.out; omega,HS1.out,F2.out.b,by simp,List.Pairwise.nil⟩
   ·have hi1:((i:Int)<l.length)=False:=by simp; omega
    have HF:Hid (X=s):=ι (by rw [HE.out,h2,List.take_of_length_le (by omega)]);clear h1 h2 hF hi;go_wp2_with fail
    exact HP.out s _ HF.out F.out.b
theorem Pw.totM_bound (l:List Pw.Mem):0≤Pw.totM l∧Pw.totM l≤7000:=by
 unfold Pw.totM
 split
 ·rename_i h;have a:=Pw.sumM_bound l (fun m hm=>(Pw.okM_all h m hm).2.2);have b:=Pw.okM_len h;omega
 ·omega
def Pw.quoM (l:List Pw.Mem):Int:=if Pw.totM l=0 then 0 else (2*Pw.totM l).tdiv 3+1
theorem power_Quorum (w:World) (l:List Pw.Mem) (hs:∀ x∈l,x.1.length≤9223372036854775807) (A:Option Addr) (c:Nat) (HR:Reads w w.heap.size 2 A l.length (mcells l)):
  Calls Tryz.prog 119 #[.slice A l.length c] w (Ret w (.int .i64 (Pw.quoM l))):=by
 have HC:=ι (power_Total w l hs A c HR);have hb:=Pw.totM_bound l;have HP:Hid (∀ x w',Pw.quoM l=x→Below w.heap.size w w'→Ret w (.int .i64 (Pw.quoM l)) (.returned (.int .i64 x)) w'):=ι (fun x w' h hb=>by rw [h]; exact ⟨rfl,hb⟩);have HX:Hid (Pw.quoM l=if Pw.totM l=0 then 0 else (2*Pw.totM l).tdiv 3+1):=ι rfl;generalize Ret w (.int .i64 (Pw.quoM l))=P at HP ⊢;generalize Pw.quoM l=X at *;generalize Pw.totM l=t at *;clear hs HR;go_enter Tryz.func119,Tryz.ntmps119
 go_wp2_with fail
 refine HC.out.mono ?_;rintro e w1 ⟨rfl,hb1⟩;have F1:=Live.hb (ι (Live.start w)) hb1;clear hb1 HC;by_cases h0:t=0
 ·subst h0;have HE:=ι HX.out;clear HX hb;go_wp2_with fail
  exact HP.out 0 _ (by rw [HE.out]; rfl) F1.out.b
 ·have h1:(t==0)=false:=by simp [h0]
  have HE:=ι (HX.out.trans (if_neg h0));have hq:(2*t).tdiv 3=2*t / 3:=Int.tdiv_eq_ediv_of_nonneg (by omega);have hw1:IntKind.i64.wrap (2*t)=2*t:=IntWalk.i64_in _ (by omega);have hw2:IntKind.i64.wrap ((2*t).tdiv 3)=(2*t).tdiv 3:=IntWalk.i64_in _ (by rw [hq]; omega);have hw3:IntKind.i64.wrap ((2*t).tdiv 3+1)=(2*t).tdiv 3+1:=IntWalk.i64_in _ (by rw [hq]; omega);clear HX hb h0 hq;go_wp2_with fail
  exact HP.out _ _ HE.out F1.out.b
end
end Go.Proofs.YtdkiloganbhfkaaGreatDoor