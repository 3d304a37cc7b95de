import Derived.Test.YtnelhjfjkkdoaaaGreatDoorJ31
import Derived.Test.YtnelhjfjkkdoaaaGreatDoorJ32
set_option linter.unusedSimpArgs false
set_option linter.unusedVariables false
set_option maxHeartbeats 4000000
set_option maxRecDepth 100000
namespace Go.Proofs.YtnelhjfjkkdoaaaGreatDoor
section
open Go.RowKit Go.Instr
attribute [local go_sem] ba_get ByteArray.mk_append_mk
attribute [local go_sem ↓] Go.wp_at_zero Go.wp_at_succ
theorem info_len:(Tryz.prog.info? 149).map (fun i=>(i.zero,i.size,i.bytes))=some (some (.agg (θ [ν,ε,ν,ν,.pointer none,ν])),16,248):=by kernel_rfl
structure Frm (w w':World) (lb:Nat) (o:Option Nat):Prop where
 os:w'.os=w.os
 tape:w'.tape=w.tape
 output:w'.output=w.output
 size:w.heap.size≤w'.heap.size
 block:∀ k,k<w.heap.size→k≠lb→some k≠o→w'.heap[k]?=w.heap[k]?
theorem Frm.below {w w':World} {lb B:Nat} {o:Option Nat} (h:Frm w w' lb o) (hB:B≤lb) (ho:∀ k,o=some k→B≤k) (hs:B≤w.heap.size):Below B w w':=
 ⟨h.os,h.tape,h.output,h.size,fun k hk=>h.block k (by omega) (by omega) (fun e=>by have:=ho k e.symm; omega)⟩
theorem Frm.refl (w:World) (lb:Nat) (o:Option Nat):Frm w w lb o:=⟨rfl,rfl,rfl,Nat.le_refl _,fun _ _ _ _=>rfl⟩
theorem Frm.of_below {w w':World} (h:Below w.heap.size w w') (lb:Nat) (o:Option Nat):Frm w w' lb o:=⟨h.os,h.tape,h.output,h.size,fun k hk _ _=>h.block k hk⟩
theorem Frm.trans {a b c:World} {lb:Nat} {o:Option Nat} (h:Frm a b lb o) (h2:Frm b c lb o):Frm a c lb o:=
 ⟨h2.os.trans h.os,h2.tape.trans h.tape,h2.output.trans h.output,Nat.le_trans h.size h2.size,fun k hk h3 h4=>(h2.block k (Nat.lt_of_lt_of_le hk h.size) h3 h4).trans (h.block k hk h3 h4)⟩
theorem Frm.own {w w':World} {o:Option Nat} (h:w.grownBy w' o) (lb:Nat):Frm w w' lb o:=⟨h.os,h.tape,h.output,h.size,fun k hk _ h4=>h.block k hk h4⟩
theorem Frm.lb {w w':World} {lb:Nat} (h:w.grownBy w' (some lb)) (o:Option Nat):Frm w w' lb o:=⟨h.os,h.tape,h.output,h.size,fun k hk h3 _=>h.block k hk (fun e=>h3 (Option.some.inj e))⟩
theorem LgAt.from {w:World} {B lb:Nat} {g:LgM} (h:LgAt w B lb g):B≤w.heap.size∧∀ k,g.al.ownBlock=some k→B≤k∧k<w.heap.size:=⟨by have:=h.blk.lt; have:=h.lo; omega,fun k hk=>h.own.lt k hk⟩
theorem LgAt.far {w w':World} {B lb b:Nat} {g:LgM} (h:LgAt w B lb g) (hg:w.grownBy w' (some b)) (hlb:b≠lb) (ho:g.al.ownBlock≠some b) (hx:∀ e∈g.es,e.woff b) (hn:wofA g.nA g.nx.length b) (ht:∃ ty cs,Blk w b ty cs∧ty≠115∧ty≠136):LgAt w' B lb g:=
 have own:=h.own.kept hg (.inr ho)
 {blk:=blk_grown h.blk hg (fun e=>hlb (Option.some.inj e).symm),own:=own,r:=Reads.of_own own,ok:=fun e he=>(h.ok e he).far hg (fun k hk=>by have:=Option.some.inj hk; subst this; exact ⟨hx e he,ht⟩),nr:=reads_woff h.nr hg (fun k hk=>by have:=Option.some.inj hk; subst this; exact hn),wf:=h.wf,rt:=h.rt,nx:=h.nx,lo:=h.lo,off:=h.off,noff:=h.noff}
def zeroHd:Hd:=⟨0,0,0,false,[],[],[],[],[],[],[]⟩
def AddEnd (w:World) (B lb:Nat) (g:LgM) (q:En) (view:Int) (txs:List Ex.Tx) (e:Ending) (w':World):Prop:=
 ∃ (hd:Hd) (kA:Option Addr) (kc:Nat) (g':LgM),e= .returned (.tuple #[.agg (η hd [.slice kA hd.sk.length kc]),.int .i64 (Led.makeC q view txs:Int)])∧LgAt w' B lb g'∧Frm w w' lb g.al.ownBlock∧Reads w' w'.heap.size 1 kA hd.sk.length (strv hd.sk)∧
  (Led.makeC q view txs=0→g'.L=g.L++ [Led.makeE g.L q view txs]∧hd=(Led.makeE g.L q view txs).hd)∧(Led.makeC q view txs≠0→g'=g∧hd=zeroHd)
theorem z_39 {P:Prop} (h:P:=by
 try go_frame
 refine rd1 8 rfl (fun K hK=> ?_);have hle:=HLe.out;refine step_append_row Wd 149 pl rfl _ _ 145 rfl B 16 248 _ info_len Tryz.underlying145 rfl (by decide) g.al g.es.length (lcells g.es) rfl G.out.own 1 1 rfl HL16.out (fun u hu=>by rw [←HPE.out] at hu; exact lcell_one x XO.out.t.one u hu) (by simp only [maxLen]; omega) (by omega) B Wd (Below.refl _ _) (Nat.le_refl _) G.out.from.1 ?_;intro v4 w4 own4 hb4 hg4 h5 h6;obtain ⟨A4,c4,rfl,_,_,_⟩:=own_form own4;have GR:=G.out.grow (nc:=nc) XO.out HW3.out.1 HW3.out.2 RN.out HOX.out HON.out (by rw [HPE.out]; exact own4) hg4 h5;have b4:Blk w4 lb 147 #[.slice g.aA g.es.length g.ac,.slice g.nA g.nx.length g.nc]:=blk_grown G.out.blk hg4 (fun e=>own_blk_ne G.out.own G.out.blk (by decide) e.symm);have b4x:Blk w4 xb 149 pl.toArray:=blk_grown (F.out.blk 0 rfl) hg4 (fun e=>HXO2.out e.symm);have r5:(w4.setCell ⟨lb,0,none⟩ (.slice A4 (g.es.length+1) c4)).rangeAt xb 0 pl:=World.rangeAt_setCells_apart (range_of_blk b4x) lb 0 [_] (.inl HNE.out);have r6:((w4.setCell ⟨lb,0,none⟩ (.slice A4 (g.es.length+1) c4)).setCell ⟨lb,1,none⟩ (.slice nA x.en.nxt.length nc)).rangeAt xb 0 pl:=World.rangeAt_setCells_apart r5 lb 1 [_] (.inl HNE.out);have FM6:Frm W3 ((w4.setCell ⟨lb,0,none⟩ (.slice A4 (g.es.length+1) c4)).setCell ⟨lb,1,none⟩ (.slice nA x.en.nxt.length nc)) lb g.al.ownBlock:=(FM.out.trans (Frm.own hg4 lb)).trans (Frm.lb (grown_cell (grown_cell (World.grownBy.refl w4 (some lb)) 0 _) 1 _) _);have HOW:Hid ((Value.slice A4 (g.es.length+1) c4).ownBlock≠some rb):=ι (fun e=>by
  have h8:=F.out.lt 1 rfl;have h9:rb<Wd.heap.size:=h8;rcases h5 with h5|⟨q,h5,hq⟩
  ·have h7:=(HH.out.own.lt rb (h5.symm.trans e)).2;have h6:=HRB.out;omega
  ·have h7:=Option.some.inj (h5.symm.trans e);omega)
 have GR:=ι GR;have FM6:=ι FM6;have R6:=ι (And.intro r5 r6);refine hK.out _ _ (range_of_blk b4x) (fun hHeld=> ?_);clear hK K r5 r6;try go_frame
 have kc0:w4.cell? ⟨lb,0,none⟩=some (.slice g.aA g.es.length g.ac):=b4.cell 0;have kc1:w4.cell? ⟨lb,1,none⟩=some (.slice g.nA g.nx.length g.nc):=b4.cell 1;have fz0:w4.frozen? ⟨lb,0,none⟩=false:=b4.frozen 0;have fz1:w4.frozen? ⟨lb,1,none⟩=false:=b4.frozen 1;clear own4 hb4 hg4 h5 h6 b4 b4x;refine tk 10 33 rfl ?_;try go_frame
 refine tk 11 34 rfl ?_;try go_frame
 refine rd1 12 rfl (fun K hK=> ?_);go_simp
 refine hK.out _ _ R6.out.1 (fun hHeld=> ?_);clear hK K;try go_frame
 refine tk 13 35 rfl ?_;try go_frame
 refine tk 14 36 rfl ?_;try go_frame
 refine rd1 15 rfl (fun K hK=> ?_);go_simp
 refine hK.out _ _ R6.out.2 (fun hHeld=> ?_);clear hK K;try go_frame
 refine wpAnyH_done (by kernel_rfl) ?_ _;refine NoPanic.normal ?_;go_wp2_with fail
 go_meet
 exact ⟨_,_,GR.out,HOW.out,FM6.out,R6.out.2⟩):P:=h
theorem led_Add (w:World) (B lb:Nat) (g:LgM) (h:LgAt w B lb g) (hT:Tbl w) (hfew:∀ e∈g.L,Trie.count e.st≤900) (n:Nat) (hn:g.es.length=n+1) (p:LeM) (hp:g.es[n]'(by omega)=p) (view:Int) (tl:List TxM) (xA:Option Addr) (xc:Nat) (HT:TxsAt w xA tl):
  Calls Tryz.prog 41 #[.pointer (some ⟨lb,0,none⟩),view,.slice xA tl.length xc] w (AddEnd w B lb g p.en view (tl.map (·.1))):=by
 have HPe:Hid (∀ (cd:Nat) w',Led.makeC p.en view (tl.map (·.1))=cd→cd≠0→Below w.heap.size w w'→AddEnd w B lb g p.en view (tl.map (·.1)) (.returned (.tuple #[.agg (θ [ν]),cd])) w'):=ι (fun cd w' e h1 hb=>⟨zeroHd,none,0,g,by rw [e]; rfl,h.next hb,Frm.of_below hb _ _,Reads.none_,fun h=>absurd (e.symm.trans h) h1,fun _=>⟨rfl,rfl⟩⟩);have HPo:Hid (∀ (hd:Hd) kA kc (g':LgM) w',Led.makeC p.en view (tl.map (·.1))=0→LgAt w' B lb g'→Frm w w' lb g.al.ownBlock→Reads w' w'.heap.size 1 kA hd.sk.length (strv hd.sk)→g'.L=g.L++ [Led.makeE g.L p.en view (tl.map (·.1))]→hd=(Led.makeE g.L p.en view (tl.map (·.1))).hd→AddEnd w B lb g p.en view (tl.map (·.1)) (.returned (.tuple #[.agg (η hd [.slice kA hd.sk.length kc]),ζ])) w'):=ι (fun hd kA kc g' w' e h1 h2 h3 h4 h5=>⟨hd,kA,kc,g',by rw [e]; rfl,h1,h2,h3,fun _=>⟨h4,h5⟩,fun h=>absurd e h⟩);have HGr:=ι (fun W (hW:Below w.heap.size w W)=>led_grown W lb g (h.next hW).toLgRd (hT.next hW) hfew n hn p hp view tl xA xc (HT.next hW));have hpm:g.L[n]'(by rw [List.length_map]; omega)=p.en:=by rw [List.getElem_map,hp]
 have hl:g.L.length=n+1:=by rw [List.length_map,hn]
 have HW2:Hid (Led.makeC p.en view (tl.map (·.1))=0→Led.Wf (g.L++ [Led.makeE g.L p.en view (tl.map (·.1))])∧Led.Rts (g.L++ [Led.makeE g.L p.en view (tl.map (·.1))])):=ι (fun hc=>by
  have e:=Led.add_ok hl (p:=p.en) (by rw [List.getElem?_eq_getElem (by omega),hpm]) hc;have a:=Led.addW_wf h.wf view (tl.map (·.1));have b:=Led.addW_rts h.wf h.rt view (tl.map (·.1));rw [e] at a b;exact ⟨a,b⟩)
 unfold GrownEnd at HGr;generalize AddEnd w B lb g p.en view (tl.map (·.1))=P at HPe HPo ⊢;generalize hME:Led.makeE g.L p.en view (tl.map (·.1))=ME at *;generalize hCC:Led.makeC p.en view (tl.map (·.1))=cd at *;have HH:=ι h;have hle:g.es.length≤1048577:=by have:=h.wf.le; rw [List.length_map] at this; exact this
 have HLe:=ι hle;have SZE:Hid ((Tryz.prog.info? 149).map (·.size)=some 16):=ι (by kernel_rfl);have SZH:Hid ((Tryz.prog.info? 65).map (·.size)=some 11):=ι (by kernel_rfl);clear hME hCC hpm hl hle hfew hT HT hn hp h;go_enter Tryz.func41,Tryz.ntmps41
 go_upto_region 1 with fail
 have F0:=Live.ha (ι (Live.start w)) (θ [ν]) 65;generalize World.alloc w _=W0 at F0 ⊢;generalize hrb:w.heap.size=rb at F0 ⊢;have HRB:=ι hrb;clear hrb;go_wp2_with fail
 refine (HGr.out _ F0.out.b).mono ?_;rintro e w1 ⟨x,nA,nc,rfl,hb,hok,hno⟩;have hlt0:=F0.out.lt 0 rfl;have F1:=Live.hb F0 hb;have HOk:=ι hok;have HNo:=ι hno;have HB1:=ι hb;have HB0:Hid (w.heap.size≤W0.heap.size):=ι F0.out.b.size;have HB0r:Hid (rb<W0.heap.size):=ι (F0.out.lt 0 rfl);have HL0:Hid (lb<W0.heap.size):=ι (by have h5:=HH.out.blk.lt; have h6:=F0.out.b.size; have h7:=HRB.out; omega);clear hb hok hno HGr hlt0;obtain ⟨pl,hpl⟩:∃ z,lcell x=z:=⟨_,rfl⟩
 have HPE:=ι hpl;have HL16:Hid (pl.length=16):=ι (by rw [←hpl]; rfl);rw [hpl];clear hpl;have F2:=Live.ha F1 (θ [ν,ε,ν,ν,.pointer none,ν]) 149;have TH:(w1.alloc (.cells (θ [ν,ε,ν,ν,.pointer none,ν]) 149)).there w1.heap.size 0 pl.toArray.size:=by have:=F2.out.there 0 16 rfl (by decide); simpa [HL16.out] using this
 have SZP:(Tryz.prog.info? 149).map (·.size)=some pl.toArray.size:=by simpa [HL16.out] using SZE.out
 have SZM:(Tryz.prog.info? 149).map (·.size)=some pl.length:=by rw [HL16.out]; exact SZE.out
 have ONP:Hid (pl.toArray.all (·.oneCell')=true):=ι (all_oneCell_toArray (by
  rw [←HPE.out];by_cases hc:cd=0
  ·exact lcell_one x (HOk.out hc).2.1.t.one
  ·rw [HNo.out hc]; exact lcell_one zeroLe rfl))
 have ONQ:=ONP.out;have F3:=Live.hall F2 0 pl rfl (by simpa using HL16.out.symm);obtain ⟨W3,h3⟩:∃ W,(w1.alloc (.cells (θ [ν,ε,ν,ν,.pointer none,ν]) 149)).setCells w1.heap.size 0 pl=W:=⟨_,rfl⟩
 rw [h3] at F3;have H3:=ι h3;have HB3:Hid (Below W0.heap.size W0 W3):=ι (by
  have h5:=(Live.hall (Live.ha (ι (Live.start w1)) (θ [ν,ε,ν,ν,.pointer none,ν]) 149) 0 pl rfl (by simpa using HL16.out.symm)).out.b;rw [h3] at h5;exact HB1.out.nxt h5)
 have HB31:Hid (Below w1.heap.size w1 W3):=ι (by
  have h5:=(Live.hall (Live.ha (ι (Live.start w1)) (θ [ν,ε,ν,ν,.pointer none,ν]) 149) 0 pl rfl (by simpa using HL16.out.symm)).out.b;rw [h3] at h5;exact h5)
 clear h3 F2 F1;have hsz:=HL16.out;go_upto_region 2 with ((with_reducible refine at_store 16 ?_); refine wpList_store_as rfl 149 _ _ rfl w1.heap.size 0 pl.toArray rfl rfl TH SZP ONQ W3 H3.out ?_)
 generalize hxb:w1.heap.size=xb at F3 ⊢;have HXB:=ι hxb;clear hxb TH ONQ SZP ONP;by_cases hc:cd=0;rotate_left
 ·have hc1:((cd:Int) !=0)=true:=by simp; exact hc
  have HCn:=ι hc;clear hc;have TH:W3.there rb 0 11:=F3.out.there 1 11 rfl (by decide);have F9:=Live.hall F3 1 (θ [ν]) rfl rfl;have HG9:W3.grownBy (W3.setCells rb 0 (θ [ν])) (some rb):=grown_setAll _ 0 _ (World.grownBy.refl _ _);have hr:=run_loadVar_mid (P:=Tryz.prog) (W3.setCells rb 0 (θ [ν])) rb 0 65 (θ [ν]) _ (range_of_blk (F9.out.blk 1 rfl)) Tryz.underlying65 rfl SZH.out;obtain ⟨W9,h9⟩:∃ W9,W3.setCells rb 0 ((θ [ν]):Array Value).toList=W9:=⟨_,rfl⟩
  have h9b:W3.setCells rb 0 [.int .i64 0,.int .i64 0,.int .i64 0,.bool false,.string ⟨#[]⟩,.string ⟨#[]⟩,.string ⟨#[]⟩,.string ⟨#[]⟩,.string ⟨#[]⟩,.string ⟨#[]⟩,.slice none 0 0]=W9:=h9;rw [h9b] at F9 hr HG9;have H9:=ι h9;have HG9:=ι HG9;clear h9b h9;go_wp2_with (((with_reducible refine at_store 21 ?_); refine wpList_store_as rfl 65 _ _ rfl rb 0 (θ [ν]) rfl rfl TH SZH.out (by simp [Value.oneCell']) W9 H9.out ?_))
  (try simp only [Exit.inBlock,Exit.then])
  refine bodyPost_ret (v:= .tuple #[.agg (θ [ν]),cd]) (results_cell2 Tryz.results41 rfl hr rfl) rfl ?_;exact HPe.out cd _ rfl HCn.out F9.out.b
 subst hc;obtain ⟨hen,hxo,hrn,hfr⟩:=HOk.out rfl;obtain ⟨hw2,hr2⟩:=HW2.out rfl;rw [←hen] at hw2 hr2;have HEn:=ι hen;have HXo:=ι (hxo.next HB31.out);have HRn:=ι ((hrn.below HB31.out).more HB31.out.size);have HFr:=ι hfr;have HW3:=ι (And.intro hw2 hr2);have HG3:=ι (HH.out.next F3.out.b);clear hen hxo hrn hfr hw2 hr2 HOk HNo HW2;go_upto_region 4 with fail
 have RG:W3.rangeAt xb 0 pl:=range_of_blk (F3.out.blk 0 rfl);have HNE:Hid (xb≠lb):=ι (by have h5:=HL0.out; have h6:=HB1.out.size; have h7:=HXB.out; omega);have HFo:∀ b,b<W0.heap.size→wofA g.nA g.nx.length b→x.woff b∧wofA nA x.en.nxt.length b:=HFr.out;have HOX:Hid (x.woff lb∧∀ k,g.al.ownBlock=some k→x.woff k):=ι ⟨(HFo lb HL0.out HH.out.noff.1).1,fun k hk=>(HFo k (by have h5:=(HH.out.own.lt k hk).2; have h6:=F3.out.b.size; have h7:=HB0.out; omega) (HH.out.noff.2 k hk)).1⟩;have HON:Hid (wofA nA x.en.nxt.length lb∧∀ k,g.al.ownBlock=some k→wofA nA x.en.nxt.length k):=ι ⟨(HFo lb HL0.out HH.out.noff.1).2,fun k hk=>(HFo k (by have h5:=(HH.out.own.lt k hk).2; have h7:=HB0.out; omega) (HH.out.noff.2 k hk)).2⟩;have HXO2:Hid (g.al.ownBlock≠some xb):=ι (fun e=>by have h5:=(HH.out.own.lt _ e).2; have h7:=HB0.out; have h6:=HB1.out.size; have h8:=HXB.out; omega);clear HFo;go_cut [] (fun wx=>∃ (A4:Option Addr) (c4:Nat),LgAt wx B lb ⟨g.es++ [x],A4,c4,x.en.nxt,nA,nc⟩∧(Value.slice A4 (g.es.length+1) c4).ownBlock≠some rb∧Frm W3 wx lb g.al.ownBlock∧wx.rangeAt xb 0 pl)
 case first=>
  refine wp_region_noPanic ?_;refine wp_region_held_drew (S:=fun w'=>w'.rangeAt xb 0 pl) (by kernel_rfl) RG (fun hHeld=> ?_);clear RG;have F:=live_drew F3;have G:=ι (HG3.out.next (w':=W3.drew) ⟨rfl,rfl,rfl,Nat.le_refl _,fun _ _=>rfl⟩);have XO:=ι (HXo.out.next (w':=W3.drew) ⟨rfl,rfl,rfl,Nat.le_refl _,fun _ _=>rfl⟩);have RN:Hid (Reads W3.drew W3.drew.heap.size 2 nA x.en.nxt.length (mcells x.en.nxt)):=ι ((HRn.out.below (w':=W3.drew) ⟨rfl,rfl,rfl,Nat.le_refl _,fun _ _=>rfl⟩).more (Nat.le_refl _));have FM:Hid (Frm W3 W3.drew lb g.al.ownBlock):=ι ⟨rfl,rfl,rfl,Nat.le_refl _,fun _ _ _ _=>rfl⟩;generalize W3.drew=Wd at F G XO RN FM hHeld ⊢;refine tk 0 23 rfl ?_;try go_frame
  refine tk 1 24 rfl ?_;try go_frame
  refine tk 2 25 rfl ?_;try go_frame
  refine tk 3 26 rfl ?_;try go_frame
  refine tk 4 27 rfl ?_;try go_frame
  refine' wpAnyH_take (i:=6) (oi:=⟨some 29,_,_,_,_,_⟩) (v:=_) rfl (by kernel_rfl) (by kernel_rfl) (by kernel_rfl) (fun _ _ _ h=>h) (yieldsIf_load_mid (by rfl) _ _ rfl xb 0 rfl pl _ (fun w h=>h) Tryz.underlying149 rfl SZM) (by assumption) ?_
  try go_frame
  refine tk 9 32 rfl ?_;try go_frame
  refine rd2 5 7 rfl rfl (fun K hK=> ?_) (fun K hK=> ?_)
  ·skip
   have kl:=G.out.blk.cell 0;simp only [List.getElem?_toArray,List.getElem?_cons_zero] at kl;go_simp
   refine hK.out _ _ (range_of_blk (F.out.blk 0 rfl)) (fun hHeld=> ?_);clear hK K kl;try go_frame
   refine rd1 7 rfl (fun K hK=> ?_);go_simp
   generalize hF:List.foldl _ _ pl.zipIdx=cs;have hF2:cs=pl.toArray:=hF.symm.trans (foldl_set pl (θ [ν,ε,ν,ν,.pointer none,ν]) [] (by rw [HL16.out]; rfl));subst hF2;refine hK.out _ _ (World.rangeAt_alloc (range_of_blk (F.out.blk 0 rfl)) _) (fun hHeld=> ?_);clear hK K hF;exact z_39
  ·skip
   go_simp
   generalize hF:List.foldl _ _ pl.zipIdx=cs;have hF2:cs=pl.toArray:=hF.symm.trans (foldl_set pl (θ [ν,ε,ν,ν,.pointer none,ν]) [] (by rw [HL16.out]; rfl));subst hF2;refine hK.out _ _ (World.rangeAt_alloc (range_of_blk (F.out.blk 0 rfl)) _) (fun hHeld=> ?_);clear hK K hF;try go_frame
   refine rd1 5 rfl (fun K hK=> ?_);have Ga:=G.out.next ((Below.refl _ Wd).alloc (Nat.le_refl _) (.cells pl.toArray 149));have kl:=Ga.blk.cell 0;simp only [List.getElem?_toArray,List.getElem?_cons_zero] at kl;go_simp
   refine hK.out _ _ (World.rangeAt_alloc (range_of_blk (F.out.blk 0 rfl)) _) (fun hHeld=> ?_);clear hK K kl Ga;exact z_39
 case rest=>
 obtain ⟨A4,c4,hg',how,hfm,hrg⟩:=hcut;have hR3:rb<W3.heap.size:=F3.out.lt 1 rfl;have hRL:rb≠lb:=by have h5:=HH.out.blk.lt; have h6:=HRB.out; omega
 have hRO:some rb≠g.al.ownBlock:=fun e=>by have h5:=(HH.out.own.lt rb e.symm).2; have h6:=HRB.out; omega
 have b0:Blk wc rb 65 (θ [ν]):=by
  unfold Blk;rw [hfm.block rb hR3 hRL hRO];exact F3.out.blk 1 rfl
 have hxk:=hg'.ok x (by simp);have hsk:x.en.hd.sk.length≤100000:=by
  have h5:=(HW3.out.1.one g.L.length (by simp)).ok.sk_le;rw [List.getElem_append_right (Nat.le_refl _)] at h5;simp only [Nat.sub_self,List.getElem_cons_zero] at h5;omega
 have HSh:=ι (lg_shown wc x.en.hd x.kA x.kc hxk.k hsk);have RG:wc.rangeAt xb 0 (η x.en.hd [.slice x.kA x.en.hd.sk.length x.kc]):=fun j v hv=>hrg j v (by
  rw [←HPE.out];have hl:lcell x= [.int .i64 x.en.hd.hgt,.int .i64 x.en.hd.epo,.int .i64 x.en.hd.vw,.bool x.en.hd.last,.string ⟨x.en.hd.par.toArray⟩,.string ⟨x.en.hd.st.toArray⟩,.string ⟨x.en.hd.rc.toArray⟩,.string ⟨x.en.hd.tx.toArray⟩,.string ⟨x.en.hd.mem.toArray⟩,.string ⟨x.en.hd.nxt.toArray⟩,.slice x.kA x.en.hd.sk.length x.kc]++(lcell x).drop 11:=rfl;rw [hl,List.getElem?_append_left (List.getElem?_eq_some_iff.1 hv).1];exact hv)
 have hwo:∀ e∈g.es++ [x],e.woff rb:=fun e he=>by
  rcases List.mem_append.1 he with he|he
  ·exact (HH.out.ok e he).new (Nat.le_of_eq HRB.out)
  ·rw [List.mem_singleton] at he;subst he;exact (HFr.out rb (by have h5:=HB0r.out; omega) (wofA.new HH.out.nr (Nat.le_of_eq HRB.out))).1
 have hno:wofA nA x.en.nxt.length rb:=(HFr.out rb (by have h5:=HB0r.out; omega) (wofA.new HH.out.nr (Nat.le_of_eq HRB.out))).2;have HF:=ι (And.intro hg' (And.intro how (And.intro hfm (And.intro b0 (And.intro hwo (And.intro hno hRL))))));have HF3:=ι F3.out.b;clear hg' how hfm hrg hR3 hRL hRO b0 hxk hsk hwo hno HFr F3 HG3 HXo HRn HOX HON;go_wp2_with ((with_reducible refine at_load 38 ?_); refine wpList_load_mid rfl 65 _ rfl xb 0 rfl (η x.en.hd [.slice x.kA x.en.hd.sk.length x.kc]) _ RG Tryz.underlying65 rfl SZH.out ?_)
 refine HSh.out.mono ?_;rintro e w10 ⟨kA,kc,rfl,hb,hr10,hf10⟩;obtain ⟨hg',how,hfm,b0,hwo,hno,hRL⟩:=HF.out;have b10:=b0.below hb b0.lt;have TH:w10.there rb 0 11:=blk_there b10 11 (by decide);have b9:=Blk.setAll (η x.en.hd [.slice kA x.en.hd.sk.length kc]) [] (θ [ν]) [] w10 rfl b10;have HG9:w10.grownBy (w10.setCells rb 0 (η x.en.hd [.slice kA x.en.hd.sk.length kc])) (some rb):=grown_setAll _ 0 _ (World.grownBy.refl _ _);have hr:=run_loadVar_mid (P:=Tryz.prog) (w10.setCells rb 0 (η x.en.hd [.slice kA x.en.hd.sk.length kc])) rb 0 65 (η x.en.hd [.slice kA x.en.hd.sk.length kc]) _ (range_of_blk b9) Tryz.underlying65 rfl SZH.out;have hrk:rb<w10.heap.size:=b10.lt;have HLg:=ι ((hg'.next hb).far HG9 hRL (fun e=>how (by cases A4<;>exact e)) hwo hno ⟨_,_,b10,by decide,by decide⟩);have HFm:Hid (Frm w (w10.setCells rb 0 (η x.en.hd [.slice kA x.en.hd.sk.length kc])) lb g.al.ownBlock):=ι (by
  have h5:=((Frm.of_below HF3.out lb g.al.ownBlock).trans hfm).trans ((Frm.of_below hb lb g.al.ownBlock));exact ⟨HG9.os.trans h5.os,HG9.tape.trans h5.tape,HG9.output.trans h5.output,Nat.le_trans h5.size HG9.size,fun k hk h3 h4=>(HG9.block k (Nat.lt_of_lt_of_le hk h5.size) (fun e=>by have h6:=Option.some.inj e; have h7:=HRB.out; omega)).trans (h5.block k hk h3 h4)⟩)
 have HRk:=ι (reads_off hr10 HG9 (fun a ha e=>by have h5:=hf10 a ha; have h6:=Option.some.inj e; have h7:=b0.lt; omega));obtain ⟨W9,h9⟩:∃ W9,w10.setCells rb 0 ((η x.en.hd [.slice kA x.en.hd.sk.length kc]):Array Value).toList=W9:=⟨_,rfl⟩
 have h9b:w10.setCells rb 0 [.int .i64 x.en.hd.hgt,.int .i64 x.en.hd.epo,.int .i64 x.en.hd.vw,.bool x.en.hd.last,.string ⟨x.en.hd.par.toArray⟩,.string ⟨x.en.hd.st.toArray⟩,.string ⟨x.en.hd.rc.toArray⟩,.string ⟨x.en.hd.tx.toArray⟩,.string ⟨x.en.hd.mem.toArray⟩,.string ⟨x.en.hd.nxt.toArray⟩,.slice kA x.en.hd.sk.length kc]=W9:=h9;rw [h9b] at hr HLg HFm HRk;have H9:=ι h9;clear h9b h9 hg' how hfm b0 hwo hno hRL b10 b9 HG9 hrk hr10 hf10 hb HSh HF RG;go_wp2_with ((with_reducible refine at_store 39 ?_); refine wpList_store_as rfl 65 _ _ rfl rb 0 (η x.en.hd [.slice kA x.en.hd.sk.length kc]) rfl rfl TH SZH.out (by simp [Value.oneCell']) W9 H9.out ?_)
 (try simp only [Exit.inBlock,Exit.then])
 refine bodyPost_ret (v:= .tuple #[.agg (η x.en.hd [.slice kA x.en.hd.sk.length kc]),ζ]) (results_cell2 Tryz.results41 rfl hr rfl) rfl ?_;exact HPo.out x.en.hd kA kc _ W9 (by first|exact trivial|rfl) HLg.out HFm.out HRk.out (by simp [LgM.L,HEn.out]) (by rw [HEn.out])
end
section
open Go.RowKit Go.Instr
attribute [local go_sem] ba_get ByteArray.mk_append_mk
def nodeOf (D:List Trie.KV) (k:List UInt8):Nd × Nat:=match lookB D k with
 |none=>(zeroN,90)
 |some s=>decN s
theorem decN_K (s:List UInt8):(decN s).1.2.2.2.length=16:=by
 rcases decN_cases s with h|⟨n,h,h2,_⟩
 ·rw [h]; rfl
 ·rw [h]; exact h2
theorem lookB_mem {D:List Trie.KV} {k s:List UInt8} (h:lookB D k=some s):(k,s)∈D:=by
 induction D with
 |nil=>simp [lookB] at h
 |cons x D ih=>
  simp only [lookB] at h;by_cases hk:k=x.1
  ·rw [if_pos hk] at h;injection h with h
   subst hk;subst h;exact List.mem_cons_self ..
  ·rw [if_neg hk] at h;exact List.mem_cons_of_mem _ (ih h)
theorem store_Node (w:World) (g b:Nat) (D:List Trie.KV) (h:StoreP w g b D) (key:List UInt8) (hs:∀ x∈D,x.2.length≤900000):
  Calls Tryz.prog 137 #[.pointer (some ⟨g,0,none⟩),key] w (DecNEnd w (nodeOf D key)):=by
 have HP:Hid (∀ w' n (c:Nat),nodeOf D key=(n,c)→Below w.heap.size w w'→DecNEnd w (nodeOf D key) (.returned (.tuple #[.agg (nodeV n.1 n.2.1 n.2.2.1 n.2.2.2).toArray,c])) w'):=ι (fun w' n c e h=>by rw [e]; exact ⟨rfl,h⟩);have HX:Hid (nodeOf D key=match lookB D key with|none=>(zeroN,90)|some s=>decN s):=ι rfl;generalize DecNEnd w (nodeOf D key)=P at HP ⊢;have HG:=ι (fun W (hW:Below w.heap.size w W)=>store_Get W g b D (h.next hW) key);have HL:=ι (fun s (hk:lookB D key=some s)=>show s.length≤900000 from hs _ (lookB_mem hk));generalize nodeOf D key=X at *;clear h hs;go_enter Tryz.func137,Tryz.ntmps137
 go_upto_region 1 with fail
 obtain ⟨rb,hrb⟩:∃ rb,w.heap.size=rb:=⟨_,rfl⟩
 have b1:Hid (Blk (w.alloc (.cells #[ζ,ε,ε,ε,ε,ε,ε,ε,ε,ε,ε,ε,ε,ε,ε,ε,ε,ε,ε] 133)) rb 133 #[ζ,ε,ε,ε,ε,ε,ε,ε,ε,ε,ε,ε,ε,ε,ε,ε,ε,ε,ε]∧Below w.heap.size w (w.alloc (.cells #[ζ,ε,ε,ε,ε,ε,ε,ε,ε,ε,ε,ε,ε,ε,ε,ε,ε,ε,ε] 133))∧w.heap.size≤rb):=ι (by subst hrb; exact ⟨Blk.new w _ _,by go_grown,Nat.le_refl _⟩);rw [hrb];generalize World.alloc w _=W1 at b1 ⊢;clear hrb;cases hl:lookB D key with
 |none=>
  rw [hl] at HG HX;simp only at HX;clear hl HL;go_wp2_with fail
  refine (HG.out _ b1.out.2.1).mono ?_;rintro e w2 ⟨rfl,hb2⟩;have F5:Hid (Live w w2 [(rb,133,#[ζ,ε,ε,ε,ε,ε,ε,ε,ε,ε,ε,ε,ε,ε,ε,ε,ε,ε,ε])]):=ι (Live.one (b1.out.2.1.nxt hb2) b1.out.2.2 (b1.out.1.below hb2 b1.out.1.lt));have TH:=F5.out.there 0 19 rfl (by decide);have HON:(#[ζ,ε,ε,ε,ε,ε,ε,ε,ε,ε,ε,ε,ε,ε,ε,ε,ε,ε,ε]:Array Value).all (·.oneCell')=true:=by rw [zeros_eq]; exact nodeV_one _ _ _ _
  clear hb2;go_wp2_with (first|((with_reducible refine at_op 16 ?_); refine wpList_build_eq rfl 133 _ rfl #[ζ,ε,ε,ε,ε,ε,ε,ε,ε,ε,ε,ε,ε,ε,ε,ε,ε,ε,ε] (by simp only [List.map_toArray,List.map_cons,List.map_nil]; kernel_rfl) ?_)|((with_reducible refine at_put 16 ?_); refine wpList_store_mid rfl 133 _ _ rfl rb 0 #[ζ,ε,ε,ε,ε,ε,ε,ε,ε,ε,ε,ε,ε,ε,ε,ε,ε,ε,ε] rfl rfl TH info_node HON ?_; have F6:=Live.hall F5 0 (#[ζ,ε,ε,ε,ε,ε,ε,ε,ε,ε,ε,ε,ε,ε,ε,ε,ε,ε,ε]:Array Value).toList rfl rfl; generalize World.setCells _ rb 0 _=W6 at F6 ⊢; have ld:(loadVar 133 ⟨rb,0,none⟩).run Tryz.prog W6= .ok (.agg #[ζ,ε,ε,ε,ε,ε,ε,ε,ε,ε,ε,ε,ε,ε,ε,ε,ε,ε,ε]) W6:=run_loadVar_mid (P:=Tryz.prog) W6 rb 0 133 (#[ζ,ε,ε,ε,ε,ε,ε,ε,ε,ε,ε,ε,ε,ε,ε,ε,ε,ε,ε]:Array Value).toList _ (Blk.range0 (F6.out.blk 0 rfl)) Tryz.underlying133 rfl info_node; clear TH))
  have HF:P (.returned (.tuple #[.agg #[ζ,ε,ε,ε,ε,ε,ε,ε,ε,ε,ε,ε,ε,ε,ε,ε,ε,ε,ε],.int .i64 90])) W6:=HP.out W6 zeroN 90 HX.out F6.out.b;exact ⟨rfl,_,results_cell2 rfl rfl ld rfl,HF⟩
 |some s=>
  rw [hl] at HG HX;simp only [Option.getD_some,Option.isSome_some] at HG;simp only at HX;have HDc:=ι (fun W=>node_Decode W s (by have:=HL.out s hl; omega));have hK:=decN_K s;clear hl HL;generalize decN s=dr at *;obtain ⟨⟨k,p,v,K⟩,cd⟩:=dr;unfold DecNEnd at HDc;simp only at HDc HX hK;have HEq:Hid (∀ w',Below w.heap.size w w'→P (.returned (.tuple #[.agg (nodeV k p v K).toArray,cd])) w'):=ι (fun w' h=>HP.out w' (k,p,v,K) cd HX.out h);have HSz:=ι (nodeV_size (k:=k) (p:=p) (v:=v) hK);have SZ:(Tryz.prog.info? 133).map (·.size)=some (nodeV k p v K).length:=by rw [HSz.out]; exact info_node
  have HON:=nodeV_one k p v K;generalize nodeV k p v K=NV at *;clear hK HX HP;go_wp2_with fail
  refine (HG.out _ b1.out.2.1).mono ?_;rintro e w2 ⟨rfl,hb2⟩;have B2:=ι hb2;clear hb2;go_wp2_with fail
  refine (HDc.out _).mono ?_;rintro e w3 ⟨rfl,hb3⟩;have F6:Hid (Live w w3 [(rb,133,#[ζ,ε,ε,ε,ε,ε,ε,ε,ε,ε,ε,ε,ε,ε,ε,ε,ε,ε,ε])]):=ι (Live.one (b1.out.2.1.nxt (B2.out.nxt hb3)) b1.out.2.2 (b1.out.1.below (B2.out.nxt hb3) b1.out.1.lt));have TH:w3.there rb 0 NV.toArray.size:=by
   rw [show NV.toArray.size=19 by rw [List.size_toArray]; exact HSz.out];exact F6.out.there 0 19 rfl (by decide)
  have SZ2:(Tryz.prog.info? 133).map (·.size)=some NV.toArray.size:=by rw [List.size_toArray]; exact SZ
  clear hb3;go_wp2_with ((with_reducible refine at_put 19 ?_); refine wpList_store_mid rfl 133 _ _ rfl rb 0 NV.toArray rfl rfl TH SZ2 HON ?_; have F7:=Live.hall F6 0 NV.toArray.toList rfl HSz.out.symm; generalize World.setCells _ rb 0 _=W7 at F7 ⊢; have ld:=run_loadVar_mid (P:=Tryz.prog) W7 rb 0 133 NV.toArray.toList _ (Blk.range0 (F7.out.blk 0 rfl)) Tryz.underlying133 rfl SZ; clear TH SZ2)
  have HF:=HEq.out W7 F7.out.b;exact ⟨rfl,_,results_cell2 rfl rfl ld rfl,HF⟩
end
section
open Go.RowKit Go.Instr Go.ChangeMaps
attribute [local go_sem] ba_get ByteArray.mk_append_mk
theorem KnotP.grown {w w1:World} {k:Nat} {t:Trie.T} {x:Value} (h:KnotP w t x) (hg:w.grownBy w1 (some k)) (hk:∀ cs,¬Blk w k 136 cs):KnotP w1 t x:=by
 induction h with
 |nil=>exact .nil
 |knot t b ps h1 h2 h3 _ ih=>exact .knot t b ps h1 h2 (h3.grown hg (fun e=>by injection e with e; subst e; exact hk _ h3)) ih
theorem BMap.no_blk {w:World} {b:Nat} {D:List Trie.KV} (h:BMap w b D) (t:TypeId) (cs:Array Value):¬Blk w b t cs:=by
 obtain ⟨vs,⟨E,cl,h1,_⟩,_⟩:=h.ex;intro h2;unfold Blk at h2;rw [h2] at h1;cases h1
theorem TrieP.grown {w w1:World} {b:Nat} {D:List Trie.KV} {t:Trie.T} {v:Value} (h:TrieP w t v) (hm:BMap w b D) (hg:w.grownBy w1 (some b)):TrieP w1 t v:=by
 obtain ⟨h1,g,x,h2,h3,h4⟩:=h;exact ⟨h1,g,x,h2,h3.grown hg (fun e=>by injection e with e; subst e; exact hm.no_blk _ _ h3),h4.grown hg (fun cs=>hm.no_blk _ cs)⟩
theorem BMap.tbl {w w1:World} {b:Nat} {D:List Trie.KV} (h:BMap w b D) (hT:Tbl w) (hg:w.grownBy w1 (some b)):Tbl w1:=by
 refine hT.grown hg ?_;obtain ⟨vs,hm,_⟩:=h.ex;refine Nat.pos_of_ne_zero fun e=> ?_;subst e
 have:=hT 0 (by omega)
 rw [hm.no_cell _ rfl] at this;cases this
theorem Reads.off {w w1:World} {b B n:Nat} {D:List Trie.KV} {A:Option Addr} {xs:List Value} (hr:Reads w B 1 A n xs) (hB:B≤w.heap.size) (h:BMap w b D) (hg:w.grownBy w1 (some b)):Reads w1 B 1 A n xs:=by
 obtain ⟨vs,hm,_⟩:=h.ex;exact hr.off_map hm hB hg
def saveD (D:List Trie.KV) (l:List (List UInt8)):List Trie.KV:=l.foldl putS D
theorem saveD_take (D:List Trie.KV) (l:List (List UInt8)) (i:Nat) (h:i<l.length):saveD D (l.take (i+1))=putS (saveD D (l.take i)) l[i]:=by
 unfold saveD;rw [List.take_succ_eq_append_getElem h,List.foldl_append];rfl
theorem trie_Save (w:World) (t:Trie.T) (v:Value) (h:TrieP w t v) (hc:Trie.count t≤20000) (hs:∀ x∈toldW allW t,x.length≤900000) (g b:Nat) (D:List Trie.KV) (HS:StoreP w g b D) (hT:Tbl w):
  Calls Tryz.prog 52 #[v,.pointer (some ⟨g,0,none⟩)] w fun e w'=>e= .returned (.string ⟨(Trie.sumT t).toArray⟩)∧StoreP w' g b (saveD D (toldW allW t))∧w.grownBy w' (some b):=by
 have HP:Hid (∀ w',StoreP w' g b (saveD D (toldW allW t))→w.grownBy w' (some b)→(fun e w'=>e=Ending.returned (.string ⟨(Trie.sumT t).toArray⟩)∧StoreP w' g b (saveD D (toldW allW t))∧w.grownBy w' (some b)) (Ending.returned (.string ⟨(Trie.sumT t).toArray⟩)) w'):=ι (fun w' h1 h2=>⟨rfl,h1,h2⟩);generalize (fun e w'=>e=Ending.returned (.string ⟨(Trie.sumT t).toArray⟩)∧StoreP w' g b (saveD D (toldW allW t))∧w.grownBy w' (some b))=P at HP ⊢;have HNo:=ι (trie_Nodes w t v h hc);have HTl:Hid ((toldW allW t).length≤100000):=ι (by
  rw [toldW,textsD,List.length_map];exact Trie.goT_short h.1.wf hc _ _)
 have HTr:=ι h;obtain ⟨_,vb,vx,rfl,_⟩:=id h;have HSt:=ι HS;have HTb:=ι hT;have HRt:=ι (fun W (hW:TrieP W t (.pointer (some ⟨vb,0,none⟩)))=>trie_Root W t _ hW);have HSh:=ι hs;clear h HS hT hc hs;generalize toldW allW t=l at *;generalize Trie.sumT t=sm at *;go_enter Tryz.func52,Tryz.ntmps52
 go_wp2_with fail
 refine HNo.out.mono ?_;rintro e w1 ⟨A1,n1,c1,rfl,hn1,own1,hb1⟩;obtain rfl:=hn1;have R1:=ι (Reads.of_own own1);have HB1:=ι hb1;have S1:=ι (HSt.out.next hb1);have T1:=ι (HTr.out.next hb1);have Tb1:=ι (HTb.out.next hb1);clear own1 hb1 HNo HTr HTb HSt;go_wp2_with fail
 refine wp_loop_ghost_k (fun k a wr=>∀ Φ:Act→Prop,(∀ ⦃s2 s3 s4 s5 s6 s7 a2 a3 a4 a5 a6 a7 a8 a9 b0:Value⦄ (i:Nat),(i+k=l.length∧StoreP wr g b (saveD D (l.take i))∧w1.grownBy wr (some b))→Φ {tmps:=#[.pointer (some ⟨vb,0,none⟩),.pointer (some ⟨g,0,none⟩),s2,s3,s4,s5,s6,s7,.slice A1 l.length c1,.int .i64 (l.length:Int),.int .i64 (i:Int),a2,a3,a4,a5,a6,a7,a8,a9,b0],defers:= []})→Φ a) (l.length) ?_ ?_
 ·refine fun Φ hΦ=>hΦ (0) ?_;exact ⟨by omega,by simpa [saveD] using S1.out,⟨rfl,rfl,rfl,Nat.le_refl _,fun _ _ _=>rfl⟩⟩
 ·intro k1 a1 wr1 hI1 J1 K1 hJ1 hK1;refine hI1 (fun a=>Code.wp _ _ _ a _) ?_;clear hI1 a1;intro s0 s1 s2 s3 s4 s5 s6 s7 s8 s9 a0 a2 a3 a4 a5 i hrel
  show Code.wp _ _ _ _ _;obtain ⟨h1,hst,hg⟩:=hrel;by_cases hi:i<l.length
  ·have R2:Reads wr1 wr1.heap.size 1 A1 l.length (strv l):=(R1.out.off (Nat.le_refl _) S1.out.map hg).more hg.size;obtain ⟨ad,off,rfl,hbl,hcell⟩:=few_cell R2 hi;have q0:=hcell _ (Below.refl _ _);have hi1:(i:Int)<l.length:=by omega
   have hi0:(0:Int)≤i:=by omega
   have hl:=HTl.out;have hi3:i≤100000:=by omega
   have hx:=HSh.out _ (List.getElem_mem hi);have htk:=saveD_take D l i hi;have HI:=ι (And.intro h1 (And.intro hg htk));have HPu:=ι (store_Put wr1 g b _ hst l[i] hx (S1.out.map.tbl Tb1.out hg));clear h1 hst hg hcell R2 hx htk hbl;generalize saveD D (l.take i)=Di at *;generalize l[i]=x at *;go_wp2_with fail
   refine HPu.out.mono ?_;rintro e w2 ⟨rfl,s2,g2⟩;have H2:=ι (And.intro s2 g2);clear s2 g2 q0;go_wp2_with fail
   refine Handed.intro (l.length - (i+1)) ?_ (hJ1 _ _ _ (fun Φ hΦ=>hΦ (i+1) ?_))
   ·have:=HI.out.1; omega
   ·exact ⟨by have:=HI.out.1; omega,by rw [HI.out.2.2]; exact H2.out.1,HI.out.2.1.trans H2.out.2⟩
  ·have hi1:((i:Int)<l.length)=False:=by simp; omega
   rw [List.take_of_length_le (by omega)] at hst;have HE:=ι (And.intro hst hg);clear h1 hst hg hi;go_wp2_with fail
   refine (HRt.out _ (T1.out.grown S1.out.map HE.out.2)).mono ?_;rintro e w3 ⟨rfl,rfl⟩;go_wp2_with fail
   exact HP.out _ HE.out.1 ((grown_of_low _ HB1.out).trans HE.out.2)
def VersNewEnd (w:World) (e:Ending) (w':World):Prop:=
 ∃ (vb g b rb:Nat) (nt:Value),e= .returned (.pointer (some ⟨vb,0,none⟩))∧Blk w' vb 112 #[.pointer (some ⟨g,0,none⟩),.map (some rb),nt,.int .i64 (-1),ζ]∧StoreP w' g b []∧(∃ cl,w'.heap[rb]?=some (.map #[] cl))∧TrieP w' .nil nt∧Below w.heap.size w w'∧w.heap.size≤vb∧w.heap.size≤g∧w.heap.size≤b∧w.heap.size≤rb∧b≠rb
theorem vers_New (w:World):Calls Tryz.prog 10 #[] w (VersNewEnd w):=by
 have HP:Hid (∀ (vb g b rb:Nat) (nt:Value) w',Blk w' vb 112 #[.pointer (some ⟨g,0,none⟩),.map (some rb),nt,.int .i64 (-1),ζ]→StoreP w' g b []→(∃ cl,w'.heap[rb]?=some (.map #[] cl))→TrieP w' .nil nt→Below w.heap.size w w'→w.heap.size≤vb→w.heap.size≤g→w.heap.size≤b→w.heap.size≤rb→b≠rb→VersNewEnd w (.returned (.pointer (some ⟨vb,0,none⟩))) w'):=ι (fun vb g b rb nt w' h1 h2 h3 h4 h5 h6 h7 h8 h9 h10=>⟨vb,g,b,rb,nt,rfl,h1,h2,h3,h4,h5,h6,h7,h8,h9,h10⟩);generalize VersNewEnd w=P at HP ⊢;have hmm:=@run_makeMap Tryz.prog;go_enter Tryz.func10,Tryz.ntmps10
 go_wp2_with fail
 refine (store_New w).mono ?_;rintro e w1 ⟨g,b,rfl,hs,hb,hg0,hb0⟩;have HS:=ι (And.intro hs hb);have HG:=ι (And.intro hg0 hb0);have HR0:=ι hb.size;clear hs hb hg0 hb0;go_wp2_with fail
 have b2:Below w1.heap.size w1 (w1.alloc (.map #[] 0)):=(Below.refl _ w1).alloc (Nat.le_refl _) _;have m2:(w1.alloc (.map #[] 0)).heap[w1.heap.size]?=some (.map #[] 0):=heap_alloc_new w1 _;generalize hW:w1.alloc (.map #[] 0)=w2 at b2 m2 ⊢;have hl2:w1.heap.size<w2.heap.size:=by rw [←hW,World.size_alloc]; omega
 have HB2:=ι b2;have H2:=ι (And.intro m2 hl2);have HR1:Hid (w.heap.size≤w1.heap.size):=HR0;have HNe:Hid (b<w1.heap.size):=ι HS.out.1.map.lt;clear b2 m2 hl2 hW;generalize w1.heap.size=rb at H2 HR1 HNe ⊢;refine (trie_New w2).mono ?_;rintro e w3 ⟨nt,rfl,ht,hb3⟩;obtain ⟨_,tb,tx,rfl,_⟩:=id ht;have H3:=ι (And.intro ht hb3);clear ht hb3;go_wp2_with fail
 have b4:Below w3.heap.size w3 (w3.alloc (.cells #[.pointer (some ⟨g,0,none⟩),.map (some rb),.pointer (some ⟨tb,0,none⟩),.int .i64 (-1),ζ] 112)):=(Below.refl _ w3).alloc (Nat.le_refl _) _;refine HP.out _ g b rb _ _ (Blk.new w3 _ _) (((HS.out.1.next HB2.out).next H3.out.2).next b4) ⟨0,?_⟩ (H3.out.1.next b4) ?_ ?_ HG.out.1 HG.out.2 HR1.out (Nat.ne_of_lt HNe.out)
 ·rw [b4.block rb (Nat.lt_of_lt_of_le H2.out.2 H3.out.2.size),H3.out.2.block rb H2.out.2];exact H2.out.1
 ·exact ((HS.out.2.nxt HB2.out).nxt H3.out.2).nxt b4
 ·exact (((HS.out.2.nxt HB2.out).nxt H3.out.2)).size
end
namespace Trie
abbrev Ld:=T × Nat × Nat
def kidsLd (f:List UInt8→List UInt8→Nat→Nat→Ld) (K:List (List UInt8)) (at_:Nat→List UInt8):Nat→Nat→Nat→List T × Nat × Nat
 |0,m,c=>([],m,c)
 |n+1,m,c=>
  if K.getD (15 - n) []= [] then (.nil::(kidsLd f K at_ n m c).1,(kidsLd f K at_ n m c).2)
  else ((f (K.getD (15 - n) []) (at_ (15 - n)) m c).1::(kidsLd f K at_ n (f (K.getD (15 - n) []) (at_ (15 - n)) m c).2.1 (f (K.getD (15 - n) []) (at_ (15 - n)) m c).2.2).1,(kidsLd f K at_ n (f (K.getD (15 - n) []) (at_ (15 - n)) m c).2.1 (f (K.getD (15 - n) []) (at_ (15 - n)) m c).2.2).2)
def mkT (n:Nd) (ts:List T):T:=if n.1=1 then .leaf n.2.1 n.2.2.1 else if n.1=2 then .ext n.2.1 (ts.getD 0 .nil) else .branch n.2.2.1 fun i=>ts.getD i.val .nil
def itemLd (long m:Nat):Nat × Nat:=if long=0∨long % 2=1 then (m,4) else if 1024<m+1 then (m+1,2) else (m+1,0)
def kidAt (n:Nd) (pl:List UInt8) (i:Nat):List UInt8:=if n.1=2 then pl++n.2.1 else pl++ [UInt8.ofNat i]
def oddLd (n:Nd) (pl:List UInt8) (below:Bool):Bool:=(below && !decide (n.1=3))||decide (16<pl.length+n.2.1.length)||(decide (n.1=3) && !decide (n.2.2.2=zeroK) && decide (16≤pl.length+n.2.1.length))
def manyLd (n:Nd) (pl:List UInt8) (m:Nat):Nat × Nat:=if n.2.2.1= [] then (m,0) else itemLd (pl.length+n.2.1.length) m
def endLd (n:Nd) (r:List T × Nat × Nat):Ld:=if r.2.2=0 then (mkT n r.1,r.2.1,0) else (.nil,r.2.1,r.2.2)
def loadW (D:List Trie.KV):Nat→List UInt8→List UInt8→Bool→Nat→Nat→Ld
 |0,_,_,_,m,_=>(.nil,m,4)
 |f+1,sum,pl,below,m,c=>
  if c≠0 then (.nil,m,c)
  else if (nodeOf D sum).2≠0 then (.nil,m,(nodeOf D sum).2)
  else if oddLd (nodeOf D sum).1 pl below=true then (.nil,m,4)
  else if (manyLd (nodeOf D sum).1 pl m).2≠0 then (.nil,(manyLd (nodeOf D sum).1 pl m).1,(manyLd (nodeOf D sum).1 pl m).2)
  else endLd (nodeOf D sum).1 (kidsLd (fun s p m c=>loadW D f s p (decide ((nodeOf D sum).1.1=2)) m c) (nodeOf D sum).1.2.2.2 (kidAt (nodeOf D sum).1 pl) 16 (manyLd (nodeOf D sum).1 pl m).1 0)
end Trie
section
open Go.RowKit Go.Instr
attribute [local go_sem] ba_get ByteArray.mk_append_mk
def LdrP (w:World) (lb g m c:Nat):Prop:=Blk w lb 190 #[.pointer (some ⟨g,0,none⟩),m,c]
theorem grown_cell1 {w:World} {lb i:Nat} {v:Value}:w.grownBy (w.setCell ⟨lb,i,none⟩ v) (some lb):=
 ⟨rfl,rfl,rfl,by simp [World.setCell],fun j hj hne=>Below.heap_setCell _ _ _ _ (fun e=>hne (by rw [e]))⟩
theorem ldr_wrong (w:World) (lb g m:Nat) (h:LdrP w lb g m 0) (e:Nat):
  Calls Tryz.prog 144 #[.pointer (some ⟨lb,0,none⟩),e] w fun e' w'=>e'= .returned (.pointer none)∧LdrP w' lb g m e∧w.grownBy w' (some lb):=by
 have HP:Hid (∀ w',LdrP w' lb g m e→w.grownBy w' (some lb)→(fun e' w'=>e'=Ending.returned (.pointer none)∧LdrP w' lb g m e∧w.grownBy w' (some lb)) (Ending.returned (.pointer none)) w'):=ι (fun w' h1 h2=>⟨rfl,h1,h2⟩);generalize (fun e' w'=>e'=Ending.returned (.pointer none)∧LdrP w' lb g m e∧w.grownBy w' (some lb))=P at HP ⊢;have c2:w.cell? ⟨lb,2,none⟩=some (.int .i64 0):=Blk.cell h 2;have f2:w.frozen? ⟨lb,2,none⟩=false:=Blk.frozen h 2;have HS:Hid (LdrP (w.setCell ⟨lb,2,none⟩ (.int .i64 (e:Int))) lb g m e):=ι (Blk.set_ h 2 _);clear h;go_enter Tryz.func144,Tryz.ntmps144
 go_wp2_with fail
 exact HP.out _ HS.out grown_cell1
theorem ldr_item (w:World) (lb g m long:Nat) (h:LdrP w lb g m 0) (hm:m≤100000) (hl:long≤100000):
  Calls Tryz.prog 145 #[.pointer (some ⟨lb,0,none⟩),long] w fun e' w'=>e'= .returned (.bool (decide ((Trie.itemLd long m).2=0)))∧LdrP w' lb g (Trie.itemLd long m).1 (Trie.itemLd long m).2∧w.grownBy w' (some lb):=by
 have HP:Hid (∀ r w',Trie.itemLd long m=r→LdrP w' lb g r.1 r.2→w.grownBy w' (some lb)→(fun e' w'=>e'=Ending.returned (.bool (decide ((Trie.itemLd long m).2=0)))∧LdrP w' lb g (Trie.itemLd long m).1 (Trie.itemLd long m).2∧w.grownBy w' (some lb)) (Ending.returned (.bool (decide (r.2=0)))) w'):=ι (fun r w' e h1 h2=>by rw [e]; exact ⟨rfl,h1,h2⟩);have HX:Hid (Trie.itemLd long m=if long=0∨long % 2=1 then (m,4) else if 1024<m+1 then (m+1,2) else (m+1,0)):=ι rfl;generalize (fun e' w'=>e'=Ending.returned (.bool (decide ((Trie.itemLd long m).2=0)))∧LdrP w' lb g (Trie.itemLd long m).1 (Trie.itemLd long m).2∧w.grownBy w' (some lb))=P at HP ⊢;have HL:=ι h;generalize Trie.itemLd long m=X at *;have c1:w.cell? ⟨lb,1,none⟩=some (.int .i64 (m:Int)):=Blk.cell h 1;have f1:w.frozen? ⟨lb,1,none⟩=false:=Blk.frozen h 1;by_cases h0:long=0
 ·have HE:Hid (X=(m,4)):=ι (by rw [HX.out,if_pos (.inl h0)]);subst h0;have HW:=ι (ldr_wrong w lb g m h 4);clear HX h c1 f1;go_enter Tryz.func145,Tryz.ntmps145
  go_wp2_with fail
  refine HW.out.mono ?_;rintro e w1 ⟨rfl,h1,h2⟩;have H1:=ι (And.intro h1 h2);clear h1 h2;go_wp2_with fail
  exact HP.out (m,4) _ HE.out H1.out.1 H1.out.2
 ·have hl0:((long:Int)==0)=false:=by simp; exact h0
  by_cases ho:long % 2=1
  ·have hrem:(long:Int) % 2=1:=by omega
   have htm:Int.tmod (long:Int) 2=1:=by rw [Int.tmod_eq_emod_of_nonneg (by omega)]; exact hrem
   have HE:Hid (X=(m,4)):=ι (by rw [HX.out,if_pos (.inr ho)]);have HW:=ι (ldr_wrong w lb g m h 4);clear HX h c1 f1;go_enter Tryz.func145,Tryz.ntmps145
   go_wp2_with fail
   refine HW.out.mono ?_;rintro e w1 ⟨rfl,h1,h2⟩;have H1:=ι (And.intro h1 h2);clear h1 h2;go_wp2_with fail
   exact HP.out (m,4) _ HE.out H1.out.1 H1.out.2
  ·have hrem:(long:Int) % 2=0:=by omega
   have htm:Int.tmod (long:Int) 2=0:=by rw [Int.tmod_eq_emod_of_nonneg (by omega)]; exact hrem
   have hm1:wrap64 ((m:Int)+1)=((m+1:Nat):Int):=IntWalk.wrap64_in _ (by constructor<;>omega);have HS:Hid (LdrP (w.setCell ⟨lb,1,none⟩ (.int .i64 ((m+1:Nat):Int))) lb g (m+1) 0):=ι (Blk.set_ h 1 _);have HG:Hid (w.grownBy (w.setCell ⟨lb,1,none⟩ (.int .i64 ((m+1:Nat):Int))) (some lb)):=ι grown_cell1;rw [if_neg (by simp only [not_or]; exact ⟨h0,ho⟩)] at HX;clear h;go_enter Tryz.func145,Tryz.ntmps145
   go_upto_region 5 with fail
   rw [show (m:Int)+1=((m+1:Nat):Int) from by simp];have HW:=ι (ldr_wrong _ lb g (m+1) HS.out 2);have hmm:m+1≤100001:=by omega
   clear hm1 c1 f1 HL hm hrem htm ho h0;generalize w.setCell ⟨lb,1,none⟩ (.int .i64 ((m+1:Nat):Int))=W1 at *;generalize m+1=mm at *;have c1:W1.cell? ⟨lb,1,none⟩=some (.int .i64 (mm:Int)):=Blk.cell HS.out 1;by_cases hg:1024<mm
   ·rw [if_pos hg] at HX;have hgI:(1024:Int)<mm:=by omega
    go_wp2_with fail
    refine HW.out.mono ?_;rintro e w1 ⟨rfl,h1,h2⟩;have H1:=ι (And.intro h1 h2);clear h1 h2 c1;go_wp2_with fail
    exact HP.out (mm,2) _ HX.out H1.out.1 (HG.out.trans H1.out.2)
   ·rw [if_neg hg] at HX;have hgI:((1024:Int)<mm)=False:=by simp; omega
    go_wp2_with fail
    exact HP.out (mm,0) _ HX.out HS.out HG.out
end
section
open Go.RowKit Go.Instr Go.ChangeMaps
attribute [local go_sem] ba_get ByteArray.mk_append_mk
theorem LdrP.below {w w':World} {lb g m c:Nat} (h:LdrP w lb g m c) (hb:Below w.heap.size w w'):LdrP w' lb g m c:=Blk.below h hb (Blk.lt h)
structure Ld0 (w00 w wr:World) (lb g nb:Nat) (n:Nd) (m c:Nat):Prop where
 ld:LdrP wr lb g m c
 b0:Below w00.heap.size w00 wr
 l0:w00.heap.size≤lb
 nd:Blk wr nb 133 (nodeV n.1 n.2.1 n.2.2.1 n.2.2.2).toArray
 gr:w.grownBy wr (some lb)
structure Ld1 (w00 w wr:World) (lb g nb kb:Nat) (n:Nd) (ts:List Trie.T) (ps:List Value) (m c:Nat):Prop extends Ld0 w00 w wr lb g nb n m c where
 kd:Blk wr kb 134 ps.toArray
 k0:w.heap.size≤kb
 k00:w00.heap.size≤kb
 pl:ps.length=16
 kn:∀ j,j<16→KnotP wr (ts.getD j .nil) (ps.getD j undef)
section
variable {w00 w wr w':World} {lb g nb kb:Nat} {n:Nd} {m c m' c':Nat} {ts:List Trie.T} {ps:List Value}
theorem Ld0.call (h:Ld0 w00 w wr lb g nb n m c) (hg:wr.grownBy w' (some lb)) (hl:LdrP w' lb g m' c'):Ld0 w00 w w' lb g nb n m' c':=
 ⟨hl,h.b0.grown hg h.b0.size (fun k e=>by injection e with e; subst e; exact h.l0),h.l0,h.nd.grown hg (fun e=>Blk.ne_ h.nd h.ld (by decide) (by injection e)),h.gr.trans hg⟩
theorem Ld1.call (h:Ld1 w00 w wr lb g nb kb n ts ps m c) (hg:wr.grownBy w' (some lb)) (hl:LdrP w' lb g m' c'):Ld1 w00 w w' lb g nb kb n ts ps m' c':=
 {h.toLd0.call hg hl with kd:=h.kd.grown hg (fun e=>Blk.ne_ h.kd h.ld (by decide) (by injection e)),k0:=h.k0,k00:=h.k00,pl:=h.pl,kn:=fun j hj=>(h.kn j hj).grown hg (fun cs hc=>Blk.ne_ hc h.ld (by decide) rfl)}
theorem Ld1.below (h:Ld1 w00 w wr lb g nb kb n ts ps m c) (hb:Below wr.heap.size wr w'):Ld1 w00 w w' lb g nb kb n ts ps m c:=h.call (grown_of_low _ hb) (h.ld.below hb)
theorem getD_set_self {α:Type} {l:List α} {i:Nat} {x d:α} (h:i<l.length):(l.set i x).getD i d=x:=by
 rw [List.getD_eq_getElem?_getD,List.getElem?_set_self h]; rfl
theorem getD_set_ne {α:Type} {l:List α} {i j:Nat} {x d:α} (h:i≠j):(l.set i x).getD j d=l.getD j d:=by
 rw [List.getD_eq_getElem?_getD,List.getElem?_set_ne h,List.getD_eq_getElem?_getD]
theorem getD_snoc {α:Type} {l:List α} {j:Nat} {x d:α}:(l++ [x]).getD j d=if j=l.length then x else l.getD j d:=by
 simp only [List.getD_eq_getElem?_getD]
 split
 ·rename_i h; subst h; simp
 ·rename_i h;by_cases hj:j<l.length
  ·rw [List.getElem?_append_left hj]
  ·rw [List.getElem?_eq_none (by simp; omega),List.getElem?_eq_none (by omega)]
theorem Ld1.put (h:Ld1 w00 w wr lb g nb kb n ts ps m c) (t:Trie.T) (x:Value) (hx:KnotP wr t x) (hi:ts.length<16):Ld1 w00 w (wr.setCell ⟨kb,ts.length,none⟩ x) lb g nb kb n (ts++ [t]) (ps.set ts.length x) m c:=by
 have hg:wr.grownBy (wr.setCell ⟨kb,ts.length,none⟩ x) (some kb):=grown_cell1;have hk:∀ cs,¬Blk wr kb 136 cs:=fun cs hc=>Blk.ne_ hc h.kd (by decide) rfl;have hlt:=h.kd.lt;refine ⟨⟨Blk.grown h.ld hg (fun e=>Blk.ne_ h.kd h.ld (by decide) (by injection e with e; exact e.symm)),?_,h.l0,h.nd.grown hg (fun e=>Blk.ne_ h.nd h.kd (by decide) (by injection e)),h.gr.andThen hg (fun j e=>by injection e with e; subst e; exact .inl h.k0)⟩,?_,h.k0,h.k00,by rw [List.length_set]; exact h.pl,fun j hj=> ?_⟩
 ·exact h.b0.grown hg h.b0.size (fun k e=>by
   injection e with e
   subst e;exact h.k00)
 ·have:=h.kd.set_ ts.length x
  rwa [List.setIfInBounds_toArray] at this
 ·rw [getD_snoc]
  split
  ·rename_i e;subst e;rw [getD_set_self (by rw [h.pl]; exact hj)];exact hx.grown hg hk
  ·rename_i e;rw [getD_set_ne (fun e2=>e e2.symm)];exact (h.kn j hj).grown hg hk
end
theorem kidsLd_skip (f:List UInt8→List UInt8→Nat→Nat→Trie.Ld) (K:List (List UInt8)) (at_:Nat→List UInt8) (ts:List Trie.T) (i m c m0 c0:Nat) (hi:i<16) (hs:K.getD i []= []) (h:Trie.kidsLd f K at_ 16 m0 c0=(ts++(Trie.kidsLd f K at_ (16 - i) m c).1,(Trie.kidsLd f K at_ (16 - i) m c).2)):
  Trie.kidsLd f K at_ 16 m0 c0=(ts++ [.nil]++(Trie.kidsLd f K at_ (16 - (i+1)) m c).1,(Trie.kidsLd f K at_ (16 - (i+1)) m c).2):=by
 rw [h,show 16 - i=(15 - i)+1 by omega,show 16 - (i+1)=15 - i by omega];simp only [Trie.kidsLd];rw [show 15 - (15 - i)=i by omega,if_pos hs];simp
theorem kidsLd_step (f:List UInt8→List UInt8→Nat→Nat→Trie.Ld) (K:List (List UInt8)) (at_:Nat→List UInt8) (ts:List Trie.T) (i m c m0 c0:Nat) (hi:i<16) (hs:K.getD i []≠ []) (h:Trie.kidsLd f K at_ 16 m0 c0=(ts++(Trie.kidsLd f K at_ (16 - i) m c).1,(Trie.kidsLd f K at_ (16 - i) m c).2)):
  Trie.kidsLd f K at_ 16 m0 c0=(ts++ [(f (K.getD i []) (at_ i) m c).1]++(Trie.kidsLd f K at_ (16 - (i+1)) (f (K.getD i []) (at_ i) m c).2.1 (f (K.getD i []) (at_ i) m c).2.2).1,(Trie.kidsLd f K at_ (16 - (i+1)) (f (K.getD i []) (at_ i) m c).2.1 (f (K.getD i []) (at_ i) m c).2.2).2):=by
 rw [h,show 16 - i=(15 - i)+1 by omega,show 16 - (i+1)=15 - i by omega];simp only [Trie.kidsLd];rw [show 15 - (15 - i)=i by omega,if_neg hs];simp
def LoadEnd (W:World) (lb g:Nat) (r:Trie.Ld) (e:Ending) (w':World):Prop:=∃ x,e= .returned x∧KnotP w' r.1 x∧LdrP w' lb g r.2.1 r.2.2∧W.grownBy w' (some lb)∧(r.2.2=0→r.2.1≤1024)
theorem z_40 {P:Prop} (h:P:=by
 go_wp2_with fail
 refine HC.out.mono ?_;intro e w4 hw4;obtain ⟨xk,rfl,hk4,h4,hm4⟩:=CE.out e w4 hw4;obtain ⟨xq,rfl⟩:∃ xq,xk= .pointer xq:=by
  rcases hk4.form with ⟨_,h⟩|⟨b2,_,_,h,_⟩
  ·exact ⟨_,h⟩
  ·exact ⟨_,h⟩
 have L4:=ι (And.intro hk4 (And.intro h4 hm4));have kc:w4.cell? ⟨kb,i,none⟩=some (ps.getD i undef):=by
  have:=h4.kd.cell i
  rw [this,List.getElem?_toArray,List.getElem?_eq_getElem (by rw [h4.pl]; exact hi),List.getD_eq_getElem?_getD,List.getElem?_eq_getElem (by rw [h4.pl]; exact hi)];rfl
 have kf:w4.frozen? ⟨kb,i,none⟩=false:=h4.kd.frozen i;clear hw4 hk4 h4 hm4 n0 n1;go_wp2_with fail
 refine Handed.intro (16 - (i+1)) ?_ (hJ1 _ _ _ (fun Φ hΦ=>hΦ (i+1) (r.2.1) (r.2.2) (ts++ [r.1]) (ps.set i (.pointer xq)) ?_))
 ·have:=HI.out.1; omega
 ·refine ⟨by have:=HI.out.1; omega,by rw [List.length_append,HI.out.2.1]; rfl,L4.out.2.2,?_,HI.out.2.2⟩
  have:=L4.out.2.1.put r.1 (.pointer xq) L4.out.1 (by rw [HI.out.2.1]; exact hi)
  rwa [HI.out.2.1] at this):P:=h
theorem load_loop (w00 w w1:World) (lb g nb kb:Nat) (kd:Nat) (p v:List UInt8) (K:List (List UInt8)) (hK:K.length=16) (hp:p.length≤100000) (pl:List UInt8) (hpl:pl.length≤100000) (F:List UInt8→List UInt8→Nat→Nat→Trie.Ld)
  (IH:∀ W i m c,i<16→K.getD i []≠ []→LdrP W lb g m c→Below w00.heap.size w00 W→(c=0→m≤1024)→Calls Tryz.prog 109 #[.pointer (some ⟨lb,0,none⟩),.string ⟨(K.getD i []).toArray⟩,.string ⟨(Trie.kidAt (kd,p,v,K) pl i).toArray⟩,.bool (decide (kd=2))] W (LoadEnd W lb g (F (K.getD i []) (Trie.kidAt (kd,p,v,K) pl i) m c)))
  (m0:Nat) (hm0:m0≤1024) (H0:Ld1 w00 w w1 lb g nb kb (kd,p,v,K) [] (List.replicate 16 (.pointer none)) m0 0)
  (Q:Exit→Act→World→Prop)
  (hQ:∀ ⦃s1 s2 s3 s4 s5 s6 s7 s8 s0 s9 a0 a2 a3 a4 a5 a6 a7 a8 a9 b1 b3 b4 b5 b6 b7 b8 b9 c0 c1 c2 c3 c4 c5 c6 c7 c8 c9 d0 d1 d2 d3 d4 d5 d6 d7 d8 d9 e0 e6 e7 e8 e9 f0 f1 f2 f3 f4 f5 f6 f7 f8 f9 g0 g1 g2 g3 g4 g5 g6 g7 g8 g9 h0 h7 h8 h9 i0 i1 i2 i3 i4 i5 i6 i7 i8 i9 j0 j1 j2 j3 j4 j5 j6 j7 j8 j9 k2 k3 k4 k5 k6 k7 k8 k9 l0 l1 l2 l3 l4 l5 l6 l7 l8 l9 m1:Value⦄ (w2:World) ts ps m c,Trie.kidsLd F K (Trie.kidAt (kd,p,v,K) pl) 16 m0 0=(ts,m,c)→Ld1 w00 w w2 lb g nb kb (kd,p,v,K) ts ps m c→(c=0→m≤1024)→Q (.exit 0) {tmps:=#[.pointer (some ⟨lb,0,none⟩),s1,s2,s3,s4,s5,s6,s7,s8,.pointer (some ⟨nb,0,none⟩),s0,s9,a0,.pointer (some ⟨kb,0,none⟩),a2,a3,a4,a5,a6,a7,a8,a9,b1,b3,b4,b5,b6,b7,b8,b9,c0,c1,c2,c3,c4,c5,c6,c7,c8,c9,d0,d1,d2,d3,d4,d5,d6,d7,d8,d9,e0,e6,e7,e8,e9,f0,f1,f2,f3,f4,f5,f6,f7,f8,f9,g0,g1,g2,g3,g4,g5,g6,g7,g8,g9,h0,h7,h8,h9,i0,i1,i2,i3,i4,i5,i6,i7,i8,i9,j0,j1,j2,j3,j4,j5,j6,j7,j8,j9,k2,k3,k4,k5,k6,k7,k8,k9,l0,l1,l2,l3,l4,l5,l6,l7,l8,l9,m1],defers:= []} w2)
  (s1 s3 s4 s5 s6 s7 s8 s0 s9 a0 a2 a3 a4 a5 a6 a7 a8 a9 b1 b3 b4 b5 b6 b7 b8 b9 c0 c1 c2 c3 c4 c5 c6 c7 c8 c9 d0 d1 d2 d3 d4 d5 d6 d7 d8 d9 e0 e6 e7 e8 e9 f0 f1 f2 f3 f4 f5 f6 f7 f8 f9 g0 g1 g2 g3 g4 g5 g6 g7 g8 g9 h0 h7 h8 h9 i0 i3 i4 i5 i6 i7 i8 i9 j0 j1 j2 j3 j4 j5 j6 j7 j8 j9 k2 k3 k4 k5 k6 k7 k8 k9 l0 l1 l2 l3 l4 l5 l6 l7 l8 l9 m1:Value):
  Code.wp Tryz.prog (.loop (loopAt Tryz.f109 0)) Q {tmps:=#[.pointer (some ⟨lb,0,none⟩),s1,.string ⟨pl.toArray⟩,s3,s4,s5,s6,s7,s8,.pointer (some ⟨nb,0,none⟩),s0,s9,a0,.pointer (some ⟨kb,0,none⟩),a2,a3,a4,a5,a6,a7,a8,a9,b1,b3,b4,b5,b6,b7,b8,b9,c0,c1,c2,c3,c4,c5,c6,c7,c8,c9,d0,d1,d2,d3,d4,d5,d6,d7,d8,d9,e0,e6,e7,e8,e9,f0,f1,f2,f3,f4,f5,f6,f7,f8,f9,g0,g1,g2,g3,g4,g5,g6,g7,g8,g9,h0,h7,h8,h9,i0,.agg (strv K).toArray,.int .i64 0,i3,i4,i5,i6,i7,i8,i9,j0,j1,j2,j3,j4,j5,j6,j7,j8,j9,k2,k3,k4,k5,k6,k7,k8,k9,l0,l1,l2,l3,l4,l5,l6,l7,l8,l9,m1],defers:= []} w1:=by
 have HQ:=ι hQ;have HIH:=ι IH;have HS:=ι H0;clear hQ IH H0;refine wp_loop_ghost_k (fun k a wr=>∀ Φ:Act→Prop,(∀ ⦃s1 s3 s4 s5 s6 s7 s8 s0 s9 a0 a2 a3 a4 a5 a6 a7 a8 a9 b1 b3 b4 b5 b6 b7 b8 b9 c0 c1 c2 c3 c4 c5 c6 c7 c8 c9 d0 d1 d2 d3 d4 d5 d6 d7 d8 d9 e0 e6 e7 e8 e9 f0 f1 f2 f3 f4 f5 f6 f7 f8 f9 g0 g1 g2 g3 g4 g5 g6 g7 g8 g9 h0 h7 h8 h9 i0 i3 i4 i5 i6 i7 i8 i9 j0 j1 j2 j3 j4 j5 j6 j7 j8 j9 k2 k3 k4 k5 k6 k7 k8 k9 l0 l1 l2 l3 l4 l5 l6 l7 l8 l9 m1:Value⦄ (i m c:Nat) (ts:List Trie.T) (ps:List Value),(i+k=16∧ts.length=i∧(c=0→m≤1024)∧Ld1 w00 w wr lb g nb kb (kd,p,v,K) ts ps m c∧Trie.kidsLd F K (Trie.kidAt (kd,p,v,K) pl) 16 m0 0=(ts++(Trie.kidsLd F K (Trie.kidAt (kd,p,v,K) pl) (16 - i) m c).1,(Trie.kidsLd F K (Trie.kidAt (kd,p,v,K) pl) (16 - i) m c).2))→Φ {tmps:=#[.pointer (some ⟨lb,0,none⟩),s1,.string ⟨pl.toArray⟩,s3,s4,s5,s6,s7,s8,.pointer (some ⟨nb,0,none⟩),s0,s9,a0,.pointer (some ⟨kb,0,none⟩),a2,a3,a4,a5,a6,a7,a8,a9,b1,b3,b4,b5,b6,b7,b8,b9,c0,c1,c2,c3,c4,c5,c6,c7,c8,c9,d0,d1,d2,d3,d4,d5,d6,d7,d8,d9,e0,e6,e7,e8,e9,f0,f1,f2,f3,f4,f5,f6,f7,f8,f9,g0,g1,g2,g3,g4,g5,g6,g7,g8,g9,h0,h7,h8,h9,i0,.agg (strv K).toArray,.int .i64 (i:Int),i3,i4,i5,i6,i7,i8,i9,j0,j1,j2,j3,j4,j5,j6,j7,j8,j9,k2,k3,k4,k5,k6,k7,k8,k9,l0,l1,l2,l3,l4,l5,l6,l7,l8,l9,m1],defers:= []})→Φ a) (16) ?_ ?_
 ·refine fun Φ hΦ=>hΦ (0) (m0) (0) ([]) ((List.replicate 16 (.pointer none))) ?_;exact ⟨rfl,rfl,fun _=>hm0,HS.out,by simp⟩
 ·intro k1 a1 wr1 hI1 J1 K1 hJ1 hK1;refine hI1 (fun a=>Code.wp _ _ _ a _) ?_;clear hI1 a1;iterate 112 (intro _)
  intro i m c ts ps hrel
  show Code.wp _ _ _ _ _;clear HS
  conv=>arg 2; whnf
  obtain ⟨h1,h2,h3,h4,h5⟩:=hrel;by_cases hi:i<16
  ·have hi1:(i:Int)<16:=by omega
   have hix:(0:Int)≤i:=by omega
   have HX:=fun w=>run_index_k K hK i hi w;by_cases hs:K.getD i []= []
   ·have h6:=kidsLd_skip F K _ ts i m c m0 0 hi hs h5;rw [hs] at HX;have HI:=ι (And.intro h1 (And.intro h2 (And.intro h3 (And.intro h4 h6))));clear h1 h2 h3 h4 h5 h6 hs;go_wp2
    refine Handed.intro (16 - (i+1)) ?_ (hJ1 _ _ _ (fun Φ hΦ=>hΦ (i+1) (m) (c) (ts++ [.nil]) (ps) ?_))
    ·have:=HI.out.1; omega
    ·refine ⟨by have:=HI.out.1; omega,by rw [List.length_append,HI.out.2.1]; rfl,HI.out.2.2.1,?_,HI.out.2.2.2.2⟩;have h:=HI.out.2.2.2.1;refine {h.toLd0 with kd:=h.kd,k0:=h.k0,k00:=h.k00,pl:=h.pl,kn:=fun j hj=> ?_};rw [getD_snoc]
     split
     ·rename_i e
      have:=h.kn j hj
      rwa [List.getD_eq_getElem?_getD,List.getElem?_eq_none (by omega)] at this
     ·exact h.kn j hj
   ·have h6:=kidsLd_step F K _ ts i m c m0 0 hi hs h5;have cv:=conv1 wr1 (i:Int) hix (by omega);rw [show UInt8.ofNat ((i:Int)).toNat=UInt8.ofNat i by congr 1] at cv;have hsum:pl.length+1≤9223372036854775807:=by omega
    have hsum2:pl.length+p.length≤9223372036854775807:=by omega
    have L3:Hid (Ld1 w00 w (wr1.alloc (.cells #[.int .u8 (i:Int)] 5)) lb g nb kb (kd,p,v,K) ts ps m c):=ι (h4.below ((Below.refl _ _).alloc (Nat.le_refl _) _));have HC:=ι (HIH.out (wr1.alloc (.cells #[.int .u8 (i:Int)] 5)) i m c hi hs L3.out.ld L3.out.b0 h3);have hkA:Trie.kidAt (kd,p,v,K) pl i=if kd=2 then pl++p else pl++ [UInt8.ofNat i]:=rfl;have HI:=ι (And.intro h1 (And.intro h2 h6));have n0:(wr1.alloc (.cells #[.int .u8 (i:Int)] 5)).cell? ⟨nb,0,none⟩=some (.int .i64 (kd:Int)):=L3.out.nd.cell 0;have n1:(wr1.alloc (.cells #[.int .u8 (i:Int)] 5)).cell? ⟨nb,1,none⟩=some (p:Value):=L3.out.nd.cell 1;clear h1 h2 h3 h4 h5 h6;generalize Trie.kidAt (kd,p,v,K) pl i=at_ at *;generalize hsi:K.getD i []=s at *;clear hsi;have ne1:(s.toArray=#[])=False:=by simp [hs]
    have ne2:s.isEmpty=false:=by simp [hs]
    have CE:Hid (∀ e w',LoadEnd (wr1.alloc (.cells #[.int .u8 (i:Int)] 5)) lb g (F s at_ m c) e w'→∃ x,e= .returned x∧KnotP w' (F s at_ m c).1 x∧Ld1 w00 w w' lb g nb kb (kd,p,v,K) ts ps (F s at_ m c).2.1 (F s at_ m c).2.2∧((F s at_ m c).2.2=0→(F s at_ m c).2.1≤1024)):=ι (fun e w' ⟨x,e1,e2,e3,e4,e5⟩=>⟨x,e1,e2,L3.out.call e4 e3,e5⟩);generalize F s at_ m c=r at *;clear hs;by_cases hk2:kd=2
    ·subst hk2;rw [if_pos rfl] at hkA;subst hkA;exact z_40
    ·have hkI:((kd:Int)==2)=false:=by simp; omega
     rw [if_neg hk2] at hkA;subst hkA;rw [decide_eq_false hk2] at HC;clear hk2;exact z_40
  ·obtain rfl:i=16:=by omega
   have e:Trie.kidsLd F K (Trie.kidAt (kd,p,v,K) pl) 16 m0 0=(ts,m,c):=by rw [h5]; simp [Trie.kidsLd]
   have HE:=ι (And.intro e (And.intro h4 h3));clear h1 h2 h3 h4 h5 e hi;go_wp2
   exact HQ.out _ _ _ _ _ HE.out.1 HE.out.2.1 HE.out.2.2
end
end Go.Proofs.YtnelhjfjkkdoaaaGreatDoor