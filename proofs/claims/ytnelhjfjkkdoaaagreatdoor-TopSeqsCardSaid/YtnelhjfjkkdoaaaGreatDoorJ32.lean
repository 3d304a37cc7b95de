import Derived.Test.YtnelhjfjkkdoaaaGreatDoorJ30
set_option linter.unusedSimpArgs false
set_option linter.unusedVariables false
set_option maxHeartbeats 4000000
set_option maxRecDepth 100000
namespace Go.Proofs.YtnelhjfjkkdoaaaGreatDoor
section
open Go.RowKit Go.Instr
attribute [local go_sem] ba_get ByteArray.mk_append_mk
attribute [local go_sem ↓] Go.wp_at_zero Go.wp_at_succ
theorem results_cell3 {P:Program} {fn:Func} {tmps:Array Value} {w:World} {a b c:Tmp} {t:TypeId} {p:Addr} {v u x:Value} (hr:fn.results=#[.cell a t,.tmp b,.tmp c]) (ha:tmps.getD a undef= .pointer (some p)) (hv:(loadVar t p).run P w= .ok v w) (hb:tmps.getD b undef=u) (hc:tmps.getD c undef=x):
  (results fn tmps).run P w= .ok (.tuple #[v,u,x]) w:=by
 unfold results;rw [hr];rw [Array.getD_eq_getD_getElem?] at ha hb hc;simp [ha,hv,hb,hc,asAddr]
structure LVs (p:LeM) (PV:Array Value):Prop where
 p0:PV[0]?=some (.int .i64 p.en.hd.hgt)
 p1:PV[1]?=some (.int .i64 p.en.hd.epo)
 p2:PV[2]?=some (.int .i64 p.en.hd.vw)
 p3:PV[3]?=some (.bool p.en.hd.last)
 p4:PV[4]?=some (p.en.hd.par:Value)
 p5:PV[5]?=some (p.en.hd.st:Value)
 p6:PV[6]?=some (p.en.hd.rc:Value)
 p7:PV[7]?=some (p.en.hd.tx:Value)
 p8:PV[8]?=some (p.en.hd.mem:Value)
 p9:PV[9]?=some (p.en.hd.nxt:Value)
 p10:PV[10]?=some (.slice p.kA p.en.hd.sk.length p.kc)
 p11:PV[11]?=some (p.en.sum:Value)
 p12:PV[12]?=some (.slice p.xA p.tl.length p.xc)
 p13:PV[13]?=some (.slice p.rA p.en.rcs.length p.rc)
 p14:PV[14]?=some (p.sv)
 p15:PV[15]?=some (.slice p.sA p.en.set.length p.sc)
 sz:PV.size=16
theorem lvs (p:LeM):LVs p (lcell p).toArray:=⟨rfl,rfl,rfl,rfl,rfl,rfl,rfl,rfl,rfl,rfl,rfl,rfl,rfl,rfl,rfl,rfl,rfl⟩
def zeroLe:LeM:=⟨⟨⟨0,0,0,false,[],[],[],[],[],[],[]⟩,[],[],[],.nil,[],[]⟩,[],none,0,none,0,none,0,.pointer none,none,0⟩
theorem zeroL_one:((θ [ν,ε,ν,ν,.pointer none,ν]):Array Value).all (·.oneCell')=true:=all_oneCell_toArray (lcell_one zeroLe rfl)
def GrownEnd (w:World) (g:LgM) (q:En) (view:Int) (txs:List Ex.Tx) (e:Ending) (w':World):Prop:=
 ∃ (x:LeM) (nA:Option Addr) (nc:Nat),e= .returned (.tuple #[.agg (lcell x).toArray,.slice nA x.en.nxt.length nc,.int .i64 (Led.makeC q view txs:Int)])∧Below w.heap.size w w'∧
  (Led.makeC q view txs=0→x.en=Led.makeE g.L q view txs∧LeOk w' x∧Reads w' w'.heap.size 2 nA x.en.nxt.length (mcells x.en.nxt)∧∀ b,b<w.heap.size→wofA g.nA g.nx.length b→x.woff b∧wofA nA x.en.nxt.length b)∧(Led.makeC q view txs≠0→x=zeroLe)
theorem z_37 {P:Prop} (h:P:=by
 have TH:W1.there rb 0 16:=F1.out.there 1 16 rfl (by decide);have F9:Hid (Live w (W1.setCells rb 0 (θ [ν,ε,ν,ν,.pointer none,ν])) [(pb,149,PV),(rb,149,(θ [ν,ε,ν,ν,.pointer none,ν]))]):=Live.hall F1 1 _ rfl rfl;have hr:=run_loadVar_mid (P:=Tryz.prog) (W1.setCells rb 0 (θ [ν,ε,ν,ν,.pointer none,ν])) rb 0 149 (θ [ν,ε,ν,ν,.pointer none,ν]) _ (range_of_blk (F9.out.blk 1 rfl)) Tryz.underlying149 rfl SZE.out;obtain ⟨W9,h9⟩:∃ W9,W1.setCells rb 0 ((θ [ν,ε,ν,ν,.pointer none,ν]):Array Value).toList=W9:=⟨_,rfl⟩
 have h9b:W1.setCells rb 0 [.int .i64 0,.int .i64 0,.int .i64 0,.bool false,.string ⟨#[]⟩,.string ⟨#[]⟩,.string ⟨#[]⟩,.string ⟨#[]⟩,.string ⟨#[]⟩,.string ⟨#[]⟩,.slice none 0 0,.string ⟨#[]⟩,.slice none 0 0,.slice none 0 0,.pointer none,.slice none 0 0]=W9:=h9;rw [h9b] at F9 hr;have H9:=ι h9;clear h9b h9;go_wp2_with ((with_reducible refine at_store 31 ?_); refine wpList_store_as rfl 149 _ _ rfl rb 0 (θ [ν,ε,ν,ν,.pointer none,ν]) rfl rfl TH SZE.out zeroL_one W9 H9.out ?_)
 (try simp only [Exit.inBlock,Exit.then])
 refine bodyPost_ret (v:= .tuple #[.agg (θ [ν,ε,ν,ν,.pointer none,ν]),ν,.int .i64 ((1:Nat):Int)]) (results_cell3 Tryz.results89 rfl hr rfl rfl) rfl ?_;exact HPe.out 1 _ HE.out (by first|decide|exact HCn.out) F9.out.b):P:=h
theorem z_38 {P:Prop} (h:P:=by
 refine rd1 20 rfl (fun K hK=> ?_);refine step_store_all rfl 65 _ _ rfl hb 0 #[.int .i64 (p.en.hd.hgt+1),p.en.hd.epo,view,false,p.en.sum,stt,ε,ε,p.en.hd.nxt,p.en.hd.nxt,ν] rfl rfl (F.out.there 0 11 rfl (Nat.le_refl _)) SZH.out (by simp [Value.oneCell']) ?_;have F9:Hid (Live w (Wa.setCells hb 0 (#[.int .i64 (p.en.hd.hgt+1),p.en.hd.epo,view,false,p.en.sum,stt,ε,ε,p.en.hd.nxt,p.en.hd.nxt,ν]:Array Value).toList) [(hb,65,#[.int .i64 (p.en.hd.hgt+1),p.en.hd.epo,view,false,p.en.sum,stt,ε,ε,p.en.hd.nxt,p.en.hd.nxt,ν]),(pb,149,PV),(rb,149,(θ [ν,ε,ν,ν,.pointer none,ν]))]):=Live.hall F 0 _ rfl rfl;have FX9:Hid (Live w2 (Wa.setCells hb 0 (#[.int .i64 (p.en.hd.hgt+1),p.en.hd.epo,view,false,p.en.sum,stt,ε,ε,p.en.hd.nxt,p.en.hd.nxt,ν]:Array Value).toList) [(hb,65,#[.int .i64 (p.en.hd.hgt+1),p.en.hd.epo,view,false,p.en.sum,stt,ε,ε,p.en.hd.nxt,p.en.hd.nxt,ν])]):=Live.hall FX 0 _ rfl rfl;generalize Wa.setCells hb 0 (#[.int .i64 (p.en.hd.hgt+1),p.en.hd.epo,view,false,p.en.sum,stt,ε,ε,p.en.hd.nxt,p.en.hd.nxt,ν]:Array Value).toList=W9 at F9 FX9 ⊢;refine hK.out _ _ ⟨F9.out.cell 1 0 rfl HPV.out.p0,F9.out.cell 1 1 rfl HPV.out.p1,F9.out.cell 1 9 rfl HPV.out.p9,F9.out.cell 1 11 rfl HPV.out.p11⟩ (fun hHeld=> ?_);clear hK K;try go_frame
 refine wpAnyH_done (by kernel_rfl) ?_ _;go_wp2_with fail
 go_meet
 exact ⟨hb,rfl,hle,FX9.out,F9.out⟩):P:=h
theorem led_grown (w:World) (lb:Nat) (g:LgM) (h:LgRd w lb g) (hT:Tbl w) (hfew:∀ e∈g.L,Trie.count e.st≤900) (n:Nat) (hn:g.es.length=n+1) (p:LeM) (hp:g.es[n]'(by omega)=p) (view:Int) (tl:List TxM) (xA:Option Addr) (xc:Nat) (HT:TxsAt w xA tl):
  Calls Tryz.prog 89 #[.pointer (some ⟨lb,0,none⟩),view,.slice xA tl.length xc] w (GrownEnd w g p.en view (tl.map (·.1))):=by
 have HPe:Hid (∀ (cd:Nat) w',Led.makeC p.en view (tl.map (·.1))=cd→cd≠0→Below w.heap.size w w'→GrownEnd w g p.en view (tl.map (·.1)) (.returned (.tuple #[.agg (θ [ν,ε,ν,ν,.pointer none,ν]),ν,cd])) w'):=ι (fun cd w' e h1 hb=>⟨zeroLe,none,0,by rw [e]; rfl,hb,fun h=>absurd (e.symm.trans h) h1,fun _=>rfl⟩);have HPo:Hid (∀ (x:LeM) nA nc w',Led.makeC p.en view (tl.map (·.1))=0→Below w.heap.size w w'→x.en=Led.makeE g.L p.en view (tl.map (·.1))→LeOk w' x→Reads w' w'.heap.size 2 nA x.en.nxt.length (mcells x.en.nxt)→(∀ b,b<w.heap.size→wofA g.nA g.nx.length b→x.woff b∧wofA nA x.en.nxt.length b)→GrownEnd w g p.en view (tl.map (·.1)) (.returned (.tuple #[.agg (η x.en.hd [.slice x.kA x.en.hd.sk.length x.kc,x.en.sum,.slice x.xA x.tl.length x.xc,.slice x.rA x.en.rcs.length x.rc,x.sv,.slice x.sA x.en.set.length x.sc]),.slice nA x.en.nxt.length nc,ζ])) w'):=ι (fun x nA nc w' e hb h1 h2 h3 h4=>⟨x,nA,nc,by rw [e]; rfl,hb,fun _=>⟨h1,h2,h3,h4⟩,fun h=>absurd e h⟩);generalize GrownEnd w g p.en view (tl.map (·.1))=Q at HPe HPo ⊢;have hpm:g.L[n]'(by rw [List.length_map]; omega)=p.en:=by rw [List.getElem_map,hp]
 have h1:=h.wf.one n (by rw [List.length_map]; omega);rw [hpm] at h1;have hmem:p∈g.es:=by rw [←hp]; exact List.getElem_mem _
 have HOk:=h.ok p hmem;have hcnt:Trie.count p.en.st≤900:=hfew _ (List.mem_map_of_mem hmem);have hnx:p.en.nxt=g.nx:=by
  obtain ⟨q,hq,e⟩:=h.nx;rw [Led.last_of (show g.L.length=n+1 by rw [List.length_map,hn]),hpm] at hq;rw [←e,Option.some.inj hq]
 have hal:=Ex.allL_few h1.good hcnt (tl.map (·.1));have HC:Hid (Led.makeC p.en view (tl.map (·.1))=if view<1∨1048576<view∨1048576≤p.en.hd.hgt then 1 else if p.en.hd.last=false∧view≤p.en.hd.vw then 230 else (allX p.en.st (tl.map (·.1))).2):=ι (by rw [←hal]; rfl);have HMk:Hid (Led.makeE g.L p.en view (tl.map (·.1))=Led.nextE g.L p.en view (tl.map (·.1)) (allX p.en.st (tl.map (·.1))).1.1 (allX p.en.st (tl.map (·.1))).1.2.1 (allX p.en.st (tl.map (·.1))).1.2.2):=ι (by rw [←hal]; rfl);have HGd:Hid ((allX p.en.st (tl.map (·.1))).2=0→(Trie.Good (allX p.en.st (tl.map (·.1))).1.1∧Trie.count (allX p.en.st (tl.map (·.1))).1.1≤1024)∧((allX p.en.st (tl.map (·.1))).1.2.2= []∨Pw.okM (allX p.en.st (tl.map (·.1))).1.2.2=true)∧(tl.length≤8∧∀ q∈tl,Ex.fineX q.1=true)∧∀ x∈(allX p.en.st (tl.map (·.1))).1.2.1,x.2.1.length≤9223372036854775807):=ι (by
  rw [←hal];intro h;obtain ⟨a1,a2,a3⟩:=Ex.allL_ok h;have g:=Ex.allGoL_good (tl.map (·.1)) p.en.st [] h1.good h1.cnt;have m:=Ex.allGoL_next (tl.map (·.1)) p.en.st [] a2 (.inl rfl);have r:=Ex.allGoL_rok (tl.map (·.1)) p.en.st [] a2;rw [a3];rw [List.length_map] at a1;exact ⟨⟨g.1,g.2.1⟩,m,⟨a1,fun q hq=>a2 _ (List.mem_map_of_mem hq)⟩,fun x hx=>by have:=(r x hx).2.2.2.1; omega⟩)
 generalize hCe:Led.makeC p.en view (tl.map (·.1))=C at HC HPe HPo;have HCe:=ι hCe;clear hCe;have HNw:=ι (fun W (hW:Below w.heap.size w W)=>lg_newest W lb g (h.next hW) p n hn hp);have HAll:=ι (fun W (hW:Below w.heap.size w W)=>exec_All W p.en.st p.sv (HOk.t.next hW) hcnt (hT.next hW) tl xA xc (HT.next hW));have HGG:=ι h;have HTT:=ι HT;have HTb:=ι hT;have HOne:=ι h1;have HPk:=ι HOk;have HNx:=ι hnx;have HWf:=ι (show g.es.length=n+1∧Led.Wf g.L∧g.L[n]?=some p.en from ⟨hn,h.wf,by rw [List.getElem?_eq_getElem (by rw [List.length_map]; omega),hpm]⟩);have HL1:Hid (∀ W,Below w.heap.size w W→W.cell? ⟨lb,1,none⟩=some (.slice g.nA p.en.nxt.length g.nc)):=ι (fun W hW=>by rw [hnx]; exact (h.blk.below hW h.blk.lt).cell 1);have SZE:Hid ((Tryz.prog.info? 149).map (·.size)=some 16):=ι (by kernel_rfl);have HPV:=ι (lvs p);have ONP:Hid ((lcell p).toArray.all (·.oneCell')=true):=ι (all_oneCell_toArray (lcell_one p HOk.t.one));obtain ⟨ad,off,HAd⟩:∃ ad off,Hid (g.aA=some ⟨ad,off,none⟩):=by
  obtain ⟨ad,off,hA,_⟩:=led_cells h.r (show n<g.es.length by omega);exact ⟨ad,off,ι hA⟩
 clear hp hpm h1 hmem HOk hcnt hnx hal h hT hfew HT;clear hn;go_enter Tryz.func89,Tryz.ntmps89
 go_upto_region 1 with fail
 have F0:=Live.ha (ι (Live.start w)) (θ [ν,ε,ν,ν,.pointer none,ν]) 149;generalize World.alloc w _=W0 at F0 ⊢;generalize w.heap.size=rb at F0 ⊢;go_wp2_with fail
 refine (HNw.out _ F0.out.b).mono ?_;rintro e w1 ⟨rfl,hb⟩;have F0:=Live.hb F0 hb;clear hb HNw;have F0a:=Live.ha F0 (θ [ν,ε,ν,ν,.pointer none,ν]) 149;have TH0:(w1.alloc (.cells (θ [ν,ε,ν,ν,.pointer none,ν]) 149)).there w1.heap.size 0 16:=F0a.out.there 0 16 rfl (by decide);generalize (lcell p).toArray=PV at *;have THP:(w1.alloc (.cells (θ [ν,ε,ν,ν,.pointer none,ν]) 149)).there w1.heap.size 0 PV.size:=by rw [HPV.out.sz]; exact TH0
 have SZP:(Tryz.prog.info? 149).map (·.size)=some PV.size:=by rw [HPV.out.sz]; exact SZE.out
 have ONQ:=ONP.out;go_upto_region 2 with ((with_reducible refine at_store 18 ?_); refine wpList_store_mid rfl 149 _ _ rfl w1.heap.size 0 PV rfl rfl THP SZP ONQ ?_)
 have F1:Hid (Live w ((w1.alloc (.cells (θ [ν,ε,ν,ν,.pointer none,ν]) 149)).setCells w1.heap.size 0 PV.toList) [(w1.heap.size,149,PV.toList.toArray),(rb,149,(θ [ν,ε,ν,ν,.pointer none,ν]))]):=Live.hall F0a 0 _ rfl (by have:=HPV.out.sz; simpa using this.symm);simp only [Array.toArray_toList] at F1 ⊢;generalize World.setCells _ w1.heap.size 0 PV.toList=W1 at F1 ⊢;generalize w1.heap.size=pb at F1 ⊢;clear TH0 THP SZP ONQ ONP F0a F0;have kp_0:W1.cell? ⟨pb,0,none⟩=some (.int .i64 p.en.hd.hgt):=F1.out.cell 0 0 rfl HPV.out.p0; have kp_2:W1.cell? ⟨pb,2,none⟩=some (.int .i64 p.en.hd.vw):=F1.out.cell 0 2 rfl HPV.out.p2; have kp_3:W1.cell? ⟨pb,3,none⟩=some (.bool p.en.hd.last):=F1.out.cell 0 3 rfl HPV.out.p3; have kp_14:W1.cell? ⟨pb,14,none⟩=some (p.sv):=F1.out.cell 0 14 rfl HPV.out.p14
 by_cases v1:view<1
 ·have v1':(view<1)=True:=by simp; omega
  have HE:Hid (C=1):=ι (by rw [HC.out,if_pos (.inl v1)]);exact z_37
 have v1':(view<1)=False:=by simp; omega
 by_cases v2:1048576<view
 ·have v2':(1048576<view)=True:=by simp; omega
  have HE:Hid (C=1):=ι (by rw [HC.out,if_pos (.inr (.inl v2))]);exact z_37
 have v2':(1048576<view)=False:=by simp; omega
 by_cases v3:1048576≤p.en.hd.hgt
 ·have v3':(p.en.hd.hgt==1048576)=true:=by rw [beq_iff_eq]; have:=HOne.out.ok.h1; omega
  have HE:Hid (C=1):=ι (by rw [HC.out,if_pos (.inr (.inr v3))]);exact z_37
 have v3':(p.en.hd.hgt==1048576)=false:=by rw [beq_eq_false_iff_ne]; omega
 have HC:=ι (HC.out.trans (if_neg (by omega)));have HV:=ι (show 1≤view∧view≤1048576∧p.en.hd.hgt<1048576 by omega);clear v1 v2 v3;go_upto_region 4 with fail
 clear v1' v2' v3';have g4:(p.en.hd.last=false∧view≤p.en.hd.vw)∨¬(p.en.hd.last=false∧view≤p.en.hd.vw):=Classical.em _;rcases g4 with ⟨g1,g2⟩|g4
 ·have g2':(view≤p.en.hd.vw)=True:=by simp; omega
  rw [g1] at kp_3;have HE:Hid (C=230):=ι (by rw [HC.out,if_pos ⟨g1,g2⟩]);clear g2 g1;have TH:W1.there rb 0 16:=F1.out.there 1 16 rfl (by decide);have F9:Hid (Live w (W1.setCells rb 0 (θ [ν,ε,ν,ν,.pointer none,ν])) [(pb,149,PV),(rb,149,(θ [ν,ε,ν,ν,.pointer none,ν]))]):=Live.hall F1 1 _ rfl rfl;have hr:=run_loadVar_mid (P:=Tryz.prog) (W1.setCells rb 0 (θ [ν,ε,ν,ν,.pointer none,ν])) rb 0 149 (θ [ν,ε,ν,ν,.pointer none,ν]) _ (range_of_blk (F9.out.blk 1 rfl)) Tryz.underlying149 rfl SZE.out;obtain ⟨W9,h9⟩:∃ W9,W1.setCells rb 0 ((θ [ν,ε,ν,ν,.pointer none,ν]):Array Value).toList=W9:=⟨_,rfl⟩
  have h9b:W1.setCells rb 0 [.int .i64 0,.int .i64 0,.int .i64 0,.bool false,.string ⟨#[]⟩,.string ⟨#[]⟩,.string ⟨#[]⟩,.string ⟨#[]⟩,.string ⟨#[]⟩,.string ⟨#[]⟩,.slice none 0 0,.string ⟨#[]⟩,.slice none 0 0,.slice none 0 0,.pointer none,.slice none 0 0]=W9:=h9;rw [h9b] at F9 hr;have H9:=ι h9;clear h9b h9;go_wp2_with ((with_reducible refine at_store 43 ?_); refine wpList_store_as rfl 149 _ _ rfl rb 0 (θ [ν,ε,ν,ν,.pointer none,ν]) rfl rfl TH SZE.out zeroL_one W9 H9.out ?_)
  (try simp only [Exit.inBlock,Exit.then])
  refine bodyPost_ret (v:= .tuple #[.agg (θ [ν,ε,ν,ν,.pointer none,ν]),ν,.int .i64 ((230:Nat):Int)]) (results_cell3 Tryz.results89 rfl hr rfl rfl) rfl ?_;exact HPe.out 230 _ HE.out (by first|decide|exact HCn.out) F9.out.b
 have HC2:=ι (HC.out.trans (if_neg g4));have g5:p.en.hd.last=true∨p.en.hd.last=false∧(view≤p.en.hd.vw)=False:=by
  cases hl:p.en.hd.last with
  |true=>exact .inl rfl
  |false=>exact .inr ⟨rfl,by have:=fun h=>g4 ⟨hl,h⟩; simpa using this⟩
 clear g4 HC;go_cut [42] (fun s wx=>s= .bool false∧W1=wx)
 case first=>
  rcases g5 with g5|⟨g5,g5'⟩
  ·rw [g5] at kp_3;go_wp2_with fail
   go_meet
   exact ⟨rfl,rfl⟩
  ·rw [g5] at kp_3;go_wp2_with fail
   go_meet
   exact ⟨rfl,rfl⟩
 case rest=>
 obtain ⟨h44,hw1⟩:=hcut;subst h44;subst hw1;clear g5 kp_0 kp_2 kp_3;have HAll1:=ι (HAll.out _ F1.out.b);go_wp2_with fail
 refine HAll1.out.mono ?_;rintro e w2 ⟨v,R,rc2,B,bd,rfl,hb,hTr,_,hR,hM⟩;have F2:=Live.hb F1 hb;have HB1:Hid (w.heap.size≤W1.heap.size):=ι F1.out.b.size;have K2:=ι (And.intro hTr (And.intro hR hM));clear hb hTr hR hM F1 HAll HAll1 kp_14;generalize allX p.en.st (tl.map (·.1))=X at *;obtain ⟨⟨t,D,M⟩,cd⟩:=X;simp only at K2 HC2 HMk HGd;go_upto_region 7 with fail
 by_cases hcd:cd=0;rotate_left
 ·have hcd':((cd:Int) !=0)=true:=by simp; exact hcd
  have HCn:=ι hcd;clear hcd;have HE:Hid (C=cd):=ι (by rw [HC2.out]);have TH:w2.there rb 0 16:=F2.out.there 1 16 rfl (by decide);have F9:Hid (Live w (w2.setCells rb 0 (θ [ν,ε,ν,ν,.pointer none,ν])) [(pb,149,PV),(rb,149,(θ [ν,ε,ν,ν,.pointer none,ν]))]):=Live.hall F2 1 _ rfl rfl;have hr:=run_loadVar_mid (P:=Tryz.prog) (w2.setCells rb 0 (θ [ν,ε,ν,ν,.pointer none,ν])) rb 0 149 (θ [ν,ε,ν,ν,.pointer none,ν]) _ (range_of_blk (F9.out.blk 1 rfl)) Tryz.underlying149 rfl SZE.out;obtain ⟨W9,h9⟩:∃ W9,w2.setCells rb 0 ((θ [ν,ε,ν,ν,.pointer none,ν]):Array Value).toList=W9:=⟨_,rfl⟩
  have h9b:w2.setCells rb 0 [.int .i64 0,.int .i64 0,.int .i64 0,.bool false,.string ⟨#[]⟩,.string ⟨#[]⟩,.string ⟨#[]⟩,.string ⟨#[]⟩,.string ⟨#[]⟩,.string ⟨#[]⟩,.slice none 0 0,.string ⟨#[]⟩,.slice none 0 0,.slice none 0 0,.pointer none,.slice none 0 0]=W9:=h9;rw [h9b] at F9 hr;have H9:=ι h9;clear h9b h9;go_wp2_with ((with_reducible refine at_store 55 ?_); refine wpList_store_as rfl 149 _ _ rfl rb 0 (θ [ν,ε,ν,ν,.pointer none,ν]) rfl rfl TH SZE.out zeroL_one W9 H9.out ?_)
  (try simp only [Exit.inBlock,Exit.then])
  refine bodyPost_ret (v:= .tuple #[.agg (θ [ν,ε,ν,ν,.pointer none,ν]),ν,cd]) (results_cell3 Tryz.results89 rfl hr rfl rfl) rfl ?_;exact HPe.out cd _ HE.out (by first|decide|exact HCn.out) F9.out.b
 subst hcd;obtain ⟨_,vb,vx,rfl,_⟩:=id (K2.out.1 rfl);have HRt:Hid (∀ W,Below w2.heap.size w2 W→Calls Tryz.prog 20 #[.pointer (some ⟨vb,0,none⟩)] W (fun e w'=>e= .returned (.string ⟨(Trie.sumT t).toArray⟩)∧W=w')):=ι (fun W hW=>trie_Root W t _ ((K2.out.1 rfl).next hW));obtain ⟨stt,hstt⟩:∃ s,Trie.sumT t=s:=⟨_,rfl⟩
 rw [hstt] at HRt;have HSt:=ι hstt;clear hstt;obtain ⟨LB,hLB⟩:∃ b,decide (0<M.length)=b:=⟨_,rfl⟩
 have hLB2:decide ((0:Int)<M.length)=LB:=by rw [←hLB,decide_eq_decide]; omega
 have HLB:=ι hLB;have HLB2:=ι hLB2;clear hLB hLB2;have hwg:IntKind.i64.wrap (p.en.hd.hgt+1)=p.en.hd.hgt+1:=IntWalk.i64_in _ (by have:=HOne.out.ok.h0; have:=HV.out.2.2; omega);have FX:=ι (Live.start w2);have kp_0:w2.cell? ⟨pb,0,none⟩=some (.int .i64 p.en.hd.hgt):=F2.out.cell 0 0 rfl HPV.out.p0; have kp_1:w2.cell? ⟨pb,1,none⟩=some (.int .i64 p.en.hd.epo):=F2.out.cell 0 1 rfl HPV.out.p1; have kp_9:w2.cell? ⟨pb,9,none⟩=some (p.en.hd.nxt:Value):=F2.out.cell 0 9 rfl HPV.out.p9; have kp_11:w2.cell? ⟨pb,11,none⟩=some (p.en.sum:Value):=F2.out.cell 0 11 rfl HPV.out.p11
 go_upto_region 9 with fail
 have HKeep:Hid (∀ W,Below w2.heap.size w2 W→TrieP W t (.pointer (some ⟨vb,0,none⟩))∧W.ownsRow W1.heap.size 75 3 (.slice R D.length rc2) D.length (rcs D)∧W.ownsRow W1.heap.size 165 2 (.slice B M.length bd) M.length (mcells M)):=ι (fun W hb=>⟨(K2.out.1 rfl).next hb,own_below K2.out.2.1 hb,own_below K2.out.2.2 hb⟩);have HB3:=ι F2.out.b;have SZH:Hid ((Tryz.prog.info? 65).map (·.size)=some 11):=ι (by kernel_rfl);have hlt3:pb<w2.heap.size∧rb<w2.heap.size:=⟨F2.out.lt 0 rfl,F2.out.lt 1 rfl⟩
 go_cut [14] (fun s wx=>∃ hb,s= .pointer (some ⟨hb,0,none⟩)∧w2.heap.size≤hb∧Live w2 wx [(hb,65,#[.int .i64 (p.en.hd.hgt+1),p.en.hd.epo,view,false,p.en.sum,stt,ε,ε,p.en.hd.nxt,p.en.hd.nxt,ν])]∧Live w wx [(hb,65,#[.int .i64 (p.en.hd.hgt+1),p.en.hd.epo,view,false,p.en.sum,stt,ε,ε,p.en.hd.nxt,p.en.hd.nxt,ν]),(pb,149,PV),(rb,149,(θ [ν,ε,ν,ν,.pointer none,ν]))])
 case first=>
  refine wp_region_held_drew (S:=fun w'=>w'.cell? ⟨pb,0,none⟩=some (.int .i64 p.en.hd.hgt)∧w'.cell? ⟨pb,1,none⟩=some (.int .i64 p.en.hd.epo)∧w'.cell? ⟨pb,9,none⟩=some (p.en.hd.nxt:Value)∧w'.cell? ⟨pb,11,none⟩=some (p.en.sum:Value)) (by kernel_rfl) ⟨kp_0,kp_1,kp_9,kp_11⟩ (fun hHeld=> ?_);have F:=live_drew F2;have FX:=live_drew FX;generalize w2.drew=Wd at F FX hHeld ⊢;refine tk 0 57 rfl ?_;try go_frame
  refine tk 1 58 rfl ?_;try go_frame
  refine tk 2 59 rfl ?_;try go_frame
  refine tk 3 60 rfl ?_;try go_frame
  refine tk 4 61 rfl ?_;try go_frame
  refine tk 5 62 rfl ?_;try go_frame
  refine tk 6 63 rfl ?_;try go_frame
  refine tk 7 64 rfl ?_;try go_frame
  refine tk 8 65 rfl ?_;try go_frame
  refine tk 9 66 rfl ?_;try go_frame
  refine tk 10 67 rfl ?_;try go_frame
  refine tk 12 69 rfl ?_;try go_frame
  refine tk 13 70 rfl ?_;try go_frame
  refine tk 14 71 rfl ?_;try go_frame
  refine tk 15 72 rfl ?_;try go_frame
  refine tk 16 73 rfl ?_;try go_frame
  refine tk 17 74 rfl ?_;try go_frame
  refine rd2 11 19 rfl rfl (fun K hK=> ?_) (fun K hK=> ?_)
  ·skip
   go_simp
   (with_reducible refine (HRt.out _ ?_).mono ?_)
   ·exact FX.out.b
   rintro e Wc ⟨rfl,rfl⟩;go_simp
   refine hK.out _ _ ⟨F.out.cell 0 0 rfl HPV.out.p0,F.out.cell 0 1 rfl HPV.out.p1,F.out.cell 0 9 rfl HPV.out.p9,F.out.cell 0 11 rfl HPV.out.p11⟩ (fun hHeld=> ?_);clear hK K;try go_frame
   refine tk 18 75 rfl ?_;try go_frame
   refine rd1 19 rfl (fun K hK=> ?_);go_simp
   have hle:w2.heap.size≤Wd.heap.size:=FX.out.b.size;have F:=Live.ha F (θ [ν]) 65;have FX:=Live.ha FX (θ [ν]) 65;refine hK.out _ _ ⟨F.out.cell 1 0 rfl HPV.out.p0,F.out.cell 1 1 rfl HPV.out.p1,F.out.cell 1 9 rfl HPV.out.p9,F.out.cell 1 11 rfl HPV.out.p11⟩ (fun hHeld=> ?_);clear hK K;try go_frame
   generalize World.alloc Wd _=Wa at F FX hHeld ⊢;generalize Wd.heap.size=hb at F FX hle ⊢;exact z_38
  ·skip
   go_simp
   have hle:w2.heap.size≤Wd.heap.size:=FX.out.b.size;have F:=Live.ha F (θ [ν]) 65;have FX:=Live.ha FX (θ [ν]) 65;refine hK.out _ _ ⟨F.out.cell 1 0 rfl HPV.out.p0,F.out.cell 1 1 rfl HPV.out.p1,F.out.cell 1 9 rfl HPV.out.p9,F.out.cell 1 11 rfl HPV.out.p11⟩ (fun hHeld=> ?_);clear hK K;try go_frame
   generalize World.alloc Wd _=Wa at F FX hHeld ⊢;generalize Wd.heap.size=hb at F FX hle ⊢;refine rd1 11 rfl (fun K hK=> ?_);go_simp
   (with_reducible refine (HRt.out _ ?_).mono ?_)
   ·exact FX.out.b
   rintro e Wc ⟨rfl,rfl⟩;go_simp
   refine hK.out _ _ ⟨F.out.cell 1 0 rfl HPV.out.p0,F.out.cell 1 1 rfl HPV.out.p1,F.out.cell 1 9 rfl HPV.out.p9,F.out.cell 1 11 rfl HPV.out.p11⟩ (fun hHeld=> ?_);clear hK K;try go_frame
   refine tk 18 75 rfl ?_;try go_frame
   exact z_38
 case rest=>
 obtain ⟨hb,rfl,hle,hFX,hF⟩:=hcut;have FX5:=ι hFX;have F5:=ι hF;clear hFX hF F2 FX HRt kp_0 kp_1 kp_9 kp_11 hwg;obtain ⟨EP,hEP⟩:∃ e,(if p.en.hd.last then p.en.hd.epo+1 else p.en.hd.epo)=e:=⟨_,rfl⟩
 have HEP:=ι hEP;have hwe:IntKind.i64.wrap (p.en.hd.epo+1)=p.en.hd.epo+1:=IntWalk.i64_in _ (by have:=HOne.out.ok.e0; have:=HOne.out.ok.e1; omega);clear hEP;have kp_3:wc.cell? ⟨pb,3,none⟩=some (.bool p.en.hd.last):=F5.out.cell 1 3 rfl HPV.out.p3;go_upto_if 78 with fail
 go_cut [] (fun wx=>Live w2 wx [(hb,65,#[.int .i64 (p.en.hd.hgt+1),EP,view,false,p.en.sum,stt,ε,ε,p.en.hd.nxt,p.en.hd.nxt,ν])]∧Live w wx [(hb,65,#[.int .i64 (p.en.hd.hgt+1),EP,view,false,p.en.sum,stt,ε,ε,p.en.hd.nxt,p.en.hd.nxt,ν]),(pb,149,PV),(rb,149,(θ [ν,ε,ν,ν,.pointer none,ν]))])
 case first=>
  cases hl:p.en.hd.last with
  |false=>
   have he:Hid (p.en.hd.epo=EP):=ι (by rw [←HEP.out,hl]; rfl);rw [he.out] at F5 FX5;go_wp2_with fail
   go_meet
   exact ⟨FX5.out,F5.out⟩
  |true=>
   have he:Hid (p.en.hd.epo+1=EP):=ι (by rw [←HEP.out,hl]; rfl);have kh_1:=(F5.out.blk 0 rfl).d1;have fz1:=F5.out.frozen 0 1 rfl;have F6:=Live.hs F5 0 1 (.int .i64 (p.en.hd.epo+1)) rfl;have FX6:=Live.hs FX5 0 1 (.int .i64 (p.en.hd.epo+1)) rfl;simp only [List.set_cons_zero,List.setIfInBounds_toArray,List.set_cons_succ] at F6 FX6;go_wp2_with fail
   go_meet
   rw [he.out] at F6 FX6
   (try rw [he.out])
   exact ⟨FX6.out,F6.out⟩
 case rest=>
 have FX6:=ι hcut.1;have F6:=ι hcut.2;clear hcut F5 FX5 kp_3 hwe;have kh_3:=(F6.out.blk 0 rfl).d3;have fz3:=F6.out.frozen 0 3 rfl;have hLB2:=HLB2.out;clear hLB2;go_upto_region 13 with fail
 rw [HLB.out];have F7:=Live.hs F6 0 3 (.bool LB) rfl;have FX7:=Live.hs FX6 0 3 (.bool LB) rfl;simp only [List.set_cons_zero,List.setIfInBounds_toArray,List.set_cons_succ] at F7 FX7;generalize wc.setCell ⟨hb,3,none⟩ (.bool LB)=wl at F7 FX7 ⊢;clear F6 FX6 fz3 kh_3;obtain ⟨N,hN⟩:∃ x,(if M.isEmpty then p.en.nxt else M)=x:=⟨_,rfl⟩
 obtain ⟨NX,hNX⟩:∃ x,(if M.isEmpty then p.en.hd.nxt else Pw.digM M)=x:=⟨_,rfl⟩
 have HN:=ι (And.intro hN hNX);clear hN hNX;have HM:Hid ((M= []∧LB=false∧N=p.en.nxt∧NX=p.en.hd.nxt)∨(M≠ []∧Pw.okM M=true∧LB=true∧N=M∧NX=Pw.digM M)):=ι (by
  rcases (HGd.out rfl).2.1 with e|e
  ·refine .inl ⟨e,?_,?_,?_⟩
   ·rw [←HLB.out,e]; rfl
   ·rw [←HN.out.1,e]; rfl
   ·rw [←HN.out.2,e]; rfl
  ·have hne:M≠ []:=by intro e2; rw [e2] at e; have:=Pw.okM_len e; simp at this
   have hie:M.isEmpty=false:=Led.isEmpty_false hne;refine .inr ⟨hne,e,?_,?_,?_⟩
   ·rw [←HLB.out]; exact decide_eq_true (List.length_pos_iff.2 hne)
   ·rw [←HN.out.1,hie]; rfl
   ·rw [←HN.out.2,hie]; rfl)
 have HDg:Hid (Pw.okM M=true→∀ W,Below w2.heap.size w2 W→Calls Tryz.prog 38 #[.slice B M.length bd] W (Ret W (.string ⟨(Pw.digM M).toArray⟩))):=ι (fun e W hW=>power_Digest W M (fun x hx=>by have:=(Pw.okM_all e x hx).1; omega) B bd (Reads.of_own (HKeep.out W hW).2.2) (HTb.out.next (HB3.out.nxt hW)));have HB1w:=HB1.out;have kl_1:=HL1.out _ F7.out.b;have kh_3:=(F7.out.blk 0 rfl).d3;go_upto_if 88 with fail
 go_cut [12] (fun s wx=>∃ NA NC,s= .slice NA N.length NC∧(∀ W,Below w.heap.size w W→W.ownsRow W1.heap.size 165 2 (.slice B M.length bd) M.length (mcells M)→Reads W W.heap.size 2 NA N.length (mcells N))∧(∀ b,b<w.heap.size→wofA g.nA g.nx.length b→wofA NA N.length b)∧Live w2 wx [(hb,65,#[.int .i64 (p.en.hd.hgt+1),EP,view,LB,p.en.sum,stt,ε,ε,p.en.hd.nxt,NX,ν])]∧Live w wx [(hb,65,#[.int .i64 (p.en.hd.hgt+1),EP,view,LB,p.en.sum,stt,ε,ε,p.en.hd.nxt,NX,ν]),(pb,149,PV),(rb,149,(θ [ν,ε,ν,ν,.pointer none,ν]))])
 case first=>
  rcases HM.out with ⟨hM,rfl,rfl,rfl⟩|⟨hM,hok,rfl,rfl,rfl⟩
  ·go_wp2_with fail
   go_meet
   refine ⟨_,_,rfl,fun W hW _=> ?_,fun b hb h=>by rw [HNx.out]; exact h,FX7.out,F7.out⟩;rw [HNx.out];exact (HGG.out.nr.below hW).more hW.size
  ·have HDgM:=ι (HDg.out hok _ FX7.out.b);clear hM hok;go_wp2_with fail
   refine HDgM.out.mono ?_;rintro e w7 ⟨rfl,hb7⟩;have F8:=Live.hb F7 hb7;have FX8:=Live.hb FX7 hb7;clear hb7;have fz9:=F8.out.frozen 0 9 rfl;have kh_9:=(F8.out.blk 0 rfl).d9;have F9:=Live.hs F8 0 9 (.string ⟨(Pw.digM N).toArray⟩) rfl;have FX9:=Live.hs FX8 0 9 (.string ⟨(Pw.digM N).toArray⟩) rfl;simp only [List.set_cons_zero,List.setIfInBounds_toArray,List.set_cons_succ] at F9 FX9;go_wp2_with fail
   go_meet
   refine ⟨_,_,rfl,fun W _ ho=>Reads.of_own ho,fun b hb _ _ a ha e=> ?_,FX9.out,F9.out⟩;have h5:=(K2.out.2.2.lt a.block (by rw [ha]; rfl)).1;omega
 case rest=>
 obtain ⟨NA,NC,rfl,hRN,hON,hFX,hF⟩:=hcut;have FX9:=ι hFX;have F9:=ι hF;have RN:=ι (And.intro hRN hON);clear hRN hON hFX hF F7 FX7 kl_1 kh_3 HDg HM HB1w;have HRr:Hid (∀ W,Below w2.heap.size w2 W→Calls Tryz.prog 44 #[.slice R D.length rc2] W (RRootEnd W (treeF D))):=ι (fun W hW=>receipt_RootF D (HGd.out rfl).2.2.2 W (HTb.out.next (HB3.out.nxt hW)) R rc2 (Reads.of_own (HKeep.out W hW).2.1));have HTr:Hid (∀ W,Below w.heap.size w W→Calls Tryz.prog 45 #[.slice xA tl.length xc] W (Ret W (.tuple #[.string ⟨(Ex.rootX (tl.map (·.1))).toArray⟩,ζ]))):=ι (fun W hW=>tx_Root W xA xc tl (HTT.out.next hW) (HGd.out rfl).2.2.1.1 (HGd.out rfl).2.2.1.2 (HTb.out.next hW));obtain ⟨RR,hRR⟩:∃ x,Led.rootR D=x:=⟨_,rfl⟩
 have HRR2:Hid ((if (treeF D).2=0 then Trie.sumT (treeF D).1 else [])=RR):=ι (by rw [←hRR]; rfl);have HRR:=ι hRR;clear hRR;unfold RRootEnd at HRr;rw [HRR2.out] at HRr;generalize (treeF D).2=rcd at HRr;obtain ⟨TR,hTR⟩:∃ x,Ex.rootX (tl.map (·.1))=x:=⟨_,rfl⟩
 rw [hTR] at HTr;have HTR:=ι hTR;clear hTR HRR2;go_wp2_with fail
 refine (HRr.out _ FX9.out.b).mono ?_;rintro e w10 ⟨rfl,hb10⟩;have F10:=Live.hb F9 hb10;have FX10:=Live.hb FX9 hb10;clear hb10 F9 FX9 HRr;have fz6:=F10.out.frozen 0 6 rfl;have kh_6:=(F10.out.blk 0 rfl).d6;go_upto_region 17 with fail
 have F11:=Live.hs F10 0 6 (.string ⟨RR.toArray⟩) rfl;have FX11:=Live.hs FX10 0 6 (.string ⟨RR.toArray⟩) rfl;simp only [List.set_cons_zero,List.setIfInBounds_toArray,List.set_cons_succ] at F11 FX11;generalize w10.setCell ⟨hb,6,none⟩ (.string ⟨RR.toArray⟩)=w11 at F11 FX11 ⊢;clear F10 FX10 fz6 kh_6;go_wp2_with fail
 refine (HTr.out _ F11.out.b).mono ?_;rintro e w12 ⟨rfl,hb12⟩;have F12:=Live.hb F11 hb12;have FX12:=Live.hb FX11 hb12;clear hb12 F11 FX11 HTr;have fz7:=F12.out.frozen 0 7 rfl;have kh_7:=(F12.out.blk 0 rfl).d7;go_upto_region 18 with fail
 have F13:=Live.hs F12 0 7 (.string ⟨TR.toArray⟩) rfl;have FX13:=Live.hs FX12 0 7 (.string ⟨TR.toArray⟩) rfl;simp only [List.set_cons_zero,List.setIfInBounds_toArray,List.set_cons_succ] at F13 FX13;generalize w12.setCell ⟨hb,7,none⟩ (.string ⟨TR.toArray⟩)=w13 at F13 FX13 ⊢;clear F12 FX12 fz7 kh_7;have kh_0:=(F13.out.blk 0 rfl).d0;have HLk:=ι (fun W=>skip_Links_all (p.en.hd.hgt+1) W);simp only [linksV_eq] at HLk;have HLt:Hid (∀ x∈Hd.linksH (p.en.hd.hgt+1),x<g.es.length):=ι (fun x hx=>by
  have e:p.en.hd.hgt+1=((n+1:Nat):Int):=by rw [HOne.out.hgt]; rfl
  rw [e] at hx
  have:=Led.linksH_lt x hx
  have:=HWf.out.1
  omega)
 have HL22:=ι (Hd.linksH_len (p.en.hd.hgt+1));obtain ⟨lk,hlk⟩:∃ x,Hd.linksH (p.en.hd.hgt+1)=x:=⟨_,rfl⟩
 have HLK:=ι hlk;rw [hlk] at HLk HLt HL22;clear hlk;go_wp2_with fail
 refine (HLk.out _).mono ?_;rintro e w14 ⟨v14,rfl,own14,hb14⟩;obtain ⟨LA,lc,rfl,hRL,_,_⟩:=own_form own14;have F14:=Live.hb F13 hb14;have FX14:=Live.hb FX13 hb14;have hlw:w2.heap.size≤w13.heap.size:=FX13.out.b.size;have HOL:=ι own14;clear hb14 F13 FX13 kh_0 hRL own14 HLk;have LI0:Hid (LoopI w w2 w14 [(pb,149,PV),(rb,149,(θ [ν,ε,ν,ν,.pointer none,ν]))] hb [.int .i64 (p.en.hd.hgt+1),EP,view,LB,p.en.sum,stt,RR,TR,p.en.hd.nxt,NX] [] none 0):=ι ⟨World.ownsRow_nil _ _ _ _,FX14.out,F14.out⟩;go_wp2_with fail
 refine grown_loop w w2 w14 HB3.out lb g ad off HAd.out HGG.out lk HLt.out HL22.out LA lc _ HOL.out [(pb,149,PV),(rb,149,(θ [ν,ε,ν,ν,.pointer none,ν]))] (by intro y hy; simp only [List.mem_cons,List.not_mem_nil,or_false] at hy; rcases hy with rfl|rfl; (· show (9:Nat)≠149; decide); (· show (9:Nat)≠149; decide)) hb [.int .i64 (p.en.hd.hgt+1),EP,view,LB,p.en.sum,stt,RR,TR,p.en.hd.nxt,NX] rfl LI0.out _ _ _ _ _ _ _ _ _ _ _ ?_ _ _ _ _ _ _ _ _ _ _ _ _ _ _ _ _ _ _ _ _ _ _ _ _ _ _ _ _ _ _ _ _ _ _ _ _ _ _ _ _ _ _ _ _ _ _ _ _ _ _ _ _ _ _ _ _ _ _ _ _ _ _ _ _ _ _ _ _ _ _ _ _ _ _ _ _ _ _ _ _ _ _ _ _ _ _ _ _ _ _ _ _ _ _ _ _ _ _ _ _ _ _ _ _ _ _ _ _ _ _ _ _ _ _ _ _ _ _ _ _ _ _ _ _ _ _ _ _;intro s3 s4 s5 s15 s16 s17 s18 s19 s20 s21 s22 s23 s24 s25 s26 s27 s28 s29 s30 s31 s32 s33 s34 s35 s36 s37 s38 s39 s40 s41 s42 s43 s44 s45 s46 s47 s48 s49 s50 s51 s52 s53 s54 s55 s56 s57 s58 s59 s60 s61 s62 s63 s64 s65 s66 s67 s68 s69 s70 s71 s72 s73 s74 s75 s76 s77 s78 s79 s80 s81 s82 s83 s84 s85 s86 s87 s88 s89 s90 s91 s92 s93 s94 s95 s96 s97 s98 s99 s100 s101 s102 s103 s104 s105 s106 s107 s108 s109 s114 s115 s116 s117 s118 s119 s120 s121 s122 s123 s124 s125 s126 s127 s128 s129 s130 s131 s132 s133 s134 s135 s136 s137 s138 s139 s140 s141 s142 w15 S SA SC hS hLI;have F15:Hid (Live w w15 [(hb,65,#[.int .i64 (p.en.hd.hgt+1),EP,view,LB,p.en.sum,stt,RR,TR,p.en.hd.nxt,NX,.slice SA S.length SC]),(pb,149,PV),(rb,149,(θ [ν,ε,ν,ν,.pointer none,ν]))]):=ι hLI.f;have FX15:Hid (Live w2 w15 [(hb,65,#[.int .i64 (p.en.hd.hgt+1),EP,view,LB,p.en.sum,stt,RR,TR,p.en.hd.nxt,NX,.slice SA S.length SC])]):=ι hLI.f3;have HSO:=ι hLI.own;have HSe:=ι hS;clear hLI hS LI0 F14 FX14 HOL HLt;go_upto_region 23 with fail
 rename_i KK hKK;obtain ⟨hgd,hMk,hfx,hrc⟩:=HGd.out (by first|exact trivial|rfl);have hpp:g.L[n]'(by rw [List.length_map,HWf.out.1]; omega)=p.en:=by
  have h:=HWf.out.2.2;rw [List.getElem?_eq_getElem (by rw [List.length_map,HWf.out.1]; omega)] at h;exact Option.some.inj h
 obtain ⟨TX,hTX⟩:∃ x,tl.map (·.1)=x:=⟨_,rfl⟩
 have HTX:=ι hTX;have hrx:=HTR.out;have hcc:=HCe.out.trans HC2.out;simp only [hTX] at hrx hcc;clear hTX;have hone:=(Led.nextE_one HWf.out.2.1 (p:=p.en) (n:=n) (by rw [List.length_map,HWf.out.1]) hpp (view:=view) (txs:=TX) (t:=t) (R:=D) (M:=M) hcc hgd.1 hgd.2 hMk).1.ok;have h8:(Hd.linksH (p.en.hd.hgt+1)).map (Led.sumAt g.L)=S:=by rw [HLK.out]; exact HSe.out.symm
 have hne:=Led.nextE_eq g.L p.en view TX t D M EP LB stt RR TR N NX S HEP.out HLB.out HSt.out HRR.out hrx HN.out.1 HN.out.2 h8;rw [hne] at hone;have hok:=okH_of hone;have HEn:=ι hne;have HCl:Hid (∀ W,Below w.heap.size w W→Calls Tryz.prog 73 #[.slice xA tl.length xc] W (ClonedEnd W tl)):=ι (fun W hW=>led_cloned W tl xA xc (HTT.out.next hW) (by have:=hfx.1; omega) (fun q hq=>by
  obtain ⟨_,_,_,hk⟩:=Ex.fineX_spec (hfx.2 q hq);rcases hk with ⟨_,_,_,_,_,_,h⟩|⟨_,_,_,h,_⟩|⟨_,_,_,h,_⟩|⟨_,_,_,_,_,h⟩
  ·rw [h]; simp
  ·rw [h]; simp
  ·rw [h]; simp
  ·have:=Pw.okM_len h; omega))
 clear hgd hMk hfx hrc hpp hne hone hrx hcc h8;obtain ⟨HS,hHS⟩:∃ x,Hd.dig (⟨p.en.hd.hgt+1,EP,view,LB,p.en.sum,stt,RR,TR,p.en.hd.nxt,NX,S⟩:Hd)=x:=⟨_,rfl⟩
 have HHd:Hid (∀ W,Reads W W.heap.size 1 SA S.length (strv S)→Below w.heap.size w W→Calls Tryz.prog 49 #[.agg #[.int .i64 (p.en.hd.hgt+1),EP,view,LB,p.en.sum,stt,RR,TR,p.en.hd.nxt,NX,.slice SA S.length SC]] W (Ret W (.string ⟨HS.toArray⟩))):=ι (fun W hr hW=>by
  have h:=hd_Digest W (⟨p.en.hd.hgt+1,EP,view,LB,p.en.sum,stt,RR,TR,p.en.hd.nxt,NX,S⟩:Hd) hok SA SC hr (HTb.out.next hW);rw [hHS] at h;exact h)
 rw [hHS] at HEn;clear hok hHS;have kl1:=HL1.out _ F15.out.b;refine wp_region_noPanic ?_;refine wp_region_held_drew (S:=fun w'=>w'.cell? ⟨hb,0,none⟩=some (.int .i64 (p.en.hd.hgt+1))∧w'.cell? ⟨hb,1,none⟩=some (.int .i64 EP)∧w'.cell? ⟨hb,2,none⟩=some (.int .i64 view)∧w'.cell? ⟨hb,3,none⟩=some (.bool LB)∧w'.cell? ⟨hb,4,none⟩=some (p.en.sum:Value)∧w'.cell? ⟨hb,5,none⟩=some (stt:Value)∧w'.cell? ⟨hb,6,none⟩=some (RR:Value)∧w'.cell? ⟨hb,7,none⟩=some (TR:Value)∧w'.cell? ⟨hb,8,none⟩=some (p.en.hd.nxt:Value)∧w'.cell? ⟨hb,9,none⟩=some (NX:Value)∧w'.cell? ⟨hb,10,none⟩=some (.slice SA S.length SC)∧w'.cell? ⟨lb,1,none⟩=some (.slice g.nA p.en.nxt.length g.nc)) (by kernel_rfl) (by have F:=live_drew F15; exact ⟨F.out.cell 0 0 rfl rfl,F.out.cell 0 1 rfl rfl,F.out.cell 0 2 rfl rfl,F.out.cell 0 3 rfl rfl,F.out.cell 0 4 rfl rfl,F.out.cell 0 5 rfl rfl,F.out.cell 0 6 rfl rfl,F.out.cell 0 7 rfl rfl,F.out.cell 0 8 rfl rfl,F.out.cell 0 9 rfl rfl,F.out.cell 0 10 rfl rfl,HL1.out _ F.out.b⟩) (fun hHeld=> ?_);clear kl1;have F:=live_drew F15;have FX:=live_drew FX15;have FB:=live_drew (ι (Live.start w15));generalize w15.drew=Wd at F FX FB hHeld ⊢;refine tk 0 130 rfl ?_;try go_frame
 refine tk 1 131 rfl ?_;try go_frame
 refine tk 3 133 rfl ?_;try go_frame
 refine tk 5 135 rfl ?_;try go_frame
 refine tk 6 136 rfl ?_;try go_frame
 refine tk 7 137 rfl ?_;try go_frame
 refine tk 8 138 rfl ?_;try go_frame
 refine tk 9 139 rfl ?_;try go_frame
 refine tk 10 140 rfl ?_;try go_frame
 refine tk 12 142 rfl ?_;try go_frame
 refine rd1 2 rfl (fun K hK=> ?_);have RS:=Reads.of_own (own_below HSO.out FB.out.b);go_simp
 (with_reducible refine (HHd.out _ ?_ ?_).mono ?_)
 ·exact RS
 ·exact F.out.b
 rintro e Wc ⟨rfl,hb⟩;have F:=Live.hb F hb;have FX:=Live.hb FX hb;have FB:=Live.hb FB hb;clear hb RS;go_simp
 refine hK.out _ _ ⟨F.out.cell 0 0 rfl rfl,F.out.cell 0 1 rfl rfl,F.out.cell 0 2 rfl rfl,F.out.cell 0 3 rfl rfl,F.out.cell 0 4 rfl rfl,F.out.cell 0 5 rfl rfl,F.out.cell 0 6 rfl rfl,F.out.cell 0 7 rfl rfl,F.out.cell 0 8 rfl rfl,F.out.cell 0 9 rfl rfl,F.out.cell 0 10 rfl rfl,HL1.out _ F.out.b⟩ (fun hHeld=> ?_);clear hK K;try go_frame
 refine rd1 4 rfl (fun K hK=> ?_);go_simp
 (with_reducible refine (HCl.out _ ?_).mono ?_)
 ·exact F.out.b
 rintro e Wl ⟨TL2,XA,XC,rfl,hb,hm1,hm2,hm3,hm4⟩;have hsz:w.heap.size≤Wc.heap.size:=F.out.b.size;have hrl:rb<Wc.heap.size:=F.out.lt 2 rfl;have F:=Live.hb F hb;have FX:=Live.hb FX hb;have FB:=Live.hb FB hb;have HCL:Hid (TL2.map (·.1)=tl.map (·.1)∧TxsAt Wl XA TL2∧((∀ a,XA=some a→w.heap.size≤a.block∧a.block≠rb)∧∀ p∈TL2,∀ a,p.2.1=some a→w.heap.size≤a.block∧a.block≠rb)):=ι ⟨hm1,hm2,fun a ha=>by have:=hm3 a ha; omega,fun p hp a ha=>by have:=hm4 p hp a ha; omega⟩;clear hb hm1 hm2 hm3 hm4 hsz hrl;go_simp
 refine hK.out _ _ ⟨F.out.cell 0 0 rfl rfl,F.out.cell 0 1 rfl rfl,F.out.cell 0 2 rfl rfl,F.out.cell 0 3 rfl rfl,F.out.cell 0 4 rfl rfl,F.out.cell 0 5 rfl rfl,F.out.cell 0 6 rfl rfl,F.out.cell 0 7 rfl rfl,F.out.cell 0 8 rfl rfl,F.out.cell 0 9 rfl rfl,F.out.cell 0 10 rfl rfl,HL1.out _ F.out.b⟩ (fun hHeld=> ?_);clear hK K;try go_frame
 refine tk 11 141 rfl ?_;try go_frame
 refine rd1 13 rfl (fun K hK=> ?_);have BR:=F.out.blk 2 rfl;have KT:=(HKeep.out _ FX.out.b).1;have KR:=(HKeep.out _ FX.out.b).2.1;have KM:=(HKeep.out _ FX.out.b).2.2;have KS:=own_below HSO.out FB.out.b;refine step_store_all rfl 149 _ _ rfl rb 0 #[.int .i64 (p.en.hd.hgt+1),EP,view,LB,p.en.sum,stt,RR,TR,p.en.hd.nxt,NX,.slice SA S.length SC,HS,.slice XA TL2.length XC,.slice R D.length rc2,.pointer (some ⟨vb,0,none⟩),.slice g.nA p.en.nxt.length g.nc] rfl rfl (F.out.there 2 16 rfl (by decide)) SZE.out (by simp [Value.oneCell']) ?_;have F9:Hid (Live w (Wl.setCells rb 0 (#[.int .i64 (p.en.hd.hgt+1),EP,view,LB,p.en.sum,stt,RR,TR,p.en.hd.nxt,NX,.slice SA S.length SC,HS,.slice XA TL2.length XC,.slice R D.length rc2,.pointer (some ⟨vb,0,none⟩),.slice g.nA p.en.nxt.length g.nc]:Array Value).toList) [(hb,65,#[.int .i64 (p.en.hd.hgt+1),EP,view,LB,p.en.sum,stt,RR,TR,p.en.hd.nxt,NX,.slice SA S.length SC]),(pb,149,PV),(rb,149,#[.int .i64 (p.en.hd.hgt+1),EP,view,LB,p.en.sum,stt,RR,TR,p.en.hd.nxt,NX,.slice SA S.length SC,HS,.slice XA TL2.length XC,.slice R D.length rc2,.pointer (some ⟨vb,0,none⟩),.slice g.nA p.en.nxt.length g.nc])]):=Live.hall F 2 _ rfl rfl;have HG:Wl.grownBy (Wl.setCells rb 0 (#[.int .i64 (p.en.hd.hgt+1),EP,view,LB,p.en.sum,stt,RR,TR,p.en.hd.nxt,NX,.slice SA S.length SC,HS,.slice XA TL2.length XC,.slice R D.length rc2,.pointer (some ⟨vb,0,none⟩),.slice g.nA p.en.nxt.length g.nc]:Array Value).toList) (some rb):=grown_setAll _ 0 _ (World.grownBy.refl _ _);generalize Wl.setCells rb 0 (#[.int .i64 (p.en.hd.hgt+1),EP,view,LB,p.en.sum,stt,RR,TR,p.en.hd.nxt,NX,.slice SA S.length SC,HS,.slice XA TL2.length XC,.slice R D.length rc2,.pointer (some ⟨vb,0,none⟩),.slice g.nA p.en.nxt.length g.nc]:Array Value).toList=W9 at F9 HG ⊢;have KT9:=ι (KT.kept HG (fun k e=>by have e:=Option.some.inj e; subst e; exact ⟨_,_,BR,by decide,by decide⟩));have KR9:=ι (own_keepB KR HG BR (by decide));have KM9:=ι (own_keepB KM HG BR (by decide));have KS9:=ι (own_keepB KS HG BR (by decide));have KX9:=ι (HCL.out.2.1.far HG (fun k e=>by have e:=Option.some.inj e; subst e; exact ⟨fun a ha=>(HCL.out.2.2.1 a ha).2,fun p hp a ha=>(HCL.out.2.2.2 p hp a ha).2⟩));have HS0:Hid (∀ a,SA=some a→w.heap.size≤a.block):=ι (fun a ha=>by have h5:=(KS.lt a.block (by rw [ha]; rfl)).1; have h6:=HB3.out.size; omega);have HR0:Hid (∀ a,R=some a→w.heap.size≤a.block):=ι (fun a ha=>by have h5:=(KR.lt a.block (by rw [ha]; rfl)).1; have h6:=HB1.out; omega);clear KT KR KM KS BR HG;refine hK.out _ _ ⟨F9.out.cell 0 0 rfl rfl,F9.out.cell 0 1 rfl rfl,F9.out.cell 0 2 rfl rfl,F9.out.cell 0 3 rfl rfl,F9.out.cell 0 4 rfl rfl,F9.out.cell 0 5 rfl rfl,F9.out.cell 0 6 rfl rfl,F9.out.cell 0 7 rfl rfl,F9.out.cell 0 8 rfl rfl,F9.out.cell 0 9 rfl rfl,F9.out.cell 0 10 rfl rfl,HL1.out _ F9.out.b⟩ (fun hHeld=> ?_);clear hK K;try go_frame
 refine rd1 14 rfl (fun K hK=> ?_);go_simp
 refine hK.out _ _ ⟨F9.out.cell 0 0 rfl rfl,F9.out.cell 0 1 rfl rfl,F9.out.cell 0 2 rfl rfl,F9.out.cell 0 3 rfl rfl,F9.out.cell 0 4 rfl rfl,F9.out.cell 0 5 rfl rfl,F9.out.cell 0 6 rfl rfl,F9.out.cell 0 7 rfl rfl,F9.out.cell 0 8 rfl rfl,F9.out.cell 0 9 rfl rfl,F9.out.cell 0 10 rfl rfl,HL1.out _ F9.out.b⟩ (fun hHeld=> ?_);clear hK K;try go_frame
 refine rd1 15 rfl (fun K hK=> ?_);go_simp
 refine hK.out _ _ ⟨F9.out.cell 0 0 rfl rfl,F9.out.cell 0 1 rfl rfl,F9.out.cell 0 2 rfl rfl,F9.out.cell 0 3 rfl rfl,F9.out.cell 0 4 rfl rfl,F9.out.cell 0 5 rfl rfl,F9.out.cell 0 6 rfl rfl,F9.out.cell 0 7 rfl rfl,F9.out.cell 0 8 rfl rfl,F9.out.cell 0 9 rfl rfl,F9.out.cell 0 10 rfl rfl,HL1.out _ F9.out.b⟩ (fun hHeld=> ?_);clear hK K;try go_frame
 refine wpAnyH_done (by kernel_rfl) ?_ _;refine NoPanic.normal ?_;clear hHeld;refine hKK _ _ (wp_ret ?_);have hr:=run_loadVar_mid (P:=Tryz.prog) W9 rb 0 149 [.int .i64 (p.en.hd.hgt+1),EP,view,LB,p.en.sum,stt,RR,TR,p.en.hd.nxt,NX,.slice SA S.length SC,HS,.slice XA TL2.length XC,.slice R D.length rc2,.pointer (some ⟨vb,0,none⟩),.slice g.nA p.en.nxt.length g.nc] _ (range_of_blk (F9.out.blk 2 rfl)) Tryz.underlying149 rfl SZE.out;refine bodyPost_ret (v:= .tuple #[.agg #[.int .i64 (p.en.hd.hgt+1),EP,view,LB,p.en.sum,stt,RR,TR,p.en.hd.nxt,NX,.slice SA S.length SC,HS,.slice XA TL2.length XC,.slice R D.length rc2,.pointer (some ⟨vb,0,none⟩),.slice g.nA p.en.nxt.length g.nc],.slice NA N.length NC,ζ]) (results_cell3 Tryz.results89 rfl hr rfl rfl) rfl ?_;have B9:=F9.out.b;refine HPo.out ⟨⟨(⟨p.en.hd.hgt+1,EP,view,LB,p.en.sum,stt,RR,TR,p.en.hd.nxt,NX,S⟩:Hd),HS,TX,D,t,p.en.nxt,N⟩,TL2,SA,SC,XA,XC,R,rc2,.pointer (some ⟨vb,0,none⟩),g.nA,g.nc⟩ NA NC W9 HC2.out B9 ?_ ?_ ?_ ?_
 ·rw [HMk.out,HTX.out]; exact HEn.out.symm
 ·refine ⟨Reads.of_own KS9.out,KX9.out,?_,Reads.of_own KR9.out,?_,KT9.out⟩
  ·exact HTX.out.symm.trans HCL.out.1.symm
  ·show Reads W9 W9.heap.size 2 g.nA p.en.nxt.length (mcells p.en.nxt);rw [HNx.out];exact (HGG.out.nr.below B9).more B9.size
 ·exact RN.out.1 _ B9 KM9.out
 ·intro b hb ho;refine ⟨⟨?_,?_,?_,by show wofA g.nA p.en.nxt.length b; rw [HNx.out]; exact ho,?_⟩,RN.out.2 b hb ho⟩
  ·intro _ a ha e; have h5:=HS0.out a ha; omega
  ·intro _ a ha e; have h5:=(HCL.out.2.2.1 a ha).1; omega
  ·intro _ a ha e; have h5:=HR0.out a ha; omega
  ·intro q hq _ a ha e; have h5:=(HCL.out.2.2.2 q hq a ha).1; omega
end
end Go.Proofs.YtnelhjfjkkdoaaaGreatDoor