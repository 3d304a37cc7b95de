import Derived.Test.YtdkiloganbhfkaaGreatDoorJ28
set_option linter.unusedSimpArgs false
set_option linter.unusedVariables false
set_option maxHeartbeats 4000000
set_option maxRecDepth 100000
namespace Go.Proofs.YtdkiloganbhfkaaGreatDoor
section
open Go.RowKit Go.Instr
attribute [local go_sem] ba_get ByteArray.mk_append_mk
attribute [local go_sem ↓] Go.wp_at_zero Go.wp_at_succ
theorem Ex.allGoL_rcs:∀ (l:List Ex.Tx) (t:Trie.T) (m:List Pw.Mem),(∀ x∈l,Ex.fineX x=true)→∀ x∈(Ex.allGoL t l m).2.1,x.2.1.length≤9223372036854775807
 | [],t,m,h=>by simp [Ex.allGoL]
 |x::r,t,m,h=>by
  intro y hy;simp only [Ex.allGoL,List.mem_cons] at hy;rcases hy with rfl|hy
  ·have:=(Ex.nameW_len (Ex.fineX_spec (h x (by simp))).1).2
   simp only; omega
  ·exact Ex.allGoL_rcs r _ _ (fun z hz=>h z (by simp [hz])) y hy
theorem range_of_blk {w:World} {g t:Nat} {xs:List Value} (h:Blk w g t xs.toArray):w.rangeAt g 0 xs:=fun j v hv=>by
 rw [Nat.zero_add,h.cell];simpa using hv
theorem step_store_all {P:Program} {ops:Array Oper} {o:Oper} {a:Act} {w:World} {K:Act→World→Prop} {Q:Exit→Act→World→Prop} {E:Prop} (hgd:o.guard=none) (ty:TypeId) (x y:Operand) (ho:o.op= .store ty x y)
  (b f:Nat) (cells:Array Value) (hx:a.eval x= .pointer (some ⟨b,f,none⟩)) (hy:a.eval y= .agg cells) (ht:w.there b f cells.size) (hi:(P.info? ty).map (·.size)=some cells.size) (h1:cells.all (·.oneCell')=true)
  (h:K (a.put o.dst undef) (w.setCells b f cells.toList)):if Region.wanted o (yielded ops a.tmps)=true then Oper.wp P o a w K Q else E:=by
 have hw:Region.wanted o (yielded ops a.tmps)=true:=by simp [Region.wanted,hgd]
 rw [if_pos hw];exact wp_store_mid ty x y ho b f cells hx hy ht hi h1 h
theorem results_load_tmp {P:Program} (fn:Func) (a:Tmp) (t:TypeId) (n:Tmp) (hfn:fn.results=#[.cell a t,.tmp n]) (tmps:Array Value) (b:Nat) (ha:tmps.getD a undef= .pointer (some ⟨b,0,none⟩)) (cs:Array Value) (W:World)
  (hr:(loadVar t ⟨b,0,none⟩).run P W= .ok (.agg cs) W):(results fn tmps).run P W= .ok (.tuple #[.agg cs,tmps.getD n undef]) W:=by
 have hp':tmps[a]?.getD undef= .pointer (some ⟨b,0,none⟩):=by simpa using ha
 simp [results,hfn,hp',asAddr,hr]
theorem wpList_store_as {P:Program} {ops:Array Oper} {rest:List Oper} {op:Oper} {a:Act} {w:World} {Q:Exit→Act→World→Prop} (hgd:op.guard=none) (ty:TypeId) (x y:Operand) (ho:op.op= .store ty x y)
  (b o:Nat) (cells:Array Value) (hx:a.eval x= .pointer (some ⟨b,o,none⟩)) (hy:a.eval y= .agg cells)
  (ht:w.there b o cells.size) (hi:(P.info? ty).map (·.size)=some cells.size) (h1:cells.all (·.oneCell')=true) (W:World) (hW:w.setCells b o cells.toList=W)
  (h:wpList P ops Q rest (a.put op.dst undef) W):wpList P ops Q (op::rest) a w:=
 wpList_store_mid hgd ty x y ho b o cells hx hy ht hi h1 (by rw [hW]; exact h)
structure PVs (p:EnM) (PV:Array Value):Prop where
 p0:PV[0]?=some (.int .i64 p.en.hd.hgt)
 p1:PV[1]?=some (.int .i64 p.en.hd.epo)
 p2:PV[2]?=some (.int .i64 p.en.hd.vw)
 p3:PV[3]?=some (.bool p.en.hd.last)
 p4:PV[4]?=some (p.en.hd.par:Value)
 p5:PV[5]?=some (p.en.hd.st:Value)
 p6:PV[6]?=some (p.en.hd.rc:Value)
 p7:PV[7]?=some (p.en.hd.tx:Value)
 p8:PV[8]?=some (p.en.hd.mem:Value)
 p9:PV[9]?=some (p.en.hd.nxt:Value)
 p10:PV[10]?=some (.slice p.kA p.en.hd.sk.length p.kc)
 p11:PV[11]?=some (p.en.sum:Value)
 p12:PV[12]?=some (.slice p.xA p.tl.length p.xc)
 p13:PV[13]?=some (.slice p.rA p.en.rcs.length p.rc)
 p14:PV[14]?=some (.slice p.iA p.n p.ic)
 p15:PV[15]?=some (.slice p.sA p.en.set.length p.sc)
 p16:PV[16]?=some (.slice p.nA p.en.nxt.length p.nc)
 sz:PV.size=17
 one:PV.all (·.oneCell')=true
theorem pvs (p:EnM):PVs p (ecell p).toArray:=⟨rfl,rfl,rfl,rfl,rfl,rfl,rfl,rfl,rfl,rfl,rfl,rfl,rfl,rfl,rfl,rfl,rfl,rfl,all_oneCell_toArray (ecell_one p)⟩
def zeroEn:EnM:=⟨⟨⟨0,0,0,false,[],[],[],[],[],[],[]⟩,[],[],[],.nil,[],[]⟩,[],0,none,0,none,0,none,0,none,0,none,0,none,0⟩
theorem zero_one:((θ [ν,ε,ν,ν,ν,ν,ν]):Array Value).all (·.oneCell')=true:=all_oneCell_toArray (ecell_one zeroEn)
theorem own_keepB {w w':World} {base:Nat} {e:TypeId} {size n:Nat} {v:Value} {xs:List Value} {g t:Nat} {cs:Array Value} (h:w.ownsRow base e size v n xs) (hg:w.grownBy w' (some g)) (hb:Blk w g t cs) (hne:e≠t):w'.ownsRow base e size v n xs:=h.kept hg (by
 have:=own_blk_ne h hb hne
 cases hv:v.ownBlock with
 |none=>exact .inl rfl
 |some k=>exact .inr (by rw [←hv]; exact this))
def MakeEnd (w:World) (L:List En) (q:En) (view:Int) (txs:List Ex.Tx) (e:Ending) (w':World):Prop:=
 ∃ x:EnM,e= .returned (.tuple #[.agg (η x.en.hd [.slice x.kA x.en.hd.sk.length x.kc,x.en.sum,.slice x.xA x.tl.length x.xc,.slice x.rA x.en.rcs.length x.rc,.slice x.iA x.n x.ic,.slice x.sA x.en.set.length x.sc,.slice x.nA x.en.nxt.length x.nc]),.int .i64 (Led.makeC q view txs:Int)])∧Below w.heap.size w w'∧(Led.makeC q view txs=0→x.en=Led.makeE L q view txs∧EnOk w' x)∧(Led.makeC q view txs≠0→x=zeroEn)
theorem z_19 {P:Prop} (h:P:=by
 have TH:W1.there rb 0 17:=F1.out.there 1 17 rfl (by decide);have F9:Hid (Live w (W1.setCells rb 0 (θ [ν,ε,ν,ν,ν,ν,ν])) [(pb,46,PV),(rb,46,(θ [ν,ε,ν,ν,ν,ν,ν]))]):=Live.hall F1 1 _ rfl rfl;have hr:=run_loadVar_mid (P:=Tryz.prog) (W1.setCells rb 0 (θ [ν,ε,ν,ν,ν,ν,ν])) rb 0 46 (θ [ν,ε,ν,ν,ν,ν,ν]) _ (range_of_blk (F9.out.blk 1 rfl)) Tryz.underlying46 rfl SZE.out;obtain ⟨W9,h9⟩:∃ W9,W1.setCells rb 0 ((θ [ν,ε,ν,ν,ν,ν,ν]):Array Value).toList=W9:=⟨_,rfl⟩
 have h9b:W1.setCells rb 0 [.int .i64 0,.int .i64 0,.int .i64 0,.bool false,.string ⟨#[]⟩,.string ⟨#[]⟩,.string ⟨#[]⟩,.string ⟨#[]⟩,.string ⟨#[]⟩,.string ⟨#[]⟩,.slice none 0 0,.string ⟨#[]⟩,.slice none 0 0,.slice none 0 0,.slice none 0 0,.slice none 0 0,.slice none 0 0]=W9:=h9;rw [h9b] at F9 hr;have H9:=ι h9;clear h9b h9;go_wp2_with ((with_reducible refine at_store 33 ?_); refine wpList_store_as rfl 46 _ _ rfl rb 0 (θ [ν,ε,ν,ν,ν,ν,ν]) rfl rfl TH SZE.out zero_one W9 H9.out ?_)
 (try simp only [Exit.inBlock,Exit.then])
 refine bodyPost_ret (v:= .tuple #[.agg (θ [ν,ε,ν,ν,ν,ν,ν]),.int .i64 ((1:Nat):Int)]) (results_load_tmp _ _ _ _ Tryz.results75 _ rb rfl _ _ hr) rfl ?_;exact HPe.out 1 _ HE.out (by first|decide|exact HCn.out) F9.out.b):P:=h
theorem z_20 {P:Prop} (h:P:=by
 refine hK.out _ _ ⟨F9.out.cell 2 0 rfl HPV.out.p0,F9.out.cell 2 1 rfl HPV.out.p1,F9.out.cell 2 9 rfl HPV.out.p9,F9.out.cell 2 11 rfl HPV.out.p11,F9.out.cell 1 0 rfl rfl,F9.out.cell 1 2 rfl rfl⟩ (fun hHeld=> ?_);clear hK K;try go_frame
 refine wpAnyH_done (by kernel_rfl) ?_ _;go_wp2_with fail
 go_meet
 exact ⟨hb,rfl,hle,FX9.out,F9.out⟩):P:=h
theorem ref20_Make (w:World) (l:List EnM) (n:Nat) (hn:l.length=n+1) (hW:Led.Wf (l.map (·.en))) (A:Option Addr) (c:Nat) (HL:EntsAt w A l) (view:Int) (tl:List TxM) (xA:Option Addr) (xc:Nat) (HT:TxsAt w xA tl):
  Calls Tryz.prog 75 #[.slice A l.length c,view,.slice xA tl.length xc] w (MakeEnd w (l.map (·.en)) (l[n]'(by omega)).en view (tl.map (·.1))):=by
 obtain ⟨p,hp⟩:∃ p,l[n]'(by omega)=p:=⟨_,rfl⟩
 rw [hp];have HPe:Hid (∀ (cd:Nat) w',Led.makeC p.en view (tl.map (·.1))=cd→cd≠0→Below w.heap.size w w'→MakeEnd w (l.map (·.en)) p.en view (tl.map (·.1)) (.returned (.tuple #[.agg (θ [ν,ε,ν,ν,ν,ν,ν]),cd])) w'):=ι (fun cd w' e hc hb=>⟨zeroEn,by rw [e]; rfl,hb,fun h=>absurd (e.symm.trans h) hc,fun _=>rfl⟩);have HPo:Hid (∀ (x:EnM) w',Led.makeC p.en view (tl.map (·.1))=0→Below w.heap.size w w'→x.en=Led.makeE (l.map (·.en)) p.en view (tl.map (·.1))→EnOk w' x→MakeEnd w (l.map (·.en)) p.en view (tl.map (·.1)) (.returned (.tuple #[.agg (η x.en.hd [.slice x.kA x.en.hd.sk.length x.kc,x.en.sum,.slice x.xA x.tl.length x.xc,.slice x.rA x.en.rcs.length x.rc,.slice x.iA x.n x.ic,.slice x.sA x.en.set.length x.sc,.slice x.nA x.en.nxt.length x.nc]),ζ])) w'):=ι (fun x w' e hb h1 h2=>⟨x,by rw [e]; rfl,hb,fun _=>⟨h1,h2⟩,fun h=>absurd e h⟩);generalize MakeEnd w (l.map (·.en)) p.en view (tl.map (·.1))=Q at HPe HPo ⊢;have hmap:(l.map (·.en))[n]'(by rw [List.length_map]; omega)=p.en:=by rw [List.getElem_map,hp]
 have h1:=hW.one n (by rw [List.length_map]; omega);rw [hmap] at h1;have HC:Hid (Led.makeC p.en view (tl.map (·.1))=if view<1∨1048576<view∨1048576≤p.en.hd.hgt then 1 else if p.en.hd.last=false∧view≤p.en.hd.vw then 230 else (Ex.allL p.en.st (tl.map (·.1))).2):=ι rfl;generalize hCe:Led.makeC p.en view (tl.map (·.1))=C at *;have HCe:=ι hCe;clear hCe;have HOk:=HL.o p (by rw [←hp]; exact List.getElem_mem _);have HLL:=ι HL;have HTT:=ι HT;have HOne:=ι h1;have HAll:=ι (fun W (hb:Below w.heap.size w W)=>ref16_AllL W p.en.st h1.good h1.cnt p.iA p.n p.ic (HOk.i.next hb) tl xA xc (HT.next hb));have HPk:=ι HOk;obtain ⟨ad,off,hA,hbl,hcell⟩:=ent_cells HL.r (show n<l.length by omega);subst hA;rw [hp] at hcell;have hlen:(l.length:Int) - 1=(n:Int):=by omega
 have hwl:IntKind.i64.wrap ((l.length:Int) - 1)=(n:Int):=by rw [hlen]; exact IntWalk.i64_in _ (by have:=hW.le; rw [List.length_map] at this; omega)
 have hi1:(n:Int)<l.length:=by omega
 have hi0:(0:Int)≤n:=by omega
 have HWf:=ι (show l.length=n+1∧Led.Wf (l.map (·.en))∧l[n]?=some p from ⟨hn,hW,by rw [List.getElem?_eq_getElem (by omega),hp]⟩);have SZE:Hid ((Tryz.prog.info? 46).map (·.size)=some 17):=ι (by kernel_rfl);have HPV:=ι (pvs p);have HRg:Hid (∀ W,Below w.heap.size w W→W.rangeAt ad (off+n*17) (ecell p)):=ι (fun W hW j v hv=>hcell W hW j v hv);have HMk:Hid (Led.makeE (l.map (·.en)) p.en view (tl.map (·.1))=Led.nextE (l.map (·.en)) p.en view (tl.map (·.1)) (Ex.allL p.en.st (tl.map (·.1))).1.1 (Ex.allL p.en.st (tl.map (·.1))).1.2.1 (Ex.allL p.en.st (tl.map (·.1))).1.2.2):=ι rfl;have HGd:Hid ((Ex.allL p.en.st (tl.map (·.1))).2=0→(Trie.Good (Ex.allL p.en.st (tl.map (·.1))).1.1∧Trie.count (Ex.allL p.en.st (tl.map (·.1))).1.1≤1024)∧((Ex.allL p.en.st (tl.map (·.1))).1.2.2= []∨Pw.okM (Ex.allL p.en.st (tl.map (·.1))).1.2.2=true)∧encC (tl.map (·.1))=0∧∀ x∈(Ex.allL p.en.st (tl.map (·.1))).1.2.1,x.2.1.length≤9223372036854775807):=ι (fun h=>by
  obtain ⟨a1,a2,a3⟩:=Ex.allL_ok h;have g:=Ex.allGoL_good (tl.map (·.1)) p.en.st [] h1.good h1.cnt;have m:=Ex.allGoL_next (tl.map (·.1)) p.en.st [] a2 (.inl rfl);have r:=Ex.allGoL_rcs (tl.map (·.1)) p.en.st [] a2;rw [a3];exact ⟨⟨g.1,g.2.1⟩,m,by unfold encC; rw [if_neg (by omega),if_neg (by simpa using a2)],r⟩)
 clear hn hW hp hmap HL HT HOk h1 hlen hcell;go_enter Tryz.func75,Tryz.ntmps75
 go_upto_region 1 with fail
 have F0:=Live.ha (ι (Live.start w)) (θ [ν,ε,ν,ν,ν,ν,ν]) 46;generalize World.alloc w _=W0 at F0 ⊢;generalize w.heap.size=rb at F0 ⊢;have RG:=HRg.out _ F0.out.b;have F0a:=Live.ha F0 (θ [ν,ε,ν,ν,ν,ν,ν]) 46;have TH0:(W0.alloc (.cells (θ [ν,ε,ν,ν,ν,ν,ν]) 46)).there W0.heap.size 0 17:=F0a.out.there 0 17 rfl (by decide);have SZL:(Tryz.prog.info? 46).map (·.size)=some (ecell p).length:=SZE.out;generalize ecell p=pl at *;have THP:(W0.alloc (.cells (θ [ν,ε,ν,ν,ν,ν,ν]) 46)).there W0.heap.size 0 pl.toArray.size:=by rw [HPV.out.sz]; exact TH0
 have SZP:(Tryz.prog.info? 46).map (·.size)=some pl.toArray.size:=by rw [HPV.out.sz]; exact SZE.out
 have ONP:=HPV.out.one;go_upto_region 2 with (first|((with_reducible refine at_load 20 ?_); refine wpList_load_mid rfl 46 _ rfl ad (off+n*17) rfl pl _ RG Tryz.underlying46 rfl SZL ?_)|((with_reducible refine at_store 20 ?_); refine wpList_store_mid rfl 46 _ _ rfl W0.heap.size 0 pl.toArray rfl rfl THP SZP ONP ?_))
 have F1:Hid (Live w ((W0.alloc (.cells (θ [ν,ε,ν,ν,ν,ν,ν]) 46)).setCells W0.heap.size 0 pl.toArray.toList) [(W0.heap.size,46,pl.toArray.toList.toArray),(rb,46,(θ [ν,ε,ν,ν,ν,ν,ν]))]):=Live.hall F0a 0 _ rfl (by have:=HPV.out.sz; simpa using this.symm);simp only at F1 ⊢;generalize World.setCells _ W0.heap.size 0 pl=W1 at F1 ⊢;generalize W0.heap.size=pb at F1 ⊢;clear TH0 THP SZP ONP SZL RG F0a F0 HRg hi1 hi0 hwl hbl;generalize pl.toArray=PV at HPV F1 ⊢;have kp_0:W1.cell? ⟨pb,0,none⟩=some (.int .i64 p.en.hd.hgt):=F1.out.cell 0 0 rfl HPV.out.p0; have kp_2:W1.cell? ⟨pb,2,none⟩=some (.int .i64 p.en.hd.vw):=F1.out.cell 0 2 rfl HPV.out.p2; have kp_3:W1.cell? ⟨pb,3,none⟩=some (.bool p.en.hd.last):=F1.out.cell 0 3 rfl HPV.out.p3; have kp_4:W1.cell? ⟨pb,4,none⟩=some (p.en.hd.par:Value):=F1.out.cell 0 4 rfl HPV.out.p4; have kp_6:W1.cell? ⟨pb,6,none⟩=some (p.en.hd.rc:Value):=F1.out.cell 0 6 rfl HPV.out.p6; have kp_14:W1.cell? ⟨pb,14,none⟩=some (.slice p.iA p.n p.ic):=F1.out.cell 0 14 rfl HPV.out.p14
 by_cases v1:view<1
 ·have v1':(view<1)=True:=by simp; omega
  have HE:Hid (C=1):=ι (by rw [HC.out,if_pos (.inl v1)]);exact z_19
 have v1':(view<1)=False:=by simp; omega
 by_cases v2:1048576<view
 ·have v2':(1048576<view)=True:=by simp; omega
  have HE:Hid (C=1):=ι (by rw [HC.out,if_pos (.inr (.inl v2))]);exact z_19
 have v2':(1048576<view)=False:=by simp; omega
 by_cases v3:1048576≤p.en.hd.hgt
 ·have v3':(1048576≤p.en.hd.hgt)=True:=by simp; omega
  have HE:Hid (C=1):=ι (by rw [HC.out,if_pos (.inr (.inr v3))]);exact z_19
 have v3':(1048576≤p.en.hd.hgt)=False:=by simp; omega
 have HC:=ι (HC.out.trans (if_neg (by omega)));have HV:=ι (show 1≤view∧view≤1048576∧p.en.hd.hgt<1048576 by omega);clear v1 v2 v3;go_upto_region 4 with fail
 clear v1' v2' v3';have g4:(p.en.hd.last=false∧view≤p.en.hd.vw)∨¬(p.en.hd.last=false∧view≤p.en.hd.vw):=Classical.em _;rcases g4 with ⟨g1,g2⟩|g4
 ·have g2':(view≤p.en.hd.vw)=True:=by simp; omega
  rw [g1] at kp_3;have HE:Hid (C=230):=ι (by rw [HC.out,if_pos ⟨g1,g2⟩]);clear g2 g1;have TH:W1.there rb 0 17:=F1.out.there 1 17 rfl (by decide);have F9:Hid (Live w (W1.setCells rb 0 (θ [ν,ε,ν,ν,ν,ν,ν])) [(pb,46,PV),(rb,46,(θ [ν,ε,ν,ν,ν,ν,ν]))]):=Live.hall F1 1 _ rfl rfl;have hr:=run_loadVar_mid (P:=Tryz.prog) (W1.setCells rb 0 (θ [ν,ε,ν,ν,ν,ν,ν])) rb 0 46 (θ [ν,ε,ν,ν,ν,ν,ν]) _ (range_of_blk (F9.out.blk 1 rfl)) Tryz.underlying46 rfl SZE.out;obtain ⟨W9,h9⟩:∃ W9,W1.setCells rb 0 ((θ [ν,ε,ν,ν,ν,ν,ν]):Array Value).toList=W9:=⟨_,rfl⟩
  have h9b:W1.setCells rb 0 [.int .i64 0,.int .i64 0,.int .i64 0,.bool false,.string ⟨#[]⟩,.string ⟨#[]⟩,.string ⟨#[]⟩,.string ⟨#[]⟩,.string ⟨#[]⟩,.string ⟨#[]⟩,.slice none 0 0,.string ⟨#[]⟩,.slice none 0 0,.slice none 0 0,.slice none 0 0,.slice none 0 0,.slice none 0 0]=W9:=h9;rw [h9b] at F9 hr;have H9:=ι h9;clear h9b h9;go_wp2_with ((with_reducible refine at_store 45 ?_); refine wpList_store_as rfl 46 _ _ rfl rb 0 (θ [ν,ε,ν,ν,ν,ν,ν]) rfl rfl TH SZE.out zero_one W9 H9.out ?_)
  (try simp only [Exit.inBlock,Exit.then])
  refine bodyPost_ret (v:= .tuple #[.agg (θ [ν,ε,ν,ν,ν,ν,ν]),.int .i64 ((230:Nat):Int)]) (results_load_tmp _ _ _ _ Tryz.results75 _ rb rfl _ _ hr) rfl ?_;exact HPe.out 230 _ HE.out (by first|decide|exact HCn.out) F9.out.b
 have HC2:=ι (HC.out.trans (if_neg g4));have g5:p.en.hd.last=true∨p.en.hd.last=false∧(view≤p.en.hd.vw)=False:=by
  cases hl:p.en.hd.last with
  |true=>exact .inl rfl
  |false=>exact .inr ⟨rfl,by have:=fun h=>g4 ⟨hl,h⟩; simpa using this⟩
 clear g4 HC;go_cut [44] (fun s wx=>s= .bool false∧W1=wx)
 case first=>
  rcases g5 with g5|⟨g5,g5'⟩
  ·rw [g5] at kp_3;go_wp2_with fail
   go_meet
   exact ⟨rfl,rfl⟩
  ·rw [g5] at kp_3;go_wp2_with fail
   go_meet
   exact ⟨rfl,rfl⟩
 case rest=>
 obtain ⟨h44,hw1⟩:=hcut;subst h44;subst hw1;clear g5 kp_0 kp_2 kp_3;go_wp2_with fail
 refine (HAll.out _ F1.out.b).mono ?_;rintro e w2 ⟨I,m,ic,R,rc2,B,bd,rfl,hb,hI,hR,hB⟩;have F2:=Live.hb F1 hb;have K2:=ι (And.intro hI (And.intro hR hB));clear hb hI hR hB F1 HAll kp_4 kp_6 kp_14;generalize Ex.allL p.en.st (tl.map (·.1))=X at *;obtain ⟨⟨t,D,M⟩,cd⟩:=X;simp only at K2 HC2 HMk HGd;go_upto_region 7 with fail
 have F3:=Live.ha F2 #[.slice I m ic,.slice R D.length rc2,.slice B M.length bd] 181;have K3:Hid ((cd=0→IAt (w2.alloc (.cells #[.slice I m ic,.slice R D.length rc2,.slice B M.length bd] 181)) I m ic t)∧(w2.alloc (.cells #[.slice I m ic,.slice R D.length rc2,.slice B M.length bd] 181)).ownsRow W1.heap.size 225 3 (.slice R D.length rc2) D.length (rcs D)∧Reads w w.heap.size 2 B M.length (mcells M)):=ι (by
  have hb:=(Below.refl _ w2).alloc (Nat.le_refl _) (.cells #[.slice I m ic,.slice R D.length rc2,.slice B M.length bd] 181);refine ⟨fun e=>(K2.out.1 e).next hb,own_below K2.out.2.1 hb,?_⟩;rcases K2.out.2.2 with e|⟨q,hq,e1,e2⟩
  ·rw [e]; exact ⟨rfl,fun h=>absurd h (by simp)⟩
  ·rw [e1,e2]; exact HTT.out.m q hq)
 generalize World.alloc w2 _=w3 at F3 K3 ⊢;generalize w2.heap.size=db at F3 ⊢;clear F2 K2;by_cases hcd:cd=0;rotate_left
 ·have hcd':((cd:Int) !=0)=true:=by simp; exact hcd
  have HCn:=ι hcd;clear hcd;have HE:Hid (C=cd):=ι (by rw [HC2.out]);have TH:w3.there rb 0 17:=F3.out.there 2 17 rfl (by decide);have F9:Hid (Live w (w3.setCells rb 0 (θ [ν,ε,ν,ν,ν,ν,ν])) [(db,181,#[.slice I m ic,.slice R D.length rc2,.slice B M.length bd]),(pb,46,PV),(rb,46,(θ [ν,ε,ν,ν,ν,ν,ν]))]):=Live.hall F3 2 _ rfl rfl;have hr:=run_loadVar_mid (P:=Tryz.prog) (w3.setCells rb 0 (θ [ν,ε,ν,ν,ν,ν,ν])) rb 0 46 (θ [ν,ε,ν,ν,ν,ν,ν]) _ (range_of_blk (F9.out.blk 2 rfl)) Tryz.underlying46 rfl SZE.out;obtain ⟨W9,h9⟩:∃ W9,w3.setCells rb 0 ((θ [ν,ε,ν,ν,ν,ν,ν]):Array Value).toList=W9:=⟨_,rfl⟩
  have h9b:w3.setCells rb 0 [.int .i64 0,.int .i64 0,.int .i64 0,.bool false,.string ⟨#[]⟩,.string ⟨#[]⟩,.string ⟨#[]⟩,.string ⟨#[]⟩,.string ⟨#[]⟩,.string ⟨#[]⟩,.slice none 0 0,.string ⟨#[]⟩,.slice none 0 0,.slice none 0 0,.slice none 0 0,.slice none 0 0,.slice none 0 0]=W9:=h9;rw [h9b] at F9 hr;have H9:=ι h9;clear h9b h9;go_wp2_with ((with_reducible refine at_store 55 ?_); refine wpList_store_as rfl 46 _ _ rfl rb 0 (θ [ν,ε,ν,ν,ν,ν,ν]) rfl rfl TH SZE.out zero_one W9 H9.out ?_)
  (try simp only [Exit.inBlock,Exit.then])
  refine bodyPost_ret (v:= .tuple #[.agg (θ [ν,ε,ν,ν,ν,ν,ν]),cd]) (results_load_tmp _ _ _ _ Tryz.results75 _ rb rfl _ _ hr) rfl ?_;exact HPe.out cd _ HE.out (by first|decide|exact HCn.out) F9.out.b
 subst hcd;have HRt:Hid (∀ W,Below w3.heap.size w3 W→Calls Tryz.prog 73 #[.slice I m ic] W (Ret W (.string ⟨(Trie.sumT t).toArray⟩))):=ι (fun W hW=>by
  have h:=(K3.out.1 rfl).next hW
  have:=ref10_Root W t (HGd.out rfl).1.1 (by have:=(HGd.out rfl).1.2; omega) I ic (h.hn ▸ h.hr)
  rwa [←h.hn] at this)
 obtain ⟨stt,hstt⟩:∃ s,Trie.sumT t=s:=⟨_,rfl⟩
 rw [hstt] at HRt;have HSt:=ι hstt;clear hstt;obtain ⟨LB,hLB⟩:∃ b,decide (0<M.length)=b:=⟨_,rfl⟩
 have hLB2:decide ((0:Int)<M.length)=LB:=by rw [←hLB,decide_eq_decide]; omega
 have HLB:=ι hLB;have hwg:IntKind.i64.wrap (p.en.hd.hgt+1)=p.en.hd.hgt+1:=IntWalk.i64_in _ (by have:=HOne.out.ok.h0; have:=HV.out.2.2; omega);have FX:=ι (Live.start w3);have kp_0:w3.cell? ⟨pb,0,none⟩=some (.int .i64 p.en.hd.hgt):=F3.out.cell 1 0 rfl HPV.out.p0; have kp_1:w3.cell? ⟨pb,1,none⟩=some (.int .i64 p.en.hd.epo):=F3.out.cell 1 1 rfl HPV.out.p1; have kp_9:w3.cell? ⟨pb,9,none⟩=some (p.en.hd.nxt:Value):=F3.out.cell 1 9 rfl HPV.out.p9; have kp_11:w3.cell? ⟨pb,11,none⟩=some (p.en.sum:Value):=F3.out.cell 1 11 rfl HPV.out.p11
 have kd_0:=(F3.out.blk 0 rfl).d0;have kd_2:=(F3.out.blk 0 rfl).d2;go_upto_region 9 with fail
 have HRM:=ι K3.out.2.2;have HKeep:Hid (∀ W,Below w3.heap.size w3 W→IAt W I m ic t∧W.ownsRow W1.heap.size 225 3 (.slice R D.length rc2) D.length (rcs D)):=ι (fun W hb=>⟨(K3.out.1 rfl).next hb,own_below K3.out.2.1 hb⟩);have HB3:=ι F3.out.b;have SZH:Hid ((Tryz.prog.info? 41).map (·.size)=some 11):=ι (by kernel_rfl);have hlt3:db<w3.heap.size∧pb<w3.heap.size∧rb<w3.heap.size:=⟨F3.out.lt 0 rfl,F3.out.lt 1 rfl,F3.out.lt 2 rfl⟩
 go_cut [11] (fun s wx=>∃ hb,s= .pointer (some ⟨hb,0,none⟩)∧w3.heap.size≤hb∧Live w3 wx [(hb,41,#[.int .i64 (p.en.hd.hgt+1),p.en.hd.epo,view,LB,p.en.sum,stt,ε,ε,p.en.hd.nxt,p.en.hd.nxt,ν])]∧Live w wx [(hb,41,#[.int .i64 (p.en.hd.hgt+1),p.en.hd.epo,view,LB,p.en.sum,stt,ε,ε,p.en.hd.nxt,p.en.hd.nxt,ν]),(db,181,#[.slice I m ic,.slice R D.length rc2,.slice B M.length bd]),(pb,46,PV),(rb,46,(θ [ν,ε,ν,ν,ν,ν,ν]))])
 case first=>
  refine wp_region_held_drew (S:=fun w'=>w'.cell? ⟨pb,0,none⟩=some (.int .i64 p.en.hd.hgt)∧w'.cell? ⟨pb,1,none⟩=some (.int .i64 p.en.hd.epo)∧w'.cell? ⟨pb,9,none⟩=some (p.en.hd.nxt:Value)∧w'.cell? ⟨pb,11,none⟩=some (p.en.sum:Value)∧w'.cell? ⟨db,0,none⟩=some (.slice I m ic)∧w'.cell? ⟨db,2,none⟩=some (.slice B M.length bd)) (by kernel_rfl) ⟨kp_0,kp_1,kp_9,kp_11,kd_0,kd_2⟩ (fun hHeld=> ?_);have F:=live_drew F3;have FX:=live_drew FX;generalize w3.drew=Wd at F FX hHeld ⊢;refine tk 0 57 rfl ?_;try go_frame
  refine tk 1 58 rfl ?_;try go_frame
  refine tk 2 59 rfl ?_;try go_frame
  refine tk 3 60 rfl ?_;try go_frame
  refine tk 4 61 rfl ?_;try go_frame
  refine tk 5 62 rfl ?_;try go_frame
  refine tk 6 63 rfl ?_;try go_frame
  refine tk 7 64 rfl ?_;try go_frame
  refine tk 8 65 rfl ?_;try go_frame
  refine tk 9 66 rfl ?_;try go_frame
  refine tk 10 67 rfl ?_;try go_frame
  refine tk 11 68 rfl ?_;try go_frame
  refine tk 12 69 rfl ?_;try go_frame
  refine tk 13 70 rfl ?_;try go_frame
  refine tk 14 71 rfl ?_;try go_frame
  refine tk 15 72 rfl ?_;try go_frame
  refine tk 17 74 rfl ?_;try go_frame
  refine tk 18 75 rfl ?_;try go_frame
  refine tk 19 76 rfl ?_;try go_frame
  refine tk 20 77 rfl ?_;try go_frame
  refine tk 21 78 rfl ?_;try go_frame
  refine tk 22 79 rfl ?_;try go_frame
  refine rd2 16 24 rfl rfl (fun K hK=> ?_) (fun K hK=> ?_)
  ·skip
   go_simp
   (with_reducible refine (HRt.out _ ?_).mono ?_)
   ·exact FX.out.b
   rintro e Wc ⟨rfl,hb⟩;have F:=Live.hb F hb;have FX:=Live.hb FX hb;clear hb;go_simp
   refine hK.out _ _ ⟨F.out.cell 1 0 rfl HPV.out.p0,F.out.cell 1 1 rfl HPV.out.p1,F.out.cell 1 9 rfl HPV.out.p9,F.out.cell 1 11 rfl HPV.out.p11,F.out.cell 0 0 rfl rfl,F.out.cell 0 2 rfl rfl⟩ (fun hHeld=> ?_);clear hK K;try go_frame
   refine tk 23 80 rfl ?_;try go_frame
   refine rd1 24 rfl (fun K hK=> ?_);go_simp
   have hle:w3.heap.size≤Wc.heap.size:=FX.out.b.size;have F:=Live.ha F (θ [ν]) 41;have FX:=Live.ha FX (θ [ν]) 41;refine hK.out _ _ ⟨F.out.cell 2 0 rfl HPV.out.p0,F.out.cell 2 1 rfl HPV.out.p1,F.out.cell 2 9 rfl HPV.out.p9,F.out.cell 2 11 rfl HPV.out.p11,F.out.cell 1 0 rfl rfl,F.out.cell 1 2 rfl rfl⟩ (fun hHeld=> ?_);clear hK K;try go_frame
   generalize World.alloc Wc _=Wa at F FX hHeld ⊢;generalize Wc.heap.size=hb at F FX hle ⊢;refine rd1 25 rfl (fun K hK=> ?_);refine step_store_all rfl 41 _ _ rfl hb 0 #[.int .i64 (p.en.hd.hgt+1),p.en.hd.epo,view,LB,p.en.sum,stt,ε,ε,p.en.hd.nxt,p.en.hd.nxt,ν] rfl rfl (F.out.there 0 11 rfl (Nat.le_refl _)) SZH.out (by simp [Value.oneCell']) ?_;have F9:Hid (Live w (Wa.setCells hb 0 (#[.int .i64 (p.en.hd.hgt+1),p.en.hd.epo,view,LB,p.en.sum,stt,ε,ε,p.en.hd.nxt,p.en.hd.nxt,ν]:Array Value).toList) [(hb,41,#[.int .i64 (p.en.hd.hgt+1),p.en.hd.epo,view,LB,p.en.sum,stt,ε,ε,p.en.hd.nxt,p.en.hd.nxt,ν]),(db,181,#[.slice I m ic,.slice R D.length rc2,.slice B M.length bd]),(pb,46,PV),(rb,46,(θ [ν,ε,ν,ν,ν,ν,ν]))]):=Live.hall F 0 _ rfl rfl;have FX9:Hid (Live w3 (Wa.setCells hb 0 (#[.int .i64 (p.en.hd.hgt+1),p.en.hd.epo,view,LB,p.en.sum,stt,ε,ε,p.en.hd.nxt,p.en.hd.nxt,ν]:Array Value).toList) [(hb,41,#[.int .i64 (p.en.hd.hgt+1),p.en.hd.epo,view,LB,p.en.sum,stt,ε,ε,p.en.hd.nxt,p.en.hd.nxt,ν])]):=Live.hall FX 0 _ rfl rfl;generalize Wa.setCells hb 0 (#[.int .i64 (p.en.hd.hgt+1),p.en.hd.epo,view,LB,p.en.sum,stt,ε,ε,p.en.hd.nxt,p.en.hd.nxt,ν]:Array Value).toList=W9 at F9 FX9 ⊢;exact z_20
  ·skip
   go_simp
   have hle:w3.heap.size≤Wd.heap.size:=FX.out.b.size;have F:=Live.ha F (θ [ν]) 41;have FX:=Live.ha FX (θ [ν]) 41;refine hK.out _ _ ⟨F.out.cell 2 0 rfl HPV.out.p0,F.out.cell 2 1 rfl HPV.out.p1,F.out.cell 2 9 rfl HPV.out.p9,F.out.cell 2 11 rfl HPV.out.p11,F.out.cell 1 0 rfl rfl,F.out.cell 1 2 rfl rfl⟩ (fun hHeld=> ?_);clear hK K;try go_frame
   generalize World.alloc Wd _=Wa at F FX hHeld ⊢;generalize Wd.heap.size=hb at F FX hle ⊢;refine rd1 16 rfl (fun K hK=> ?_);go_simp
   (with_reducible refine (HRt.out _ ?_).mono ?_)
   ·exact FX.out.b
   rintro e Wc ⟨rfl,hb⟩;have F:=Live.hb F hb;have FX:=Live.hb FX hb;clear hb;go_simp
   refine hK.out _ _ ⟨F.out.cell 2 0 rfl HPV.out.p0,F.out.cell 2 1 rfl HPV.out.p1,F.out.cell 2 9 rfl HPV.out.p9,F.out.cell 2 11 rfl HPV.out.p11,F.out.cell 1 0 rfl rfl,F.out.cell 1 2 rfl rfl⟩ (fun hHeld=> ?_);clear hK K;try go_frame
   refine tk 23 80 rfl ?_;try go_frame
   refine rd1 25 rfl (fun K hK=> ?_);refine step_store_all rfl 41 _ _ rfl hb 0 #[.int .i64 (p.en.hd.hgt+1),p.en.hd.epo,view,LB,p.en.sum,stt,ε,ε,p.en.hd.nxt,p.en.hd.nxt,ν] rfl rfl (F.out.there 0 11 rfl (Nat.le_refl _)) SZH.out (by simp [Value.oneCell']) ?_;have F9:Hid (Live w (Wc.setCells hb 0 (#[.int .i64 (p.en.hd.hgt+1),p.en.hd.epo,view,LB,p.en.sum,stt,ε,ε,p.en.hd.nxt,p.en.hd.nxt,ν]:Array Value).toList) [(hb,41,#[.int .i64 (p.en.hd.hgt+1),p.en.hd.epo,view,LB,p.en.sum,stt,ε,ε,p.en.hd.nxt,p.en.hd.nxt,ν]),(db,181,#[.slice I m ic,.slice R D.length rc2,.slice B M.length bd]),(pb,46,PV),(rb,46,(θ [ν,ε,ν,ν,ν,ν,ν]))]):=Live.hall F 0 _ rfl rfl;have FX9:Hid (Live w3 (Wc.setCells hb 0 (#[.int .i64 (p.en.hd.hgt+1),p.en.hd.epo,view,LB,p.en.sum,stt,ε,ε,p.en.hd.nxt,p.en.hd.nxt,ν]:Array Value).toList) [(hb,41,#[.int .i64 (p.en.hd.hgt+1),p.en.hd.epo,view,LB,p.en.sum,stt,ε,ε,p.en.hd.nxt,p.en.hd.nxt,ν])]):=Live.hall FX 0 _ rfl rfl;generalize Wc.setCells hb 0 (#[.int .i64 (p.en.hd.hgt+1),p.en.hd.epo,view,LB,p.en.sum,stt,ε,ε,p.en.hd.nxt,p.en.hd.nxt,ν]:Array Value).toList=W9 at F9 FX9 ⊢;exact z_20
 case rest=>
 obtain ⟨hb,rfl,hle,hFX,hF⟩:=hcut;have FX5:=ι hFX;have F5:=ι hF;clear hFX hF F3 FX hLB2 HRt K3 kp_0 kp_1 kp_9 kp_11 kd_0 kd_2 hwg;obtain ⟨EP,hEP⟩:∃ e,(if p.en.hd.last then p.en.hd.epo+1 else p.en.hd.epo)=e:=⟨_,rfl⟩
 have HEP:=ι hEP;have hwe:IntKind.i64.wrap (p.en.hd.epo+1)=p.en.hd.epo+1:=IntWalk.i64_in _ (by have:=HOne.out.ok.e0; have:=HOne.out.ok.e1; omega);clear hEP;have kp_3:wc.cell? ⟨pb,3,none⟩=some (.bool p.en.hd.last):=F5.out.cell 2 3 rfl HPV.out.p3;go_upto_if 83 with fail
 go_cut [] (fun wx=>Live w3 wx [(hb,41,#[.int .i64 (p.en.hd.hgt+1),EP,view,LB,p.en.sum,stt,ε,ε,p.en.hd.nxt,p.en.hd.nxt,ν])]∧Live w wx [(hb,41,#[.int .i64 (p.en.hd.hgt+1),EP,view,LB,p.en.sum,stt,ε,ε,p.en.hd.nxt,p.en.hd.nxt,ν]),(db,181,#[.slice I m ic,.slice R D.length rc2,.slice B M.length bd]),(pb,46,PV),(rb,46,(θ [ν,ε,ν,ν,ν,ν,ν]))])
 case first=>
  cases hl:p.en.hd.last with
  |false=>
   have he:Hid (p.en.hd.epo=EP):=ι (by rw [←HEP.out,hl]; rfl);rw [he.out] at F5 FX5;go_wp2_with fail
   go_meet
   exact ⟨FX5.out,F5.out⟩
  |true=>
   have he:Hid (p.en.hd.epo+1=EP):=ι (by rw [←HEP.out,hl]; rfl);have kh_1:=(F5.out.blk 0 rfl).d1;have fz1:=F5.out.frozen 0 1 rfl;have F6:=Live.hs F5 0 1 (.int .i64 (p.en.hd.epo+1)) rfl;have FX6:=Live.hs FX5 0 1 (.int .i64 (p.en.hd.epo+1)) rfl;simp only [List.set_cons_zero,List.setIfInBounds_toArray,List.set_cons_succ] at F6 FX6;go_wp2_with fail
   go_meet
   rw [he.out] at F6 FX6
   (try rw [he.out])
   exact ⟨FX6.out,F6.out⟩
 case rest=>
 have FX6:=ι hcut.1;have F6:=ι hcut.2;clear hcut F5 FX5 kp_3 hwe;obtain ⟨N,hN⟩:∃ x,(if M.isEmpty then p.en.nxt else M)=x:=⟨_,rfl⟩
 obtain ⟨NX,hNX⟩:∃ x,(if M.isEmpty then p.en.hd.nxt else Pw.digM M)=x:=⟨_,rfl⟩
 have HN:=ι (And.intro hN hNX);clear hN hNX;have HM:Hid ((M= []∧LB=false∧N=p.en.nxt∧NX=p.en.hd.nxt)∨(M≠ []∧Pw.okM M=true∧LB=true∧N=M∧NX=Pw.digM M)):=ι (by
  rcases (HGd.out rfl).2.1 with e|e
  ·refine .inl ⟨e,?_,?_,?_⟩
   ·rw [←HLB.out,e]; rfl
   ·rw [←HN.out.1,e]; rfl
   ·rw [←HN.out.2,e]; rfl
  ·have hne:M≠ []:=by intro e2; rw [e2] at e; have:=Pw.okM_len e; simp at this
   have hie:M.isEmpty=false:=Led.isEmpty_false hne;refine .inr ⟨hne,e,?_,?_,?_⟩
   ·rw [←HLB.out]; exact decide_eq_true (List.length_pos_iff.2 hne)
   ·rw [←HN.out.1,hie]; rfl
   ·rw [←HN.out.2,hie]; rfl)
 have HDg:Hid (Pw.okM M=true→∀ W,Below w3.heap.size w3 W→Calls Tryz.prog 72 #[.slice B M.length bd] W (Ret W (.string ⟨(Pw.digM M).toArray⟩))):=ι (fun e W hW=>ref05_Digest W M (fun x hx=>by have:=(Pw.okM_all e x hx).1; omega) B bd ((HRM.out.below (HB3.out.nxt hW)).more (HB3.out.nxt hW).size));have kp_16:wc.cell? ⟨pb,16,none⟩=some (.slice p.nA p.en.nxt.length p.nc):=F6.out.cell 2 16 rfl HPV.out.p16;have kh_3:=(F6.out.blk 0 rfl).d3;have kd_2:=(F6.out.blk 1 rfl).d2;go_upto_if 91 with fail
 go_cut [12] (fun s wx=>∃ NA NC,s= .slice NA N.length NC∧Reads w w.heap.size 2 NA N.length (mcells N)∧Live w3 wx [(hb,41,#[.int .i64 (p.en.hd.hgt+1),EP,view,LB,p.en.sum,stt,ε,ε,p.en.hd.nxt,NX,ν])]∧Live w wx [(hb,41,#[.int .i64 (p.en.hd.hgt+1),EP,view,LB,p.en.sum,stt,ε,ε,p.en.hd.nxt,NX,ν]),(db,181,#[.slice I m ic,.slice R D.length rc2,.slice B M.length bd]),(pb,46,PV),(rb,46,(θ [ν,ε,ν,ν,ν,ν,ν]))])
 case first=>
  rcases HM.out with ⟨hM,rfl,rfl,rfl⟩|⟨hM,hok,rfl,rfl,rfl⟩
  ·go_wp2_with fail
   go_meet
   exact ⟨_,_,rfl,HPk.out.nx,FX6.out,F6.out⟩
  ·have HDgM:=ι (HDg.out hok _ FX6.out.b);clear hM hok;go_wp2_with fail
   refine HDgM.out.mono ?_;rintro e w7 ⟨rfl,hb7⟩;have F7:=Live.hb F6 hb7;have FX7:=Live.hb FX6 hb7;clear hb7;have fz9:=F7.out.frozen 0 9 rfl;have kh_9:=(F7.out.blk 0 rfl).d9;have F8:=Live.hs F7 0 9 (.string ⟨(Pw.digM N).toArray⟩) rfl;have FX8:=Live.hs FX7 0 9 (.string ⟨(Pw.digM N).toArray⟩) rfl;simp only [List.set_cons_zero,List.setIfInBounds_toArray,List.set_cons_succ] at F8 FX8;go_wp2_with fail
   go_meet
   exact ⟨_,_,rfl,HRM.out,FX8.out,F8.out⟩
 case rest=>
 obtain ⟨NA,NC,rfl,hRN,hFX,hF⟩:=hcut;have FX9:=ι hFX;have F9:=ι hF;have RN:=ι hRN;clear hRN hFX hF F6 FX6 kp_16 kh_3 kd_2 HDg HM;have HRr:Hid (∀ W,Below w3.heap.size w3 W→Calls Tryz.prog 109 #[.slice R D.length rc2] W (RRootEnd W (treeF D))):=ι (fun W hW=>ref17_Root D (HGd.out rfl).2.2.2 W R rc2 (Reads.of_own (HKeep.out W hW).2));have HTr:Hid (∀ W,Below w.heap.size w W→Calls Tryz.prog 71 #[.slice xA tl.length xc] W fun e w'=>e= .returned (.tuple #[.string ⟨(Ex.rootX (tl.map (·.1))).toArray⟩,ζ])∧Below W.heap.size W w'):=ι (fun W hW=>by
  have h:=ref15_Root W xA xc tl (HTT.out.next hW);unfold TxRootEnd at h;rw [(HGd.out rfl).2.2.1] at h;exact h)
 obtain ⟨RR,hRR⟩:∃ x,Led.rootR D=x:=⟨_,rfl⟩
 have HRR2:Hid ((if (treeF D).2=0 then Trie.sumT (treeF D).1 else [])=RR):=ι (by rw [←hRR]; rfl);have HRR:=ι hRR;clear hRR;unfold RRootEnd at HRr;rw [HRR2.out] at HRr;generalize (treeF D).2=rcd at HRr;obtain ⟨TR,hTR⟩:∃ x,Ex.rootX (tl.map (·.1))=x:=⟨_,rfl⟩
 rw [hTR] at HTr;have HTR:=ι hTR;clear hTR HRR2;have kd_1:=(F9.out.blk 1 rfl).d1;go_wp2_with fail
 refine (HRr.out _ FX9.out.b).mono ?_;rintro e w10 ⟨rfl,hb10⟩;have F10:=Live.hb F9 hb10;have FX10:=Live.hb FX9 hb10;clear hb10 F9 FX9 kd_1 HRr;have fz6:=F10.out.frozen 0 6 rfl;have kh_6:=(F10.out.blk 0 rfl).d6;go_upto_region 17 with fail
 have F11:=Live.hs F10 0 6 (.string ⟨RR.toArray⟩) rfl;have FX11:=Live.hs FX10 0 6 (.string ⟨RR.toArray⟩) rfl;simp only [List.set_cons_zero,List.setIfInBounds_toArray,List.set_cons_succ] at F11 FX11;generalize w10.setCell ⟨hb,6,none⟩ (.string ⟨RR.toArray⟩)=w11 at F11 FX11 ⊢;clear F10 FX10 fz6 kh_6;go_wp2_with fail
 refine (HTr.out _ F11.out.b).mono ?_;rintro e w12 ⟨rfl,hb12⟩;have F12:=Live.hb F11 hb12;have FX12:=Live.hb FX11 hb12;clear hb12 F11 FX11 HTr;have fz7:=F12.out.frozen 0 7 rfl;have kh_7:=(F12.out.blk 0 rfl).d7;go_upto_region 18 with fail
 have F13:=Live.hs F12 0 7 (.string ⟨TR.toArray⟩) rfl;have FX13:=Live.hs FX12 0 7 (.string ⟨TR.toArray⟩) rfl;simp only [List.set_cons_zero,List.setIfInBounds_toArray,List.set_cons_succ] at F13 FX13;generalize w12.setCell ⟨hb,7,none⟩ (.string ⟨TR.toArray⟩)=w13 at F13 FX13 ⊢;clear F12 FX12 fz7 kh_7;have kh_0:=(F13.out.blk 0 rfl).d0;have HLk:=ι (fun W=>refskip_Links_all (p.en.hd.hgt+1) W);simp only [linksV_eq] at HLk;have HLt:Hid (∀ x∈Hd.linksH (p.en.hd.hgt+1),x<l.length):=ι (fun x hx=>by
  have e:p.en.hd.hgt+1=((n+1:Nat):Int):=by rw [HOne.out.hgt]; rfl
  rw [e] at hx
  have:=Led.linksH_lt x hx
  have:=HWf.out.1
  omega)
 have HL22:=ι (Hd.linksH_len (p.en.hd.hgt+1));obtain ⟨lk,hlk⟩:∃ x,Hd.linksH (p.en.hd.hgt+1)=x:=⟨_,rfl⟩
 have HLK:=ι hlk;rw [hlk] at HLk HLt HL22;clear hlk;go_wp2_with fail
 refine (HLk.out _).mono ?_;rintro e w14 ⟨v14,rfl,own14,hb14⟩;obtain ⟨LA,lc,rfl,hRL,_,_⟩:=own_form own14;have F14:=Live.hb F13 hb14;have FX14:=Live.hb FX13 hb14;have hlw:w3.heap.size≤w13.heap.size:=FX13.out.b.size;have HOL:=ι own14;clear hb14 F13 FX13 kh_0 hRL own14 HLk;have LI0:Hid (LoopI w w3 w14 [(db,181,#[.slice I m ic,.slice R D.length rc2,.slice B M.length bd]),(pb,46,PV),(rb,46,(θ [ν,ε,ν,ν,ν,ν,ν]))] hb [.int .i64 (p.en.hd.hgt+1),EP,view,LB,p.en.sum,stt,RR,TR,p.en.hd.nxt,NX] [] none 0):=ι ⟨World.ownsRow_nil _ _ _ _,FX14.out,F14.out⟩;go_wp2_with fail
 refine make_loop w w3 w14 HB3.out l ad off c HLL.out lk HLt.out HL22.out LA lc _ HOL.out [(db,181,#[.slice I m ic,.slice R D.length rc2,.slice B M.length bd]),(pb,46,PV),(rb,46,(θ [ν,ε,ν,ν,ν,ν,ν]))] (by intro y hy; simp only [List.mem_cons,List.not_mem_nil,or_false] at hy; rcases hy with rfl|rfl|rfl; (· show (9:Nat)≠181; decide); (· show (9:Nat)≠46; decide); (· show (9:Nat)≠46; decide)) hb [.int .i64 (p.en.hd.hgt+1),EP,view,LB,p.en.sum,stt,RR,TR,p.en.hd.nxt,NX] rfl LI0.out _ _ _ _ _ _ _ _ ?_ _ _ _ _ _ _ _ _ _ _ _ _ _ _ _ _ _ _ _ _ _ _ _ _ _ _ _ _ _ _ _ _ _ _ _ _ _ _ _ _ _ _ _ _ _ _ _ _ _ _ _ _ _ _ _ _ _ _ _ _ _ _ _ _ _ _ _ _ _ _ _ _ _ _ _ _ _ _ _ _ _ _ _ _ _ _ _ _ _ _ _ _ _ _ _ _ _ _ _ _ _ _ _ _ _ _ _ _ _ _ _ _ _ _ _ _ _ _ _ _ _ _ _ _ _ _ _ _ _ _ _ _ _;intro s1 s3 s4 s5 s15 s16 s17 s18 s19 s20 s21 s22 s23 s24 s25 s26 s27 s28 s29 s30 s31 s32 s33 s34 s35 s36 s37 s38 s39 s40 s41 s42 s43 s44 s45 s46 s47 s48 s49 s50 s51 s52 s53 s54 s55 s56 s57 s58 s59 s60 s61 s62 s63 s64 s65 s66 s67 s68 s69 s70 s71 s72 s73 s74 s75 s76 s77 s78 s79 s80 s81 s82 s83 s84 s85 s86 s87 s88 s89 s90 s91 s92 s93 s94 s95 s96 s97 s98 s99 s100 s101 s102 s103 s104 s105 s106 s107 s108 s109 s110 s111 s112 s113 s114 s115 s117 s118 s119 s120 s121 s122 s123 s124 s125 s126 s127 s128 s129 s130 s131 s132 s133 s134 s135 s136 s137 s138 s139 s140 s141 s142 s143 w15 S SA SC hS hLI;have F15:Hid (Live w w15 [(hb,41,#[.int .i64 (p.en.hd.hgt+1),EP,view,LB,p.en.sum,stt,RR,TR,p.en.hd.nxt,NX,.slice SA S.length SC]),(db,181,#[.slice I m ic,.slice R D.length rc2,.slice B M.length bd]),(pb,46,PV),(rb,46,(θ [ν,ε,ν,ν,ν,ν,ν]))]):=ι hLI.f;have FX15:Hid (Live w3 w15 [(hb,41,#[.int .i64 (p.en.hd.hgt+1),EP,view,LB,p.en.sum,stt,RR,TR,p.en.hd.nxt,NX,.slice SA S.length SC])]):=ι hLI.f3;have HSO:=ι hLI.own;have HSe:=ι hS;clear hLI hS LI0 F14 FX14 HOL HLt;go_upto_region 23 with fail
 rename_i KK hKK;obtain ⟨hgd,hMk,henc,hrc⟩:=HGd.out (by first|exact trivial|rfl);have hpp:(l.map (·.en))[n]'(by rw [List.length_map,HWf.out.1]; omega)=p.en:=by
  have h:=HWf.out.2.2;have hl:n<l.length:=by rw [HWf.out.1]; omega
  rw [List.getElem?_eq_getElem hl] at h;rw [List.getElem_map,Option.some.inj h]
 obtain ⟨TX,hTX⟩:∃ x,tl.map (·.1)=x:=⟨_,rfl⟩
 have HTX:=ι hTX;have hrx:=HTR.out;have hcc:=HCe.out.trans HC2.out;simp only [hTX] at hrx hcc;clear hTX;have hone:=(Led.nextE_one HWf.out.2.1 (p:=p.en) (n:=n) (by rw [List.length_map,HWf.out.1]) hpp (view:=view) (txs:=TX) (t:=t) (R:=D) (M:=M) hcc hgd.1 hgd.2 hMk).1.ok;have h8:(Hd.linksH (p.en.hd.hgt+1)).map (Led.sumAt (l.map (·.en)))=S:=by rw [HLK.out]; exact HSe.out.symm
 have hne:=Led.nextE_eq (l.map (·.en)) p.en view TX t D M EP LB stt RR TR N NX S HEP.out HLB.out HSt.out HRR.out hrx HN.out.1 HN.out.2 h8;rw [hne] at hone;have hok:=okH_of hone;have HEn:=ι hne;clear hgd hMk henc hrc hpp hne hone hrx hcc h8;obtain ⟨HS,hHS⟩:∃ x,Hd.dig (⟨p.en.hd.hgt+1,EP,view,LB,p.en.sum,stt,RR,TR,p.en.hd.nxt,NX,S⟩:Hd)=x:=⟨_,rfl⟩
 have HHd:Hid (∀ W,Reads W W.heap.size 1 SA S.length (strv S)→Calls Tryz.prog 74 #[.agg #[.int .i64 (p.en.hd.hgt+1),EP,view,LB,p.en.sum,stt,RR,TR,p.en.hd.nxt,NX,.slice SA S.length SC]] W (Ret W (.string ⟨HS.toArray⟩))):=ι (fun W hr=>by
  have h:=ref19_Digest W (⟨p.en.hd.hgt+1,EP,view,LB,p.en.sum,stt,RR,TR,p.en.hd.nxt,NX,S⟩:Hd) hok SA SC hr;rw [hHS] at h;exact h)
 rw [hHS] at HEn;clear hok hHS;refine wp_region_held_drew (S:=fun w'=>w'.cell? ⟨hb,0,none⟩=some (.int .i64 (p.en.hd.hgt+1))∧w'.cell? ⟨hb,1,none⟩=some (.int .i64 EP)∧w'.cell? ⟨hb,2,none⟩=some (.int .i64 view)∧w'.cell? ⟨hb,3,none⟩=some (.bool LB)∧w'.cell? ⟨hb,4,none⟩=some (p.en.sum:Value)∧w'.cell? ⟨hb,5,none⟩=some (stt:Value)∧w'.cell? ⟨hb,6,none⟩=some (RR:Value)∧w'.cell? ⟨hb,7,none⟩=some (TR:Value)∧w'.cell? ⟨hb,8,none⟩=some (p.en.hd.nxt:Value)∧w'.cell? ⟨hb,9,none⟩=some (NX:Value)∧w'.cell? ⟨hb,10,none⟩=some (.slice SA S.length SC)∧w'.cell? ⟨db,0,none⟩=some (.slice I m ic)∧w'.cell? ⟨db,1,none⟩=some (.slice R D.length rc2)∧w'.cell? ⟨pb,16,none⟩=some (.slice p.nA p.en.nxt.length p.nc)) (by kernel_rfl) (by have F:=live_drew F15; exact ⟨F.out.cell 0 0 rfl rfl,F.out.cell 0 1 rfl rfl,F.out.cell 0 2 rfl rfl,F.out.cell 0 3 rfl rfl,F.out.cell 0 4 rfl rfl,F.out.cell 0 5 rfl rfl,F.out.cell 0 6 rfl rfl,F.out.cell 0 7 rfl rfl,F.out.cell 0 8 rfl rfl,F.out.cell 0 9 rfl rfl,F.out.cell 0 10 rfl rfl,F.out.cell 1 0 rfl rfl,F.out.cell 1 1 rfl rfl,F.out.cell 2 16 rfl HPV.out.p16⟩) (fun hHeld=> ?_);have F:=live_drew F15;have FX:=live_drew FX15;have FB:=live_drew (ι (Live.start w15));generalize w15.drew=Wd at F FX FB hHeld ⊢;refine tk 0 132 rfl ?_;try go_frame
 refine tk 1 133 rfl ?_;try go_frame
 refine tk 3 135 rfl ?_;try go_frame
 refine tk 4 136 rfl ?_;try go_frame
 refine tk 5 137 rfl ?_;try go_frame
 refine tk 6 138 rfl ?_;try go_frame
 refine tk 7 139 rfl ?_;try go_frame
 refine tk 8 140 rfl ?_;try go_frame
 refine tk 9 141 rfl ?_;try go_frame
 refine tk 10 142 rfl ?_;try go_frame
 refine rd1 2 rfl (fun K hK=> ?_);have RS:=Reads.of_own (own_below HSO.out FB.out.b);go_simp
 (with_reducible refine (HHd.out _ ?_).mono ?_)
 ·exact RS
 rintro e Wc ⟨rfl,hb⟩;have F:=Live.hb F hb;have FX:=Live.hb FX hb;have FB:=Live.hb FB hb;clear hb RS;go_simp
 refine hK.out _ _ ⟨F.out.cell 0 0 rfl rfl,F.out.cell 0 1 rfl rfl,F.out.cell 0 2 rfl rfl,F.out.cell 0 3 rfl rfl,F.out.cell 0 4 rfl rfl,F.out.cell 0 5 rfl rfl,F.out.cell 0 6 rfl rfl,F.out.cell 0 7 rfl rfl,F.out.cell 0 8 rfl rfl,F.out.cell 0 9 rfl rfl,F.out.cell 0 10 rfl rfl,F.out.cell 1 0 rfl rfl,F.out.cell 1 1 rfl rfl,F.out.cell 2 16 rfl HPV.out.p16⟩ (fun hHeld=> ?_);clear hK K;try go_frame
 refine tk 11 143 rfl ?_;try go_frame
 refine rd1 12 rfl (fun K hK=> ?_);have KI:=(HKeep.out _ FX.out.b).1;have KR:=(HKeep.out _ FX.out.b).2;have KS:=own_below HSO.out FB.out.b;have BR:=F.out.blk 3 rfl;refine step_store_all rfl 46 _ _ rfl rb 0 #[.int .i64 (p.en.hd.hgt+1),EP,view,LB,p.en.sum,stt,RR,TR,p.en.hd.nxt,NX,.slice SA S.length SC,HS,.slice xA tl.length xc,.slice R D.length rc2,.slice I m ic,.slice p.nA p.en.nxt.length p.nc,.slice NA N.length NC] rfl rfl (F.out.there 3 17 rfl (by decide)) SZE.out (by simp [Value.oneCell']) ?_;have F9:Hid (Live w (Wc.setCells rb 0 (#[.int .i64 (p.en.hd.hgt+1),EP,view,LB,p.en.sum,stt,RR,TR,p.en.hd.nxt,NX,.slice SA S.length SC,HS,.slice xA tl.length xc,.slice R D.length rc2,.slice I m ic,.slice p.nA p.en.nxt.length p.nc,.slice NA N.length NC]:Array Value).toList) [(hb,41,#[.int .i64 (p.en.hd.hgt+1),EP,view,LB,p.en.sum,stt,RR,TR,p.en.hd.nxt,NX,.slice SA S.length SC]),(db,181,#[.slice I m ic,.slice R D.length rc2,.slice B M.length bd]),(pb,46,PV),(rb,46,#[.int .i64 (p.en.hd.hgt+1),EP,view,LB,p.en.sum,stt,RR,TR,p.en.hd.nxt,NX,.slice SA S.length SC,HS,.slice xA tl.length xc,.slice R D.length rc2,.slice I m ic,.slice p.nA p.en.nxt.length p.nc,.slice NA N.length NC])]):=Live.hall F 3 _ rfl rfl;have HG:Wc.grownBy (Wc.setCells rb 0 (#[.int .i64 (p.en.hd.hgt+1),EP,view,LB,p.en.sum,stt,RR,TR,p.en.hd.nxt,NX,.slice SA S.length SC,HS,.slice xA tl.length xc,.slice R D.length rc2,.slice I m ic,.slice p.nA p.en.nxt.length p.nc,.slice NA N.length NC]:Array Value).toList) (some rb):=grown_setAll _ 0 _ (World.grownBy.refl _ _);generalize Wc.setCells rb 0 (#[.int .i64 (p.en.hd.hgt+1),EP,view,LB,p.en.sum,stt,RR,TR,p.en.hd.nxt,NX,.slice SA S.length SC,HS,.slice xA tl.length xc,.slice R D.length rc2,.slice I m ic,.slice p.nA p.en.nxt.length p.nc,.slice NA N.length NC]:Array Value).toList=W9 at F9 HG ⊢;have KI9:=ι (KI.grownO HG (fun k e=>by injection e with e; subst e; exact ⟨_,_,BR,by decide⟩));have KR9:=ι (own_keepB KR HG BR (by decide));have KS9:=ι (own_keepB KS HG BR (by decide));clear KI KR KS BR HG;refine hK.out _ _ ⟨F9.out.cell 0 0 rfl rfl,F9.out.cell 0 1 rfl rfl,F9.out.cell 0 2 rfl rfl,F9.out.cell 0 3 rfl rfl,F9.out.cell 0 4 rfl rfl,F9.out.cell 0 5 rfl rfl,F9.out.cell 0 6 rfl rfl,F9.out.cell 0 7 rfl rfl,F9.out.cell 0 8 rfl rfl,F9.out.cell 0 9 rfl rfl,F9.out.cell 0 10 rfl rfl,F9.out.cell 1 0 rfl rfl,F9.out.cell 1 1 rfl rfl,F9.out.cell 2 16 rfl HPV.out.p16⟩ (fun hHeld=> ?_);clear hK K;try go_frame
 refine rd1 13 rfl (fun K hK=> ?_);go_simp
 refine hK.out _ _ ⟨F9.out.cell 0 0 rfl rfl,F9.out.cell 0 1 rfl rfl,F9.out.cell 0 2 rfl rfl,F9.out.cell 0 3 rfl rfl,F9.out.cell 0 4 rfl rfl,F9.out.cell 0 5 rfl rfl,F9.out.cell 0 6 rfl rfl,F9.out.cell 0 7 rfl rfl,F9.out.cell 0 8 rfl rfl,F9.out.cell 0 9 rfl rfl,F9.out.cell 0 10 rfl rfl,F9.out.cell 1 0 rfl rfl,F9.out.cell 1 1 rfl rfl,F9.out.cell 2 16 rfl HPV.out.p16⟩ (fun hHeld=> ?_);clear hK K;try go_frame
 refine wpAnyH_done (by kernel_rfl) ?_ _;clear hHeld;refine hKK _ _ (wp_ret ?_);have hr:=run_loadVar_mid (P:=Tryz.prog) W9 rb 0 46 [.int .i64 (p.en.hd.hgt+1),EP,view,LB,p.en.sum,stt,RR,TR,p.en.hd.nxt,NX,.slice SA S.length SC,HS,.slice xA tl.length xc,.slice R D.length rc2,.slice I m ic,.slice p.nA p.en.nxt.length p.nc,.slice NA N.length NC] _ (range_of_blk (F9.out.blk 3 rfl)) Tryz.underlying46 rfl SZE.out;refine bodyPost_ret (v:= .tuple #[.agg #[.int .i64 (p.en.hd.hgt+1),EP,view,LB,p.en.sum,stt,RR,TR,p.en.hd.nxt,NX,.slice SA S.length SC,HS,.slice xA tl.length xc,.slice R D.length rc2,.slice I m ic,.slice p.nA p.en.nxt.length p.nc,.slice NA N.length NC],ζ]) (results_load_tmp _ _ _ _ Tryz.results75 _ rb rfl _ _ hr) rfl ?_;have B9:=F9.out.b;refine HPo.out ⟨⟨(⟨p.en.hd.hgt+1,EP,view,LB,p.en.sum,stt,RR,TR,p.en.hd.nxt,NX,S⟩:Hd),HS,TX,D,t,p.en.nxt,N⟩,tl,m,SA,SC,xA,xc,R,rc2,I,ic,p.nA,p.nc,NA,NC⟩ W9 HC2.out B9 ?_ ?_
 ·rw [HMk.out,HTX.out]; exact HEn.out.symm
 ·exact ⟨Reads.of_own KS9.out,HTT.out.next B9,HTX.out.symm,Reads.of_own KR9.out,KI9.out,(HPk.out.nx.below B9).more B9.size,(RN.out.below B9).more B9.size⟩
end
end Go.Proofs.YtdkiloganbhfkaaGreatDoor