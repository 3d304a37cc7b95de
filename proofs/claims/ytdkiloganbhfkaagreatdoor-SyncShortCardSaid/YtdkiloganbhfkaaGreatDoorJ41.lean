import Derived.Test.YtdkiloganbhfkaaGreatDoorJ32
set_option linter.unusedSimpArgs false
set_option linter.unusedVariables false
set_option maxHeartbeats 4000000
set_option maxRecDepth 100000
namespace Go.Proofs.YtdkiloganbhfkaaGreatDoor
section
open Go.RowKit Go.Instr
attribute [local go_sem] ba_get ByteArray.mk_append_mk
attribute [local go_sem ↓] Go.wp_at_zero Go.wp_at_succ
theorem head_range {w:World} {g t:Nat} {PV:Array Value} {p:EnM} (h:Blk w g t PV) (hp:PVs p PV):w.rangeAt g 0 (η p.en.hd [.slice p.kA p.en.hd.sk.length p.kc]):=fun j v hv=>by
 rw [Nat.zero_add,h.cell];rcases j with _|_|_|_|_|_|_|_|_|_|_|j
 ·rw [←Option.some.inj hv]; exact hp.p0
 ·rw [←Option.some.inj hv]; exact hp.p1
 ·rw [←Option.some.inj hv]; exact hp.p2
 ·rw [←Option.some.inj hv]; exact hp.p3
 ·rw [←Option.some.inj hv]; exact hp.p4
 ·rw [←Option.some.inj hv]; exact hp.p5
 ·rw [←Option.some.inj hv]; exact hp.p6
 ·rw [←Option.some.inj hv]; exact hp.p7
 ·rw [←Option.some.inj hv]; exact hp.p8
 ·rw [←Option.some.inj hv]; exact hp.p9
 ·rw [←Option.some.inj hv]; exact hp.p10
 ·simp at hv
abbrev AnsS (p:EnM) (pb cb:Nat) (v:Value) (w':World):Prop:=w'.cell? ⟨pb,15,none⟩=some (.slice p.sA p.en.set.length p.sc)∧w'.cell? ⟨pb,16,none⟩=some (.slice p.nA p.en.nxt.length p.nc)∧w'.rangeAt pb 0 (η p.en.hd [.slice p.kA p.en.hd.sk.length p.kc])∧w'.cell? ⟨cb,0,none⟩=some (p.en.sum:Value)∧w'.cell? ⟨cb,1,none⟩=some v
theorem AnsS.of {w W:World} {L:List (Nat × Nat × Array Value)} {p:EnM} {pb cb:Nat} {v:Value} {PV:Array Value} (F:Live w W L) (i:Nat) (h1:L[i]?=some (cb,56,#[.string ⟨p.en.sum.toArray⟩,v])) (h2:L[i+1]?=some (pb,46,PV)) (hp:PVs p PV):AnsS p pb cb v W:=
 ⟨F.cell (i+1) 15 h2 hp.p15,F.cell (i+1) 16 h2 hp.p16,head_range (F.blk (i+1) h2) hp,F.cell i 0 h1 rfl,F.cell i 1 h1 rfl⟩
def AnsEnd (w:World) (p:EnM) (j:Nat) (e:Ending) (w':World):Prop:=
 ∃ (hA:Option Addr) (hc:Nat) (sA:Option Addr) (sc:Nat) (nA:Option Addr) (nc:Nat) (gA:Option Addr) (gc:Nat),
  e= .returned (.agg #[ζ,j,.slice hA 1 hc,.slice sA p.en.set.length sc,.slice nA p.en.nxt.length nc,p.en.sum,.slice gA (p.en.set.map (·.1)).length gc,ν,ν,ε,ν])∧Below w.heap.size w w'
  ∧Reads w' w'.heap.size 11 hA 1 (hcell (p.en.hd,p.kA,p.kc))∧Reads w' w'.heap.size 2 sA p.en.set.length (mcells p.en.set)∧Reads w' w'.heap.size 2 nA p.en.nxt.length (mcells p.en.nxt)∧Reads w' w'.heap.size 1 gA (p.en.set.map (·.1)).length (strv (p.en.set.map (·.1)))∧(∀ a,hA=some a→w.heap.size≤a.block)∧(∀ a,sA=some a→w.heap.size≤a.block)∧(∀ a,nA=some a→w.heap.size≤a.block)∧(∀ a,gA=some a→w.heap.size≤a.block)
theorem z_31 {P:Prop} (h:P:=by
 refine tk 13 46 rfl ?_;try go_frame
 refine rd1 14 rfl (fun K hK=> ?_);refine AnI.store I rfl 60 _ _ rfl 3 rb 60 _ #[ζ,j,.slice (some ⟨hb,0,none⟩) 1 1,.slice A7 p.en.set.length c7,.slice A8 p.en.nxt.length c8,p.en.sum,.slice SA S.length SC,ν,ν,ε,ν] rfl rfl rfl rfl SZA.out (by simp [Value.oneCell']) ?_;intro W9 I9;refine hK.out _ _ (AnsS.of I9.f 1 rfl rfl HPV.out) (fun hHeld=> ?_);clear hK K hHeld I;try go_frame
 refine wpAnyH_done (by kernel_rfl) ?_ _;refine hKK _ _ (wp_ret ?_);refine bodyPost_ret (results_one_cell Tryz.results15 rfl (run_loadVar_mid (P:=Tryz.prog) W9 rb 0 60 [ζ,j,.slice (some ⟨hb,0,none⟩) 1 1,.slice A7 p.en.set.length c7,.slice A8 p.en.nxt.length c8,p.en.sum,.slice SA S.length SC,ν,ν,ε,ν] _ (range_of_blk (I9.f.blk 3 rfl)) Tryz.underlying60 rfl SZA.out)) rfl ?_;exact HE _ _ _ _ _ _ _ I9 (by simp) (by simp) (by simp)):P:=h
theorem z_32 {P:Prop} (h:P:=by
 try go_frame
 refine rd1 9 rfl (fun K hK=> ?_);refine step_append_row Wd 9 [nm] rfl _ _ 25 rfl w.heap.size 1 16 _ info_str Tryz.underlying25 rfl (by decide) (.slice SA S.length SC) S.length (strv S) rfl own 1 1 rfl rfl (by simp [Value.oneCell']) (by simp only [maxLen]; omega) (by omega) w.heap.size w F.out.b (Nat.le_refl _) F.out.b.size ?_;intro v4 w4 own4 hb4 hg4 _ _;obtain ⟨A4,c4,rfl,_,_,_⟩:=own_form own4;have F4:=Live.hp F own (Nat.le_refl _) (by intro y hy; simp only [List.mem_cons,List.not_mem_nil,or_false] at hy; rcases hy with rfl|rfl|rfl; (· show (9:Nat)≠56; decide); (· show (9:Nat)≠46; decide); (· show (9:Nat)≠60; decide)) hg4;refine hK.out _ _ ⟨F4.out.cell 1 15 rfl P15.out,R1.out _ F4.out.b⟩ (fun hHeld=> ?_);clear hK K;try go_frame
 refine tk 10 32 rfl ?_;try go_frame
 refine rd1 11 rfl (fun K hK=> ?_);have kh4:=F4.out.cell 0 1 rfl rfl;have fz4:=F4.out.frozen 0 1 rfl;go_simp
 have F5:=Live.hs F4 0 1 (.slice A4 (S.length+1) c4) rfl;have own5:=own4.kept (grown_cell (World.grownBy.refl w4 (some cb)) 1 (.slice A4 (S.length+1) c4)) (.inr (own_blk_ne own4 (F4.out.blk 0 rfl) (by decide)));simp only [List.set_cons_zero,List.setIfInBounds_toArray,List.set_cons_succ] at F5;generalize w4.setCell ⟨cb,1,none⟩ (.slice A4 (S.length+1) c4)=w5 at F5 own5 ⊢;refine hK.out _ _ ⟨F5.out.cell 1 15 rfl P15.out,R1.out _ F5.out.b⟩ (fun hHeld=> ?_);clear hK K;try go_frame
 refine wpAnyH_done (by kernel_rfl) ?_ _;refine NoPanic.normal ?_;have HS2:Hid ((S++ [nm]).length=S.length+1):=ι (by simp);have LI:Hid (w5.ownsRow w.heap.size 9 1 (.slice A4 (S++ [nm]).length c4) (S++ [nm]).length (strv (S++ [nm]))∧Live w w5 [(cb,56,#[p.en.sum,.slice A4 (S++ [nm]).length c4]),(pb,46,PV),(rb,60,#[ζ,ζ,ν,ν,ν,ε,ν,ν,ν,ε,ν])]):=ι ⟨by rw [HS2.out,strv_snoc]; exact own5,by rw [HS2.out]; exact F5.out⟩;clear own5 F5 F4 own4 kh4 fz4 hb4 hg4 hHeld own F;go_wp2_with fail
 refine Handed.intro (p.en.set.length - (i+1)) ?_ (hJ1 _ _ _ (fun Φ hΦ=>hΦ (i+1) (S++ [nm]) (A4) (c4) ?_))
 ·have:=HI.out; omega
 exact ⟨by have:=HI.out; omega,⟨HS1.out,by rw [HS2.out,HI.out.2.2]⟩,LI.out.1,LI.out.2⟩):P:=h
theorem z_33 {P:Prop} (h:P:=by
 refine rd1 11 rfl (fun K hK=> ?_);refine AnI.app I rfl _ _ rfl 0 _ rfl rfl p.nA p.nc p.en.nxt rfl (HOk.out.nx.below I.f.b) (by have:=H7.out.2.1; omega) ?_;intro A8 c8 V5 I4;refine hK.out _ _ (AnsS.of I4.f 1 rfl rfl HPV.out) (fun hHeld=> ?_);clear hK K I;try go_frame
 rename AnI _ _ _ _=>I;exact z_31):P:=h
theorem z_34 {P:Prop} (h:P:=by
 refine rd2 7 8 rfl rfl (fun K hK=> ?_) (fun K hK=> ?_)
 ·skip
  refine AnI.app I rfl _ _ rfl 0 _ rfl rfl p.sA p.sc p.en.set rfl (HOk.out.s.below I.f.b) (by have:=H7.out.1; omega) ?_;intro A7 c7 V3 I2;refine hK.out _ _ (AnsS.of I2.f 1 rfl rfl HPV.out) (fun hHeld=> ?_);clear hK K I;try go_frame
  rename AnI _ _ _ _=>I;refine rd1 8 rfl (fun K hK=> ?_);go_simp
  have I3:=I.made 94 2 (.inl rfl);refine hK.out _ _ (AnsS.of I3.f 1 rfl rfl HPV.out) (fun hHeld=> ?_);clear hK K I;try go_frame
  generalize World.alloc V3 _=V4 at I3 hHeld ⊢;generalize V3.heap.size=g8 at I3 ⊢;rename AnI _ _ _ _=>I;exact z_33
 ·skip
  go_simp
  have I2:=I.made 94 2 (.inl rfl);refine hK.out _ _ (AnsS.of I2.f 1 rfl rfl HPV.out) (fun hHeld=> ?_);clear hK K I;try go_frame
  generalize World.alloc V2 _=V3 at I2 hHeld ⊢;generalize V2.heap.size=g8 at I2 ⊢;rename AnI _ _ _ _=>I;refine rd1 7 rfl (fun K hK=> ?_);refine AnI.app I rfl _ _ rfl 1 _ rfl rfl p.sA p.sc p.en.set rfl (HOk.out.s.below I.f.b) (by have:=H7.out.1; omega) ?_;intro A7 c7 V4 I3;refine hK.out _ _ (AnsS.of I3.f 1 rfl rfl HPV.out) (fun hHeld=> ?_);clear hK K I;try go_frame
  rename AnI _ _ _ _=>I;exact z_33):P:=h
theorem z_35 {P:Prop} (h:P:=by
 refine rd1 7 rfl (fun K hK=> ?_);refine AnI.app I rfl _ _ rfl 0 _ rfl rfl p.sA p.sc p.en.set rfl (HOk.out.s.below I.f.b) (by have:=H7.out.1; omega) ?_;intro A7 c7 V4 I3;refine hK.out _ _ (AnsS.of I3.f 1 rfl rfl HPV.out) (fun hHeld=> ?_);clear hK K I;try go_frame
 rename AnI _ _ _ _=>I;refine rd1 11 rfl (fun K hK=> ?_);refine AnI.app I rfl _ _ rfl 1 _ rfl rfl p.nA p.nc p.en.nxt rfl (HOk.out.nx.below I.f.b) (by have:=H7.out.2.1; omega) ?_;intro A8 c8 V5 I4;refine hK.out _ _ (AnsS.of I4.f 1 rfl rfl HPV.out) (fun hHeld=> ?_);clear hK K I;try go_frame
 rename AnI _ _ _ _=>I;exact z_31):P:=h
theorem z_36 {P:Prop} (h:P:=by
 refine rd2 3 11 rfl rfl (fun K hK=> ?_) (fun K hK=> ?_)
 ·skip
  go_simp
  have I3:=I.cells (η p.en.hd [.slice p.kA p.en.hd.sk.length p.kc]) 41 (by decide) (by decide);refine hK.out _ _ (AnsS.of I3.f 1 rfl rfl HPV.out) (fun hHeld=> ?_);clear hK K I;try go_frame
  generalize World.alloc V3 _=V4 at I3 hHeld ⊢;generalize V3.heap.size=hb at I3 ⊢;rename AnI _ _ _ _=>I;exact z_33
 ·skip
  refine AnI.app I rfl _ _ rfl 0 _ rfl rfl p.nA p.nc p.en.nxt rfl (HOk.out.nx.below I.f.b) (by have:=H7.out.2.1; omega) ?_;intro A8 c8 V4 I3;refine hK.out _ _ (AnsS.of I3.f 0 rfl rfl HPV.out) (fun hHeld=> ?_);clear hK K I;try go_frame
  rename AnI _ _ _ _=>I;refine rd1 3 rfl (fun K hK=> ?_);go_simp
  have I4:=I.cells (η p.en.hd [.slice p.kA p.en.hd.sk.length p.kc]) 41 (by decide) (by decide);refine hK.out _ _ (AnsS.of I4.f 1 rfl rfl HPV.out) (fun hHeld=> ?_);clear hK K I;try go_frame
  generalize World.alloc V4 _=V5 at I4 hHeld ⊢;generalize V4.heap.size=hb at I4 ⊢;rename AnI _ _ _ _=>I;exact z_31):P:=h
theorem law35_answer (w:World) (l:List EnM) (A:Option Addr) (c:Nat) (HL:EntsAt w A l) (hl:l.length≤1048577) (j:Nat) (hj:j<l.length) (p:EnM) (hp:l[j]=p) (hs7:p.en.set.length≤7) (hn7:p.en.nxt.length≤7):
  Calls Tryz.prog 15 #[.slice A l.length c,j] w (AnsEnd w p j):=by
 have HP:Hid (∀ hA hc sA sc nA nc gA gc w',Below w.heap.size w w'→Reads w' w'.heap.size 11 hA 1 (hcell (p.en.hd,p.kA,p.kc))→Reads w' w'.heap.size 2 sA p.en.set.length (mcells p.en.set)→Reads w' w'.heap.size 2 nA p.en.nxt.length (mcells p.en.nxt)→Reads w' w'.heap.size 1 gA (p.en.set.map (·.1)).length (strv (p.en.set.map (·.1)))→(∀ a,hA=some a→w.heap.size≤a.block)→(∀ a,sA=some a→w.heap.size≤a.block)→(∀ a,nA=some a→w.heap.size≤a.block)→(∀ a,gA=some a→w.heap.size≤a.block)→AnsEnd w p j (.returned (.agg #[ζ,j,.slice hA 1 hc,.slice sA p.en.set.length sc,.slice nA p.en.nxt.length nc,p.en.sum,.slice gA (p.en.set.map (·.1)).length gc,ν,ν,ε,ν])) w'):=ι (fun hA hc sA sc nA nc gA gc w' h1 h2 h3 h4 h5 f1 f2 f3 f4=>⟨hA,hc,sA,sc,nA,nc,gA,gc,rfl,h1,h2,h3,h4,h5,f1,f2,f3,f4⟩);generalize AnsEnd w p j=P at HP ⊢;have HOk:=ι (hp ▸ HL.o _ (List.getElem_mem hj));obtain ⟨ad,off,hA,hbl,hcell_⟩:=ent_cells HL.r hj;subst hA;rw [hp] at hcell_;have hi1:(j:Int)<l.length:=by omega
 have hi0:(0:Int)≤j:=by omega
 have SZE:Hid ((Tryz.prog.info? 46).map (·.size)=some 17):=ι (by kernel_rfl);have SZA:Hid ((Tryz.prog.info? 60).map (·.size)=some 11):=ι (by kernel_rfl);have SZH:Hid ((Tryz.prog.info? 41).map (·.size)=some 11):=ι (by kernel_rfl);have HPV:=ι (pvs p);have HRg:Hid (∀ W,Below w.heap.size w W→W.rangeAt ad (off+j*17) (ecell p)):=ι (fun W hW q v hv=>hcell_ W hW q v hv);have H7:=ι (And.intro hs7 (And.intro hn7 hl));clear HL hl hj hp hs7 hn7 hcell_ hbl;go_enter Tryz.func15,Tryz.ntmps15
 go_upto_region 1 with fail
 have F0:=Live.ha (ι (Live.start w)) #[ζ,ζ,ν,ν,ν,ε,ν,ν,ν,ε,ν] 60;generalize World.alloc w _=W0 at F0 ⊢;generalize w.heap.size=rb at F0 ⊢;have RG:=HRg.out _ F0.out.b;have F0a:=Live.ha F0 (θ [ν,ε,ν,ν,ν,ν,ν]) 46;have TH0:(W0.alloc (.cells (θ [ν,ε,ν,ν,ν,ν,ν]) 46)).there W0.heap.size 0 17:=F0a.out.there 0 17 rfl (by decide);have SZL:(Tryz.prog.info? 46).map (·.size)=some (ecell p).length:=SZE.out;generalize ecell p=pl at *;have THP:(W0.alloc (.cells (θ [ν,ε,ν,ν,ν,ν,ν]) 46)).there W0.heap.size 0 pl.toArray.size:=by rw [HPV.out.sz]; exact TH0
 have SZP:(Tryz.prog.info? 46).map (·.size)=some pl.toArray.size:=by rw [HPV.out.sz]; exact SZE.out
 have ONP:=HPV.out.one;go_upto_region 2 with (first|((with_reducible refine at_load 11 ?_); refine wpList_load_mid rfl 46 _ rfl ad (off+j*17) rfl pl _ RG Tryz.underlying46 rfl SZL ?_)|((with_reducible refine at_store 11 ?_); refine wpList_store_mid rfl 46 _ _ rfl W0.heap.size 0 pl.toArray rfl rfl THP SZP ONP ?_))
 have F1:Hid (Live w ((W0.alloc (.cells (θ [ν,ε,ν,ν,ν,ν,ν]) 46)).setCells W0.heap.size 0 pl.toArray.toList) [(W0.heap.size,46,pl.toArray.toList.toArray),(rb,60,#[ζ,ζ,ν,ν,ν,ε,ν,ν,ν,ε,ν])]):=Live.hall F0a 0 _ rfl (by have:=HPV.out.sz; simpa using this.symm);simp only at F1 ⊢;generalize World.setCells _ W0.heap.size 0 pl=W1 at F1 ⊢;generalize W0.heap.size=pb at F1 ⊢;clear TH0 THP SZP ONP SZL RG F0a F0 HRg hi1 hi0;generalize pl.toArray=PV at HPV F1 ⊢;have kp11:W1.cell? ⟨pb,11,none⟩=some (p.en.sum:Value):=F1.out.cell 0 11 rfl HPV.out.p11;go_upto_region 3 with fail
 have F2:=Live.ha F1 #[p.en.sum,ν] 56;generalize hcb:W1.heap.size=cb at F2 ⊢;go_wp2_with fail
 generalize World.alloc W1 _=W2 at F2 ⊢;have HPV2:=HPV.out;clear kp11 hcb F1;refine wp_loop_ghost_k (fun k a wr=>∀ Φ:Act→Prop,(∀ ⦃s2 s3 s8 s9 s0 s1 s4 s5 s6 s7 a0 a2 a3 a4 a5 a6 a7 a8 a9 b0 b1 b2 b3 b4 b5 b6 b7 b8 b9 c0 c1 c2 c3 c5 c6 c9 d0 d1 d2 d3 d4:Value⦄ (i:Nat) (S:List (List UInt8)) (SA:Option Addr) (SC:Nat),(i+k=p.en.set.length∧(S=(p.en.set.take i).map (·.1)∧S.length=i)∧wr.ownsRow w.heap.size 9 1 (.slice SA S.length SC) S.length (strv S)∧Live w wr [(cb,56,#[p.en.sum,.slice SA S.length SC]),(pb,46,PV),(rb,60,#[ζ,ζ,ν,ν,ν,ε,ν,ν,ν,ε,ν])])→Φ {tmps:=#[.slice (some ⟨ad,off,none⟩) l.length c,.int .i64 (j:Int),s2,s3,.pointer (some ⟨rb,0,none⟩),.pointer (some ⟨pb,0,none⟩),.pointer (some ⟨cb,0,none⟩),.int .i64 (i:Int),s8,s9,s0,s1,s4,s5,s6,s7,a0,a2,a3,a4,a5,a6,a7,a8,a9,b0,b1,b2,b3,b4,b5,b6,b7,b8,b9,c0,c1,c2,c3,c5,c6,c9,d0,d1,d2,d3,d4],defers:= []})→Φ a) (p.en.set.length) ?_ ?_
 ·refine fun Φ hΦ=>hΦ (0) ([]) (none) (0) ?_;exact ⟨by omega,⟨by simp,rfl⟩,World.ownsRow_nil _ _ _ _,F2.out⟩
 ·intro k1 a1 wr1 hI1 J1 K1 hJ1 hK1;refine hI1 (fun a=>Code.wp _ _ _ a _) ?_;clear hI1 a1;iterate 41 (intro _)
  intro i S SA SC hrel
  show Code.wp _ _ _ _ _;obtain ⟨h1,⟨h2,h3⟩,hO,hF⟩:=hrel;have F:=ι hF;have own:=hO;by_cases hi:i<p.en.set.length
  ·obtain ⟨ad2,off2,hA2,hbl2,hcell2⟩:=mem_cells HOk.out.s hi;have P15:Hid (PV[15]?=some (.slice (some ⟨ad2,off2,none⟩) p.en.set.length p.sc)):=ι (by rw [←hA2]; exact HPV.out.p15);have HS1:Hid (S++ [p.en.set[i].1]=(p.en.set.take (i+1)).map (·.1)):=ι (by rw [List.take_succ_eq_append_getElem hi,List.map_append,h2]; rfl);have R1:Hid (∀ W,Below w.heap.size w W→W.cell? ⟨ad2,off2+i*2,none⟩=some (.string ⟨p.en.set[i].1.toArray⟩)):=ι (fun W hW=>(hcell2 W hW).1);have hi1:(i:Int)<p.en.set.length:=by omega
   have hi0:(0:Int)≤i:=by omega
   have hwi:IntKind.i64.wrap ((i:Int)+1)=(i:Int)+1:=IntWalk.i64_in _ (by have:=H7.out; omega);have hS22:S.length<22:=by have:=H7.out; omega
   have HI:=ι (And.intro h1 (And.intro hi h3));clear h1 h2 h3 hO hF hcell2 hbl2 hA2;generalize p.en.set[i].1=nm at *;clear hi;have r0:=F.out.cell 1 15 rfl P15.out;have r1:=R1.out _ F.out.b;have kh:=F.out.cell 0 1 rfl rfl;go_upto_region 6 with fail
   refine wp_region_noPanic ?_;refine wp_region_held_drew (S:=fun w'=>w'.cell? ⟨pb,15,none⟩=some (.slice (some ⟨ad2,off2,none⟩) p.en.set.length p.sc)∧w'.cell? ⟨ad2,off2+i*2,none⟩=some (nm:Value)) (by kernel_rfl) ⟨r0,r1⟩ (fun hHeld=> ?_);have F:=live_drew F;have own:=own.drew;clear r0 r1 kh;generalize wr1.drew=Wd at F own hHeld ⊢;refine tk 0 22 rfl ?_;try go_frame
   refine tk 2 24 rfl ?_;try go_frame
   refine tk 3 25 rfl ?_;try go_frame
   refine tk 4 26 rfl ?_;try go_frame
   refine tk 5 27 rfl ?_;try go_frame
   refine tk 6 28 rfl ?_;try go_frame
   refine tk 7 29 rfl ?_;try go_frame
   refine rd2 1 8 rfl rfl (fun K hK=> ?_) (fun K hK=> ?_)
   ·skip
    have khl:=F.out.cell 0 1 rfl rfl;go_simp
    refine hK.out _ _ hHeld (fun hHeld=> ?_);clear hK K khl;try go_frame
    refine rd1 8 rfl (fun K hK=> ?_);go_simp
    have Fa:=Live.ha F #[nm] 9;refine hK.out _ _ ⟨Fa.out.cell 2 15 rfl P15.out,R1.out _ Fa.out.b⟩ (fun hHeld=> ?_);clear hK K;exact z_32
   ·skip
    go_simp
    have Fa:=Live.ha F #[nm] 9;refine hK.out _ _ ⟨Fa.out.cell 2 15 rfl P15.out,R1.out _ Fa.out.b⟩ (fun hHeld=> ?_);clear hK K;try go_frame
    refine rd1 1 rfl (fun K hK=> ?_);have khl:=Fa.out.cell 1 1 rfl rfl;go_simp
    refine hK.out _ _ hHeld (fun hHeld=> ?_);clear hK K khl;exact z_32
  ·have hi1:((i:Int)<p.en.set.length)=False:=by simp; omega
   have HSE:Hid (S=p.en.set.map (·.1)):=ι (by rw [h2,List.take_of_length_le (by omega)]);have OS:=ι hO;have kp15:=hF.cell 1 15 rfl HPV.out.p15;clear h1 h2 h3 hO hF hi own;go_upto_region 7 with fail
   rename_i KK hKK;have I0:AnI w wr1 [(cb,56,#[p.en.sum,.slice SA S.length SC]),(pb,46,PV),(rb,60,#[ζ,ζ,ν,ν,ν,ε,ν,ν,ν,ε,ν])] [(9,1,.slice SA S.length SC,S.length,strv S)]:=⟨F.out,fun r hr=>(by rw [List.mem_singleton] at hr; subst hr; exact OS.out),List.pairwise_singleton _ _,fun r hr=>(by rw [List.mem_singleton] at hr; subst hr; exact .inr rfl),fun x hx=>(by simp only [List.mem_cons,List.not_mem_nil,or_false] at hx; rcases hx with rfl|rfl|rfl<;>simp)⟩
   have I:=I0.drew;refine wp_region_held_drew (S:=AnsS p pb cb (.slice SA S.length SC)) (by kernel_rfl) (AnsS.of I.f 0 rfl rfl HPV.out) (fun hHeld=> ?_);clear kp15 I0;generalize wr1.drew=V0 at I hHeld ⊢;have HE:∀ (hb:Nat) A7 c7 A8 c8 W R,AnI w W [(hb,41,(η p.en.hd [.slice p.kA p.en.hd.sk.length p.kc])),(cb,56,#[p.en.sum,.slice SA S.length SC]),(pb,46,PV),(rb,60,#[ζ,j,.slice (some ⟨hb,0,none⟩) 1 1,.slice A7 p.en.set.length c7,.slice A8 p.en.nxt.length c8,p.en.sum,.slice SA S.length SC,ν,ν,ε,ν])] R→(94,2,.slice A7 p.en.set.length c7,p.en.set.length,mcells p.en.set)∈R→(94,2,.slice A8 p.en.nxt.length c8,p.en.nxt.length,mcells p.en.nxt)∈R→(9,1,.slice SA S.length SC,S.length,strv S)∈R→P (.returned (.agg #[ζ,j,.slice (some ⟨hb,0,none⟩) 1 1,.slice A7 p.en.set.length c7,.slice A8 p.en.nxt.length c8,p.en.sum,.slice SA S.length SC,ν,ν,ε,ν])) W:=fun hb A7 c7 A8 c8 W R I h1 h2 h3=>by
    have HQ:=HP.out (some ⟨hb,0,none⟩) 1 A7 c7 A8 c8 SA SC W I.f.b (reads_of_blk (I.f.blk 0 rfl) rfl) (Reads.of_own (I.o _ h1)) (Reads.of_own (I.o _ h2));rw [←HSE.out] at HQ;exact HQ (Reads.of_own (I.o _ h3)) (fun a ha=>by injection ha with ha; subst ha; exact I.f.own 0 rfl) (fun a ha=>((I.o _ h1).lt a.block (by show Value.ownBlock (.slice A7 _ _)=_; rw [ha]; rfl)).1) (fun a ha=>((I.o _ h2).lt a.block (by show Value.ownBlock (.slice A8 _ _)=_; rw [ha]; rfl)).1) (fun a ha=>((I.o _ h3).lt a.block (by show Value.ownBlock (.slice SA _ _)=_; rw [ha]; rfl)).1)
   refine tk 0 33 rfl ?_;try go_frame
   refine tk 1 34 rfl ?_;try go_frame
   refine' wpAnyH_take (i:=2) (oi:=⟨some 35,_,_,_,_,_⟩) (v:=_) rfl (by kernel_rfl) (by kernel_rfl) (by kernel_rfl) (fun _ _ _ h=>h) (yieldsIf_load_mid (by rfl) _ _ rfl pb 0 rfl (η p.en.hd [.slice p.kA p.en.hd.sk.length p.kc]) _ (fun w h=>h.2.2.1) Tryz.underlying41 rfl SZH.out) (by assumption) ?_
   try go_frame
   refine tk 5 38 rfl ?_;try go_frame
   refine tk 6 39 rfl ?_;try go_frame
   refine tk 9 42 rfl ?_;try go_frame
   refine tk 10 43 rfl ?_;try go_frame
   refine tk 12 45 rfl ?_;try go_frame
   refine wpAnyH_ready (rs:= [3,4,8]) (by kernel_rfl) (by simp) ?_;refine AllReadyH.cons rfl (fun K hK=> ?_) (AllReadyH.cons rfl (fun K hK=> ?_) (AllReadyH.cons rfl (fun K hK=> ?_) AllReadyH.nil))
   ·skip
    go_simp
    have I0:=I.cells (η p.en.hd [.slice p.kA p.en.hd.sk.length p.kc]) 41 (by decide) (by decide);refine hK.out _ _ (AnsS.of I0.f 1 rfl rfl HPV.out) (fun hHeld=> ?_);clear hK K I;try go_frame
    generalize World.alloc V0 _=V1 at I0 hHeld ⊢;generalize V0.heap.size=hb at I0 ⊢;rename AnI _ _ _ _=>I;refine rd2 4 8 rfl rfl (fun K hK=> ?_) (fun K hK=> ?_)
    ·skip
     go_simp
     have I1:=I.made 94 2 (.inl rfl);refine hK.out _ _ (AnsS.of I1.f 1 rfl rfl HPV.out) (fun hHeld=> ?_);clear hK K I;try go_frame
     generalize World.alloc V1 _=V2 at I1 hHeld ⊢;generalize V1.heap.size=g4 at I1 ⊢;rename AnI _ _ _ _=>I;exact z_34
    ·skip
     go_simp
     have I1:=I.made 94 2 (.inl rfl);refine hK.out _ _ (AnsS.of I1.f 1 rfl rfl HPV.out) (fun hHeld=> ?_);clear hK K I;try go_frame
     generalize World.alloc V1 _=V2 at I1 hHeld ⊢;generalize V1.heap.size=g8 at I1 ⊢;rename AnI _ _ _ _=>I;refine rd1 4 rfl (fun K hK=> ?_);go_simp
     have I2:=I.made 94 2 (.inl rfl);refine hK.out _ _ (AnsS.of I2.f 1 rfl rfl HPV.out) (fun hHeld=> ?_);clear hK K I;try go_frame
     generalize World.alloc V2 _=V3 at I2 hHeld ⊢;generalize V2.heap.size=g4 at I2 ⊢;rename AnI _ _ _ _=>I;exact z_35
   ·skip
    go_simp
    have I0:=I.made 94 2 (.inl rfl);refine hK.out _ _ (AnsS.of I0.f 0 rfl rfl HPV.out) (fun hHeld=> ?_);clear hK K I;try go_frame
    generalize World.alloc V0 _=V1 at I0 hHeld ⊢;generalize V0.heap.size=g4 at I0 ⊢;rename AnI _ _ _ _=>I;refine wpAnyH_ready (rs:= [3,7,8]) (by kernel_rfl) (by simp) ?_;refine AllReadyH.cons rfl (fun K hK=> ?_) (AllReadyH.cons rfl (fun K hK=> ?_) (AllReadyH.cons rfl (fun K hK=> ?_) AllReadyH.nil))
    ·skip
     go_simp
     have I1:=I.cells (η p.en.hd [.slice p.kA p.en.hd.sk.length p.kc]) 41 (by decide) (by decide);refine hK.out _ _ (AnsS.of I1.f 1 rfl rfl HPV.out) (fun hHeld=> ?_);clear hK K I;try go_frame
     generalize World.alloc V1 _=V2 at I1 hHeld ⊢;generalize V1.heap.size=hb at I1 ⊢;rename AnI _ _ _ _=>I;exact z_34
    ·skip
     refine AnI.app I rfl _ _ rfl 0 _ rfl rfl p.sA p.sc p.en.set rfl (HOk.out.s.below I.f.b) (by have:=H7.out.1; omega) ?_;intro A7 c7 V2 I1;refine hK.out _ _ (AnsS.of I1.f 0 rfl rfl HPV.out) (fun hHeld=> ?_);clear hK K I;try go_frame
     rename AnI _ _ _ _=>I;refine rd2 3 8 rfl rfl (fun K hK=> ?_) (fun K hK=> ?_)
     ·skip
      go_simp
      have I2:=I.cells (η p.en.hd [.slice p.kA p.en.hd.sk.length p.kc]) 41 (by decide) (by decide);refine hK.out _ _ (AnsS.of I2.f 1 rfl rfl HPV.out) (fun hHeld=> ?_);clear hK K I;try go_frame
      generalize World.alloc V2 _=V3 at I2 hHeld ⊢;generalize V2.heap.size=hb at I2 ⊢;rename AnI _ _ _ _=>I;refine rd1 8 rfl (fun K hK=> ?_);go_simp
      have I3:=I.made 94 2 (.inl rfl);refine hK.out _ _ (AnsS.of I3.f 1 rfl rfl HPV.out) (fun hHeld=> ?_);clear hK K I;try go_frame
      generalize World.alloc V3 _=V4 at I3 hHeld ⊢;generalize V3.heap.size=g8 at I3 ⊢;rename AnI _ _ _ _=>I;exact z_33
     ·skip
      go_simp
      have I2:=I.made 94 2 (.inl rfl);refine hK.out _ _ (AnsS.of I2.f 0 rfl rfl HPV.out) (fun hHeld=> ?_);clear hK K I;try go_frame
      generalize World.alloc V2 _=V3 at I2 hHeld ⊢;generalize V2.heap.size=g8 at I2 ⊢;rename AnI _ _ _ _=>I;exact z_36
    ·skip
     go_simp
     have I1:=I.made 94 2 (.inl rfl);refine hK.out _ _ (AnsS.of I1.f 0 rfl rfl HPV.out) (fun hHeld=> ?_);clear hK K I;try go_frame
     generalize World.alloc V1 _=V2 at I1 hHeld ⊢;generalize V1.heap.size=g8 at I1 ⊢;rename AnI _ _ _ _=>I;refine rd2 3 7 rfl rfl (fun K hK=> ?_) (fun K hK=> ?_)
     ·skip
      go_simp
      have I2:=I.cells (η p.en.hd [.slice p.kA p.en.hd.sk.length p.kc]) 41 (by decide) (by decide);refine hK.out _ _ (AnsS.of I2.f 1 rfl rfl HPV.out) (fun hHeld=> ?_);clear hK K I;try go_frame
      generalize World.alloc V2 _=V3 at I2 hHeld ⊢;generalize V2.heap.size=hb at I2 ⊢;rename AnI _ _ _ _=>I;refine rd1 7 rfl (fun K hK=> ?_);refine AnI.app I rfl _ _ rfl 1 _ rfl rfl p.sA p.sc p.en.set rfl (HOk.out.s.below I.f.b) (by have:=H7.out.1; omega) ?_;intro A7 c7 V4 I3;refine hK.out _ _ (AnsS.of I3.f 1 rfl rfl HPV.out) (fun hHeld=> ?_);clear hK K I;try go_frame
      rename AnI _ _ _ _=>I;exact z_33
     ·skip
      refine AnI.app I rfl _ _ rfl 1 _ rfl rfl p.sA p.sc p.en.set rfl (HOk.out.s.below I.f.b) (by have:=H7.out.1; omega) ?_;intro A7 c7 V3 I2;refine hK.out _ _ (AnsS.of I2.f 0 rfl rfl HPV.out) (fun hHeld=> ?_);clear hK K I;try go_frame
      rename AnI _ _ _ _=>I;exact z_36
   ·skip
    go_simp
    have I0:=I.made 94 2 (.inl rfl);refine hK.out _ _ (AnsS.of I0.f 0 rfl rfl HPV.out) (fun hHeld=> ?_);clear hK K I;try go_frame
    generalize World.alloc V0 _=V1 at I0 hHeld ⊢;generalize V0.heap.size=g8 at I0 ⊢;rename AnI _ _ _ _=>I;refine rd2 3 4 rfl rfl (fun K hK=> ?_) (fun K hK=> ?_)
    ·skip
     go_simp
     have I1:=I.cells (η p.en.hd [.slice p.kA p.en.hd.sk.length p.kc]) 41 (by decide) (by decide);refine hK.out _ _ (AnsS.of I1.f 1 rfl rfl HPV.out) (fun hHeld=> ?_);clear hK K I;try go_frame
     generalize World.alloc V1 _=V2 at I1 hHeld ⊢;generalize V1.heap.size=hb at I1 ⊢;rename AnI _ _ _ _=>I;refine rd1 4 rfl (fun K hK=> ?_);go_simp
     have I2:=I.made 94 2 (.inl rfl);refine hK.out _ _ (AnsS.of I2.f 1 rfl rfl HPV.out) (fun hHeld=> ?_);clear hK K I;try go_frame
     generalize World.alloc V2 _=V3 at I2 hHeld ⊢;generalize V2.heap.size=g4 at I2 ⊢;rename AnI _ _ _ _=>I;exact z_35
    ·skip
     go_simp
     have I1:=I.made 94 2 (.inl rfl);refine hK.out _ _ (AnsS.of I1.f 0 rfl rfl HPV.out) (fun hHeld=> ?_);clear hK K I;try go_frame
     generalize World.alloc V1 _=V2 at I1 hHeld ⊢;generalize V1.heap.size=g4 at I1 ⊢;rename AnI _ _ _ _=>I;refine rd2 3 7 rfl rfl (fun K hK=> ?_) (fun K hK=> ?_)
     ·skip
      go_simp
      have I2:=I.cells (η p.en.hd [.slice p.kA p.en.hd.sk.length p.kc]) 41 (by decide) (by decide);refine hK.out _ _ (AnsS.of I2.f 1 rfl rfl HPV.out) (fun hHeld=> ?_);clear hK K I;try go_frame
      generalize World.alloc V2 _=V3 at I2 hHeld ⊢;generalize V2.heap.size=hb at I2 ⊢;rename AnI _ _ _ _=>I;exact z_35
     ·skip
      refine AnI.app I rfl _ _ rfl 0 _ rfl rfl p.sA p.sc p.en.set rfl (HOk.out.s.below I.f.b) (by have:=H7.out.1; omega) ?_;intro A7 c7 V3 I2;refine hK.out _ _ (AnsS.of I2.f 0 rfl rfl HPV.out) (fun hHeld=> ?_);clear hK K I;try go_frame
      rename AnI _ _ _ _=>I;refine rd2 3 11 rfl rfl (fun K hK=> ?_) (fun K hK=> ?_)
      ·skip
       go_simp
       have I3:=I.cells (η p.en.hd [.slice p.kA p.en.hd.sk.length p.kc]) 41 (by decide) (by decide);refine hK.out _ _ (AnsS.of I3.f 1 rfl rfl HPV.out) (fun hHeld=> ?_);clear hK K I;try go_frame
       generalize World.alloc V3 _=V4 at I3 hHeld ⊢;generalize V3.heap.size=hb at I3 ⊢;rename AnI _ _ _ _=>I;refine rd1 11 rfl (fun K hK=> ?_);refine AnI.app I rfl _ _ rfl 1 _ rfl rfl p.nA p.nc p.en.nxt rfl (HOk.out.nx.below I.f.b) (by have:=H7.out.2.1; omega) ?_;intro A8 c8 V5 I4;refine hK.out _ _ (AnsS.of I4.f 1 rfl rfl HPV.out) (fun hHeld=> ?_);clear hK K I;try go_frame
       rename AnI _ _ _ _=>I;exact z_31
      ·skip
       refine AnI.app I rfl _ _ rfl 1 _ rfl rfl p.nA p.nc p.en.nxt rfl (HOk.out.nx.below I.f.b) (by have:=H7.out.2.1; omega) ?_;intro A8 c8 V4 I3;refine hK.out _ _ (AnsS.of I3.f 0 rfl rfl HPV.out) (fun hHeld=> ?_);clear hK K I;try go_frame
       rename AnI _ _ _ _=>I;refine rd1 3 rfl (fun K hK=> ?_);go_simp
       have I4:=I.cells (η p.en.hd [.slice p.kA p.en.hd.sk.length p.kc]) 41 (by decide) (by decide);refine hK.out _ _ (AnsS.of I4.f 1 rfl rfl HPV.out) (fun hHeld=> ?_);clear hK K I;try go_frame
       generalize World.alloc V4 _=V5 at I4 hHeld ⊢;generalize V4.heap.size=hb at I4 ⊢;rename AnI _ _ _ _=>I;exact z_31
end
end Go.Proofs.YtdkiloganbhfkaaGreatDoor