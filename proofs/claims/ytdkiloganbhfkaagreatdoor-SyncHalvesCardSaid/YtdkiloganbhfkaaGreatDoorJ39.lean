import Derived.Test.YtdkiloganbhfkaaGreatDoorJ38
set_option linter.unusedSimpArgs false
set_option linter.unusedVariables false
set_option maxHeartbeats 4000000
set_option maxRecDepth 100000
namespace Go.Proofs.YtdkiloganbhfkaaGreatDoor
section
open Go.RowKit Go.Instr
attribute [local go_sem] ba_get ByteArray.mk_append_mk
attribute [local go_sem ↓] Go.wp_at_zero Go.wp_at_succ
abbrev TrP:=Hd × List Pw.Mem × Int
def TrM.p (t:TrM):TrP:=(t.h,t.nx,t.ta)
structure SyP where
 now:TrP
 since:List TrP
 goal:Int
 far:Int
 rounds:Int
def SyM.p (s:SyM):SyP:=⟨s.now.p,s.since.map TrM.p,s.goal,s.far,s.rounds⟩
def TakeR (s:SyP) (x:AnM) (hgt now:Int) (tab:List Sg) (cd:Nat) (s':SyP):Prop:=
 if s.goal≤s.now.1.hgt then cd=6∧s'=s
 else if s.far<hgt then cd=360∧s'=⟨s.now,s.since,s.goal,s.far,s.rounds+1⟩
 else cd=Ac.accC s.now.1 s.now.2.1 s.now.2.2 0 hgt (x.hs.map (·.1)) x.set x.nxt x.d x.sg now tab
  ∧(cd=0→∃ y:HdM,x.hs= [y]∧s'=⟨(y.1,x.nxt,now),s.since++ [(y.1,x.nxt,now)],s.goal,s.goal,s.rounds+1⟩)
  ∧(cd=340→s'=⟨s.now,s.since,s.goal,halfFar s.far s.now.1.hgt,s.rounds+1⟩)
  ∧(cd≠0→cd≠340→s'=⟨s.now,s.since,s.goal,s.far,s.rounds+1⟩)
def Take35End (w:World) (sb:Nat) (s:SyM) (x:AnM) (hgt now:Int) (tab:List Sg) (e:Ending) (w':World):Prop:=
 ∃ (cd:Nat) (s':SyM),e= .returned (.int .i64 (cd:Int))∧Below sb w w'∧SyAt w' sb s'∧TakeR s.p x hgt now tab cd s'.p
theorem blk_grown {w w':World} {g t:Nat} {cs:Array Value} {row:Option Nat} (hb:Blk w g t cs) (hg:w.grownBy w' row) (hne:some g≠row):Blk w' g t cs:=by
 unfold Blk;rw [hg.block g hb.lt hne];exact hb
theorem blk_there {w:World} {g t:Nat} {cs:Array Value} (hb:Blk w g t cs) (n:Nat) (hn:n≤cs.size):w.there g 0 n:=fun j hj=>by
 rw [Nat.zero_add];refine ⟨?_,hb.frozen j⟩;rw [hb.cell,Array.getElem?_eq_getElem (by omega)]; rfl
theorem below_grown {w w':World} {sb:Nat} {row:Option Nat} (hg:w.grownBy w' row) (hs:sb≤w.heap.size) (hr:∀ k,row=some k→sb≤k):Below sb w w':=
 (Below.refl sb w).grown hg hs hr
theorem SyAt.turn {w w':World} {sb:Nat} {s:SyM} (h:SyAt w sb s) (hg:w.grownBy w' (some sb)) (s':SyM) (hb:Blk w' sb 112 (η s'.now.h [.slice s'.now.kA s'.now.h.sk.length s'.now.kc,.slice s'.now.nA s'.now.nx.length s'.now.nc,s'.now.ta,.slice s'.sA s'.since.length s'.sc,s'.goal,s'.far,s'.rounds])) (e1:s'.sA=s.sA) (e2:s'.sc=s.sc) (e3:s'.since=s.since) (hn:TrOk w' s'.now∧s'.clear sb s'.now):SyAt w' sb s':=by
 have esl:s'.sl=s.sl:=by unfold SyM.sl; rw [e1,e2,e3]
 refine ⟨hb,?_,hn,fun t ht=> ?_⟩
 ·rw [esl,e3];exact own_keepB h.own hg h.blk (by decide)
 ·rw [e3] at ht;obtain ⟨a,b⟩:=h.all t ht;exact ⟨a.far hg (fun k e=>by injection e with e; subst e; exact b.1),b.1,by rw [esl]; exact b.2⟩
theorem SyAt.same {w w':World} {sb:Nat} {s:SyM} (h:SyAt w sb s) (hg:w.grownBy w' (some sb)) (s':SyM) (hb:Blk w' sb 112 (η s'.now.h [.slice s'.now.kA s'.now.h.sk.length s'.now.kc,.slice s'.now.nA s'.now.nx.length s'.now.nc,s'.now.ta,.slice s'.sA s'.since.length s'.sc,s'.goal,s'.far,s'.rounds])) (e0:s'.now=s.now) (e1:s'.sA=s.sA) (e2:s'.sc=s.sc) (e3:s'.since=s.since):SyAt w' sb s':=by
 refine h.turn hg s' hb e1 e2 e3 ?_;rw [e0];refine ⟨h.now.1.far hg (fun k e=>by injection e with e; subst e; exact h.now.2.1),h.now.2.1,?_⟩;have esl:s'.sl=s.sl:=by unfold SyM.sl; rw [e1,e2,e3]
 rw [esl];exact h.now.2.2
theorem taken_cells {w w':World} {X:Nat} {x:AnM} {now:Int} {e:Ending} (h:TakenEnd w X x now e w'):∃ RL:List Value,RL.length=13∧(∀ u∈RL,u.oneCell'=true)∧e= .returned (.tuple #[.agg RL.toArray,X])∧Below w.heap.size w w'∧
  (X=0→∃ (y:HdM) (kA2:Option Addr) (kc2:Nat) (nA2:Option Addr) (nc2:Nat),x.hs= [y]∧RL=tcell ⟨y.1,kA2,kc2,x.nxt,nA2,nc2,now⟩∧Reads w' w'.heap.size 1 kA2 y.1.sk.length (strv y.1.sk)∧Reads w' w'.heap.size 2 nA2 x.nxt.length (mcells x.nxt)∧(∀ a,kA2=some a→w.heap.size≤a.block∧a.block<w'.heap.size)∧(∀ a,nA2=some a→w.heap.size≤a.block∧a.block<w'.heap.size)):=by
 obtain ⟨hb,⟨h0,rfl⟩|⟨rfl,y,kA2,kc2,nA2,nc2,h1,rfl,h2⟩⟩:=h
 ·refine ⟨(θ [ν,ν,ζ]),rfl,by intro u hu; simp only [List.mem_cons,List.not_mem_nil,or_false] at hu; rcases hu with rfl|rfl|rfl|rfl|rfl|rfl|rfl|rfl|rfl|rfl|rfl|rfl|rfl<;>rfl,rfl,hb,fun h=>absurd h h0⟩
 ·exact ⟨tcell ⟨y.1,kA2,kc2,x.nxt,nA2,nc2,now⟩,rfl,tcell_one _,rfl,hb,fun _=>⟨y,kA2,kc2,nA2,nc2,h1,rfl,h2⟩⟩
theorem info_tr:(Tryz.prog.info? 48).map (fun i=>(i.zero,i.size,i.bytes))=some (some (.agg (θ [ν,ν,ζ])),13,184):=by kernel_rfl
def ResY (W:World) (lo:Nat) (db:Option Nat) (x:AnM) (now:Int) (X:Nat) (RL:List Value):Prop:=X=0→∃ (y:HdM) (kA2:Option Addr) (kc2:Nat) (nA2:Option Addr) (nc2:Nat),x.hs= [y]∧RL=tcell ⟨y.1,kA2,kc2,x.nxt,nA2,nc2,now⟩∧Reads W W.heap.size 1 kA2 y.1.sk.length (strv y.1.sk)∧Reads W W.heap.size 2 nA2 x.nxt.length (mcells x.nxt)∧(∀ a,kA2=some a∨nA2=some a→lo≤a.block∧a.block<W.heap.size∧some a.block≠db)
theorem ResY.of {w0 W:World} {lo:Nat} {x:AnM} {now:Int} {X:Nat} {RL:List Value} (h:X=0→∃ (y:HdM) (kA2:Option Addr) (kc2:Nat) (nA2:Option Addr) (nc2:Nat),x.hs= [y]∧RL=tcell ⟨y.1,kA2,kc2,x.nxt,nA2,nc2,now⟩∧Reads W W.heap.size 1 kA2 y.1.sk.length (strv y.1.sk)∧Reads W W.heap.size 2 nA2 x.nxt.length (mcells x.nxt)∧(∀ a,kA2=some a→w0.heap.size≤a.block∧a.block<W.heap.size)∧(∀ a,nA2=some a→w0.heap.size≤a.block∧a.block<W.heap.size)) (hlo:lo≤w0.heap.size):ResY W lo none x now X RL:=fun e=>by
 obtain ⟨y,kA2,kc2,nA2,nc2,h1,h2,h3,h4,h5,h6⟩:=h e;refine ⟨y,kA2,kc2,nA2,nc2,h1,h2,h3,h4,fun a ha=> ?_⟩;rcases ha with ha|ha
 ·exact ⟨Nat.le_trans hlo (h5 a ha).1,(h5 a ha).2,by simp⟩
 ·exact ⟨Nat.le_trans hlo (h6 a ha).1,(h6 a ha).2,by simp⟩
theorem ResY.newdb {W:World} {lo:Nat} {x:AnM} {now:Int} {X:Nat} {RL:List Value} (h:ResY W lo none x now X RL) (db:Nat) (hd:W.heap.size≤db∨db<lo):ResY W lo (some db) x now X RL:=fun e=>by
 obtain ⟨y,kA2,kc2,nA2,nc2,h1,h2,h3,h4,h5⟩:=h e;refine ⟨y,kA2,kc2,nA2,nc2,h1,h2,h3,h4,fun a ha=> ?_⟩;obtain ⟨q1,q2,_⟩:=h5 a ha;exact ⟨q1,q2,fun e=>by have:=Option.some.inj e; omega⟩
theorem ResY.weak {W:World} {lo lo':Nat} {db:Option Nat} {x:AnM} {now:Int} {X:Nat} {RL:List Value} (h:ResY W lo db x now X RL) (hl:lo'≤lo):ResY W lo' db x now X RL:=fun e=>by
 obtain ⟨y,kA2,kc2,nA2,nc2,h1,h2,h3,h4,h5⟩:=h e;exact ⟨y,kA2,kc2,nA2,nc2,h1,h2,h3,h4,fun a ha=>⟨Nat.le_trans hl (h5 a ha).1,(h5 a ha).2⟩⟩
theorem ResY.grown {W W':World} {lo:Nat} {row:Option Nat} {x:AnM} {now:Int} {X:Nat} {RL:List Value} (h:ResY W lo row x now X RL) (hg:W.grownBy W' row):ResY W' lo row x now X RL:=fun e=>by
 obtain ⟨y,kA2,kc2,nA2,nc2,h1,h2,h3,h4,h5⟩:=h e;exact ⟨y,kA2,kc2,nA2,nc2,h1,h2,reads_off h3 hg (fun a ha=>(h5 a (.inl ha)).2.2),reads_off h4 hg (fun a ha=>(h5 a (.inr ha)).2.2),fun a ha=>⟨(h5 a ha).1,Nat.lt_of_lt_of_le (h5 a ha).2.1 hg.size,(h5 a ha).2.2⟩⟩
theorem ResY.below {W W':World} {lo:Nat} {row:Option Nat} {x:AnM} {now:Int} {X:Nat} {RL:List Value} (h:ResY W lo row x now X RL) (hb:Below W.heap.size W W'):ResY W' lo row x now X RL:=h.grown (only_of_below hb row)
theorem z_29 {P:Prop} (h:P:=by
 try go_frame
 refine rd1 7 rfl (fun K hK=> ?_);refine step_append_row V3 48 (tcell (⟨y.1,kA2,kc2,x.nxt,nA2,nc2,now⟩:TrM)) rfl _ _ 66 rfl (sb+1) 13 184 _ info_tr Tryz.underlying66 rfl (by decide) (.slice s.sA s.since.length s.sc) s.since.length (tcells s.since) rfl HS9.out.own 1 1 rfl rfl (tcell_one _) (by have:=HBd.out.2.2.2.2; simp only [maxLen]; omega) (by have:=HBd.out.2.2.2.2; omega) (sb+1) V3 (Below.refl _ _) (Nat.le_refl _) HS9.out.blk.lt ?_;intro v4 V4 own4 hb4 hg4 ho4 _;obtain ⟨A4,c4,rfl,_,_,_⟩:=own_form own4;have hne4:=own_blk_ne HS9.out.own HS9.out.blk (show (48:Nat)≠112 by decide);have HBk4:=blk_grown HS9.out.blk hg4 (fun e=>hne4 e.symm);have HDk4:=blk_grown HD9.out hg4 (fun e=>by have h1:=(HS3.out.own.lt db e.symm).2; have:=HDb.out; omega);have HT10:=HT9.out.far hg4 (fun k e=>HFar.out k (HS3.out.own.lt k e).2);have HAl:=HS9.out.all;have hlt9:=HS9.out.blk.lt;refine hK.out _ _ ⟨range_of_blk HDk4,trivial⟩ (fun hHeld=> ?_);clear hK K;try go_frame
 refine tk 8 70 rfl ?_;try go_frame
 refine tk 9 71 rfl ?_;try go_frame
 refine rd1 10 rfl (fun K hK=> ?_);have k13:V4.cell? ⟨sb,13,none⟩=some (.slice s.sA s.since.length s.sc):=HBk4.cell 13;have fz:V4.frozen? ⟨sb,13,none⟩=false:=HBk4.frozen 13;go_simp
 have HBk5:Blk (V4.setCell ⟨sb,13,none⟩ (.slice A4 (s.since.length+1) c4)) sb 112 (η y.1 [.slice kA2 y.1.sk.length kc2,.slice nA2 x.nxt.length nc2,now,.slice A4 (s.since.length+1) c4,s.goal,s.goal,.int .i64 (s.rounds+1)]):=by have:=HBk4.set_ 13 (.slice A4 (s.since.length+1) c4); simpa using this
 have HG5:V4.grownBy (V4.setCell ⟨sb,13,none⟩ (.slice A4 (s.since.length+1) c4)) (some sb):=grown_cell (World.grownBy.refl V4 (some sb)) 13 (.slice A4 (s.since.length+1) c4);have HDk5:=blk_grown HDk4 HG5 (fun e=>by have:=Option.some.inj e; have:=HDb.out; have:=HSb3.out; omega);have own5:=own_keepB own4 HG5 HBk4 (show (48:Nat)≠112 by decide);have HT11:=HT10.far HG5 (fun k e=>by have:=Option.some.inj e; subst this; exact HFar.out sb HSb3.out);have HB11:=ι (HB9.out.trans ((below_grown hg4 (Nat.le_of_lt hlt9) (fun k e=>by have:=(HS9.out.own.lt k e).1; omega)).trans (below_grown HG5 (Nat.le_of_lt HBk4.lt) (fun k e=>Nat.le_of_eq (Option.some.inj e)))));generalize V4.setCell ⟨sb,13,none⟩ (.slice A4 (s.since.length+1) c4)=V5 at HBk5 HG5 HDk5 own5 HT11 HB11 ⊢;refine hK.out _ _ ⟨range_of_blk HDk5,trivial⟩ (fun hHeld=> ?_);clear hK K;try go_frame
 refine wpAnyH_done (by kernel_rfl) ?_ _;clear hHeld k13 fz;have HCl:∀ t:TrM,TrOk V3 t→(∀ k,(Value.slice s.sA s.since.length s.sc).ownBlock=some k→t.off k)→∀ k,(Value.slice A4 (s.since.length+1) c4).ownBlock=some k→t.off k:=fun t h1 h2 k hk=>by
  rcases ho4 with h|⟨g,h,hg⟩
  ·rw [h] at hk; exact h2 k hk
  ·rw [h] at hk
   have:=Option.some.inj hk
   subst this;exact ⟨fun a ha e=>by have:=h1.kb a ha; omega,fun a ha e=>by have:=h1.nb a ha; omega⟩
 have HS11:Hid (SyAt V5 sb ⟨(⟨y.1,kA2,kc2,x.nxt,nA2,nc2,now⟩:TrM),s.since++ [(⟨y.1,kA2,kc2,x.nxt,nA2,nc2,now⟩:TrM)],A4,c4,s.goal,s.goal,s.rounds+1⟩):=ι (by
  have el:(s.since++ [(⟨y.1,kA2,kc2,x.nxt,nA2,nc2,now⟩:TrM)]).length=s.since.length+1:=by simp
  have ec:tcells (s.since++ [(⟨y.1,kA2,kc2,x.nxt,nA2,nc2,now⟩:TrM)])=tcells s.since++tcell (⟨y.1,kA2,kc2,x.nxt,nA2,nc2,now⟩:TrM):=by simp [tcells]
  have hcn:=HCl (⟨y.1,kA2,kc2,x.nxt,nA2,nc2,now⟩:TrM) HT9.out (fun k hk=>HFar.out k (HS3.out.own.lt k hk).2);refine ⟨by simp only [el]; exact HBk5,?_,⟨HT11,HFar.out sb HSb3.out,?_⟩,fun t ht=> ?_⟩
  ·unfold SyM.sl;simp only [el,ec];exact own5
  ·unfold SyM.sl;simp only [el];exact hcn
  ·unfold SyM.clear SyM.sl;simp only [el];rcases List.mem_append.1 ht with ht|ht
   ·obtain ⟨q1,q2,q3⟩:=HAl t ht;exact ⟨(q1.far hg4 (fun k e=>q3 k e)).far HG5 (fun k e=>by have:=Option.some.inj e; subst this; exact q2),q2,HCl t q1 q3⟩
   ·rw [List.mem_singleton] at ht;subst ht;exact ⟨HT11,HFar.out sb HSb3.out,hcn⟩)
 have HE:=ι (HE0.out ⟨(y.1,x.nxt,now),s.since.map TrM.p++ [(y.1,x.nxt,now)],s.goal,s.goal,s.rounds+1⟩ ⟨rfl,fun _=>⟨y,HX1.out,rfl⟩,fun h=>absurd h (by decide),fun h=>absurd rfl h⟩);have hXe:((0:Int)==340)=false:=rfl;clear HBk4 HDk4 HT10 HAl hlt9 HBk5 HG5 HDk5 own5 HT11 own4 hb4 hg4 ho4 hne4 HCl HE0;go_wp2_with fail
 exact HP.out 0 _ _ HB11.out HS11.out (by rw [show SyM.p ⟨(⟨y.1,kA2,kc2,x.nxt,nA2,nc2,now⟩:TrM),s.since++ [(⟨y.1,kA2,kc2,x.nxt,nA2,nc2,now⟩:TrM)],A4,c4,s.goal,s.goal,s.rounds+1⟩=⟨(y.1,x.nxt,now),s.since.map TrM.p++ [(y.1,x.nxt,now)],s.goal,s.goal,s.rounds+1⟩ from by simp [SyM.p,TrM.p]]; exact HE.out)):P:=h
theorem z_30 {P:Prop} (h:P:=by
 refine rd1 12 rfl (fun K hK=> ?_);refine step_store_all rfl 48 _ _ rfl db 0 RL.toArray rfl rfl (F6.out.there 0 RL.toArray.size rfl (by simp [hl13])) (by rw [List.size_toArray,hl13]; exact SZT.out) (all_oneCell_toArray h1) ?_;have F7:Hid (Live W3 (W6.setCells db 0 RL.toArray.toList) [(db,48,RL.toArray.toList.toArray)]):=Live.hall F6 0 _ rfl (by simp [hl13]);have Y7:=Y6.grown (grown_setAll (g:=db) RL.toArray.toList 0 W6 (World.grownBy.refl W6 (some db)));generalize W6.setCells db 0 RL.toArray.toList=W7 at F7 Y7 ⊢;refine hK.out _ _ ⟨range_head ((HS3.out.next F7.out.b).blk) rfl,range_of_blk (HA3.out.below F7.out.b HAB.out)⟩ (fun hHeld=> ?_);clear hK K;try go_frame
 refine rd1 13 rfl (fun K hK=> ?_);go_simp
 refine hK.out _ _ hHeld (fun hHeld=> ?_);clear hK K;try go_frame
 refine wpAnyH_done (by kernel_rfl) ?_ _;go_wp2_with fail
 go_meet
 exact ⟨db,RL,rfl,rfl,hl13,h1,F7.out,Y7⟩):P:=h
theorem sync_Take (w:World) (sb:Nat) (s:SyM) (h:SyAt w sb s) (x:AnM) (hgt now:Int) (mb:Nat) (v:Value) (tab:List Sg) (HA:∀ W,w.grownBy W (some sb)→AnAt W x) (hTab:∀ W,w.grownBy W (some sb)→Tab W mb v tab) (hT:∀ W,w.grownBy W (some sb)→Tbl W)
  (hn:x.nxt.length≤100000) (hk:∀ y∈x.hs,y.1.sk.length≤100000) (hr0:0≤s.rounds) (hr1:s.rounds≤1000000) (hf0:0≤s.far) (hf1:s.far≤1048576) (hh0:0≤s.now.h.hgt) (hh1:s.now.h.hgt≤1048576) (hsl:s.since.length≤1000000):
  Calls Tryz.prog 14 #[.pointer (some ⟨sb,0,none⟩),.agg #[ζ,hgt,.slice x.hA x.hs.length x.hc,.slice x.sA x.set.length x.sc,.slice x.nA x.nxt.length x.nc,x.d,.slice x.gA x.sg.length x.gc,ν,ν,ε,ν],now,.pointer (some ⟨mb+1,0,none⟩)] w (Take35End w sb s x hgt now tab):=by
 have HP:Hid (∀ (cd:Nat) s' w',Below sb w w'→SyAt w' sb s'→TakeR s.p x hgt now tab cd s'.p→Take35End w sb s x hgt now tab (.returned (.int .i64 (cd:Int))) w'):=ι (fun cd s' w' h1 h2 h3=>⟨cd,s',rfl,h1,h2,h3⟩);generalize Take35End w sb s x hgt now tab=P at HP ⊢;have HR:Hid (∀ cd s',TakeR s.p x hgt now tab cd s'↔if s.goal≤s.now.h.hgt then cd=6∧s'=s.p
 else if s.far<hgt then cd=360∧s'=⟨s.now.p,s.since.map TrM.p,s.goal,s.far,s.rounds+1⟩
 else cd=Ac.accC s.now.h s.now.nx s.now.ta 0 hgt (x.hs.map (·.1)) x.set x.nxt x.d x.sg now tab
  ∧(cd=0→∃ y:HdM,x.hs= [y]∧s'=⟨(y.1,x.nxt,now),s.since.map TrM.p++ [(y.1,x.nxt,now)],s.goal,s.goal,s.rounds+1⟩)
  ∧(cd=340→s'=⟨s.now.p,s.since.map TrM.p,s.goal,halfFar s.far s.now.h.hgt,s.rounds+1⟩)
  ∧(cd≠0→cd≠340→s'=⟨s.now.p,s.since.map TrM.p,s.goal,s.far,s.rounds+1⟩)):=ι (fun cd s'=>Iff.rfl)
 generalize TakeR s.p x hgt now tab=R at HP HR;have HS:=ι h;have HH:=ι (And.intro HA (And.intro hTab hT));have HNK:=ι (And.intro hn hk);have HBd:=ι (And.intro hf0 (And.intro hf1 (And.intro hh0 (And.intro hh1 hsl))));have hwr:IntKind.i64.wrap (s.rounds+1)=s.rounds+1:=IntWalk.i64_in _ (by omega);have SZT:Hid ((Tryz.prog.info? 48).map (·.size)=some 13):=ι (by kernel_rfl);have SZA:Hid ((Tryz.prog.info? 60).map (·.size)=some 11):=ι (by kernel_rfl);have HSb:=ι h.blk.lt;have HOp:=ι (HA w ⟨rfl,rfl,rfl,Nat.le_refl _,fun _ _ _=>rfl⟩);clear h HA hTab hT hn hk hr0 hr1 hf0 hf1 hh0 hh1 hsl;go_enter Tryz.func14,Tryz.ntmps14
 go_upto_region 1 with fail
 have F0:=Live.ha (ι (Live.start w)) #[ζ,hgt,.slice x.hA x.hs.length x.hc,.slice x.sA x.set.length x.sc,.slice x.nA x.nxt.length x.nc,x.d,.slice x.gA x.sg.length x.gc,ν,ν,ε,ν] 60;have HS0:=ι (HS.out.next F0.out.b);generalize World.alloc w _=W0 at F0 HS0 ⊢;have HNE:Hid (w.heap.size≠sb):=ι (by have:=HSb.out; omega);generalize w.heap.size=ab at F0 HNE ⊢;have HD1:=ι (sync_Done _ sb s HS0.out);go_wp2_with fail
 refine HD1.out.mono ?_;rintro e W1 ⟨rfl,hb⟩;have F1:=Live.hb F0 hb;have HS1:=ι (HS0.out.next hb);clear hb HD1 HS0 F0;by_cases hd:s.goal≤s.now.h.hgt
 ·have HE:=ι ((HR.out 6 s.p).2 (by rw [if_pos hd]; exact ⟨rfl,rfl⟩));rw [decide_eq_true hd];clear hd;go_wp2_with fail
  exact HP.out 6 s _ (F1.out.b.mono (Nat.le_of_lt HSb.out)) HS1.out HE.out
 have HR2:=ι (fun cd s'=>(HR.out cd s').trans (Iff.of_eq (if_neg hd)));rw [decide_eq_false hd];clear hd HR;have k16:W1.cell? ⟨sb,16,none⟩=some (.int .i64 s.rounds):=HS1.out.blk.cell 16;have fz:W1.frozen? ⟨sb,16,none⟩=false:=HS1.out.blk.frozen 16;go_upto_region 4 with fail
 have HG2:w.grownBy (W1.setCell ⟨sb,16,none⟩ (.int .i64 (s.rounds+1))) (some sb):=grown_cell (only_of_below F1.out.b (some sb)) 16 (.int .i64 (s.rounds+1));have HG12:W1.grownBy (W1.setCell ⟨sb,16,none⟩ (.int .i64 (s.rounds+1))) (some sb):=grown_cell (World.grownBy.refl W1 (some sb)) 16 (.int .i64 (s.rounds+1));have HS2:=ι (HS1.out.same HG12 ⟨s.now,s.since,s.sA,s.sc,s.goal,s.far,s.rounds+1⟩ (by have:=HS1.out.blk.set_ 16 (.int .i64 (s.rounds+1)); simpa using this) rfl rfl rfl rfl);have HA2:=ι (blk_grown (F1.out.blk 0 rfl) HG12 (fun e=>HNE.out (Option.some.inj e)));generalize W1.setCell ⟨sb,16,none⟩ (.int .i64 (s.rounds+1))=W2 at HG2 HG12 HS2 HA2 ⊢;have HB2:=ι (below_grown HG2 (Nat.le_of_lt HSb.out) (fun k e=>Nat.le_of_eq (Option.some.inj e)));have HA2x:=ι (HH.out.1 _ HG2);have HT2:=ι (HH.out.2.1 _ HG2);have HTb2:=ι (HH.out.2.2 _ HG2);clear HG2 HG12 k16 fz HS1 F1 HH HS HNE;have HA3:Hid (Blk W2.drew ab 60 #[ζ,hgt,.slice x.hA x.hs.length x.hc,.slice x.sA x.set.length x.sc,.slice x.nA x.nxt.length x.nc,x.d,.slice x.gA x.sg.length x.gc,ν,ν,ε,ν]):=HA2;have HS3:=ι HS2.out.drew;have hd2:Below W2.heap.size W2 W2.drew:=⟨rfl,rfl,rfl,Nat.le_refl _,fun _ _=>rfl⟩
 have HA3x:=ι (HA2x.out.next hd2);have HT3:=ι (HT2.out.below hd2);have HTb3:=ι (HTb2.out.next hd2);have HB3:Hid (Below sb w W2.drew):=ι (HB2.out.trans (hd2.mono (Nat.le_trans (Nat.le_of_lt HSb.out) HB2.out.size)));clear HA2 HS2 HA2x HT2 HTb2 HB2 hd2;by_cases c1:s.far<hgt
 ·have c1':(s.far<hgt)=True:=by simp; omega
  have HE:=ι ((HR2.out 360 _).2 (by rw [if_pos c1]; exact ⟨rfl,rfl⟩));clear c1 HR2;refine wp_region_held_drew (S:=fun w'=>w'.cell? ⟨ab,0,none⟩=some (.int .i64 0)∧w'.cell? ⟨ab,1,none⟩=some (.int .i64 hgt)∧w'.cell? ⟨sb,15,none⟩=some (.int .i64 s.far)) (by kernel_rfl) ⟨HA3.out.cell 0,HA3.out.cell 1,HS3.out.blk.cell 15⟩ (fun hHeld=> ?_);generalize W2.drew=W3 at HA3 HS3 HA3x HT3 HTb3 HB3 hHeld ⊢;refine tk 0 22 rfl ?_;try go_frame
  refine tk 1 23 rfl ?_;try go_frame
  refine tk 2 24 rfl ?_;try go_frame
  refine tk 3 25 rfl ?_;try go_frame
  refine tk 4 26 rfl ?_;try go_frame
  refine tk 5 27 rfl ?_;try go_frame
  refine tk 6 28 rfl ?_;try go_frame
  refine tk 7 29 rfl ?_;try go_frame
  refine tk 8 30 rfl ?_;try go_frame
  refine tk 9 31 rfl ?_;try go_frame
  refine tk 10 32 rfl ?_;try go_frame
  refine tk 11 33 rfl ?_;try go_frame
  refine tk 12 34 rfl ?_;try go_frame
  refine wpAnyH_done (by kernel_rfl) ?_ _;clear hHeld;go_wp2_with fail
  exact HP.out 360 _ _ HB3.out HS3.out HE.out
 have c1':(s.far<hgt)=False:=by simp; omega
 have HR3:=ι (fun cd s'=>(HR2.out cd s').trans (Iff.of_eq (if_neg c1)));clear c1 HR2;refine wp_region_held_drew (S:=fun w'=>w'.cell? ⟨ab,0,none⟩=some (.int .i64 0)∧w'.cell? ⟨ab,1,none⟩=some (.int .i64 hgt)∧w'.cell? ⟨sb,15,none⟩=some (.int .i64 s.far)) (by kernel_rfl) ⟨HA3.out.cell 0,HA3.out.cell 1,HS3.out.blk.cell 15⟩ (fun hHeld=> ?_);generalize W2.drew=W3 at HA3 HS3 HA3x HT3 HTb3 HB3 hHeld ⊢;refine tk 0 22 rfl ?_;try go_frame
 refine tk 1 23 rfl ?_;try go_frame
 refine tk 2 24 rfl ?_;try go_frame
 refine tk 3 25 rfl ?_;try go_frame
 refine tk 4 26 rfl ?_;try go_frame
 refine tk 5 27 rfl ?_;try go_frame
 refine tk 6 28 rfl ?_;try go_frame
 refine tk 7 29 rfl ?_;try go_frame
 refine tk 8 30 rfl ?_;try go_frame
 refine tk 9 31 rfl ?_;try go_frame
 refine tk 10 32 rfl ?_;try go_frame
 refine tk 11 33 rfl ?_;try go_frame
 refine tk 12 34 rfl ?_;try go_frame
 refine wpAnyH_done (by kernel_rfl) ?_ _;clear hHeld;clear c1';go_upto_region 6 with fail
 have HCk:=ι (fun W (hW:Below W3.heap.size W3 W)=>acc_Check W s.now.h HS3.out.now.1.o s.now.kA s.now.kc ((HS3.out.next hW).now.1.k) s.now.nx HS3.out.now.1.l s.now.nA s.now.nc ((HS3.out.next hW).now.1.n) s.now.ta x hgt (HA3x.out.next hW) HNK.out.1 HNK.out.2 now mb v tab (HT3.out.below hW) (HTb3.out.next hW));obtain ⟨X,hX⟩:∃ X,Ac.accC s.now.h s.now.nx s.now.ta 0 hgt (x.hs.map (·.1)) x.set x.nxt x.d x.sg now tab=X:=⟨_,rfl⟩
 rw [hX] at HCk HR3;clear hX;have F3:=ι (Live.start W3);have HAB:Hid (ab<W3.heap.size):=ι HA3.lt;have HA3:=ι HA3;go_cut [9,10] from 35 to 45 (fun s9 s10 wx=>∃ (db:Nat) (RL:List Value),s9= .pointer (some ⟨db,0,none⟩)∧s10= .int .i64 (X:Int)∧RL.length=13∧(∀ u∈RL,u.oneCell'=true)∧Live W3 wx [(db,48,RL.toArray)]∧ResY wx W3.heap.size (some db) x now X RL)
 case first=>
  have F:=live_drew F3;refine wp_region_held_drew (S:=fun w'=>w'.rangeAt sb 0 (η s.now.h [.slice s.now.kA s.now.h.sk.length s.now.kc,.slice s.now.nA s.now.nx.length s.now.nc,s.now.ta])∧w'.rangeAt ab 0 [ζ,hgt,.slice x.hA x.hs.length x.hc,.slice x.sA x.set.length x.sc,.slice x.nA x.nxt.length x.nc,x.d,.slice x.gA x.sg.length x.gc,ν,ν,ε,ν]) (by kernel_rfl) ⟨range_head ((HS3.out.next F.out.b).blk) rfl,range_of_blk (HA3.out.below F.out.b HAB.out)⟩ (fun hHeld=> ?_);generalize W3.drew=Wd at F hHeld ⊢;try go_frame
  refine tk 0 36 rfl ?_;try go_frame
  refine tk 1 37 rfl ?_;try go_frame
  refine tk 2 38 rfl ?_;try go_frame
  refine' wpAnyH_take (i:=3) (oi:=⟨some 39,_,_,_,_,_⟩) (v:=_) rfl (by kernel_rfl) (by kernel_rfl) (by kernel_rfl) (fun _ _ _ h=>h) (yieldsIf_load_mid (by rfl) _ _ rfl sb 0 rfl (η s.now.h [.slice s.now.kA s.now.h.sk.length s.now.kc,.slice s.now.nA s.now.nx.length s.now.nc,s.now.ta]) _ (fun w h=>h.1) Tryz.underlying48 rfl SZT.out) (by assumption) ?_
  try go_frame
  refine' wpAnyH_take (i:=4) (oi:=⟨some 40,_,_,_,_,_⟩) (v:=_) rfl (by kernel_rfl) (by kernel_rfl) (by kernel_rfl) (fun _ _ _ h=>h) (yieldsIf_load_mid (by rfl) _ _ rfl ab 0 rfl [ζ,hgt,.slice x.hA x.hs.length x.hc,.slice x.sA x.set.length x.sc,.slice x.nA x.nxt.length x.nc,x.d,.slice x.gA x.sg.length x.gc,ν,ν,ε,ν] _ (fun w h=>h.2) Tryz.underlying60 rfl SZA.out) (by assumption) ?_
  try go_frame
  refine tk 5 41 rfl ?_;try go_frame
  refine tk 6 42 rfl ?_;try go_frame
  refine rd2 7 11 rfl rfl (fun K hK=> ?_) (fun K hK=> ?_)
  ·skip
   go_simp
   refine (HCk.out _ F.out.b).mono ?_;intro e W5 hT5;obtain ⟨RL,hl13,h1,rfl,hb,hres⟩:=taken_cells hT5;have Y5:ResY W5 W3.heap.size none x now X RL:=ResY.of hres F.out.b.size;have F5:=Live.hb F hb;clear hb hres hT5;go_simp
   refine hK.out _ _ ⟨range_head ((HS3.out.next F5.out.b).blk) rfl,range_of_blk (HA3.out.below F5.out.b HAB.out)⟩ (fun hHeld=> ?_);clear hK K;try go_frame
   refine tk 8 35 rfl ?_;try go_frame
   refine tk 9 44 rfl ?_;try go_frame
   refine tk 10 45 rfl ?_;try go_frame
   refine rd1 11 rfl (fun K hK=> ?_);go_simp
   have F6:=Live.ha F5 (θ [ν,ν,ζ]) 48;have Y6:=(Y5.newdb W5.heap.size (.inl (Nat.le_refl _))).below ((Below.refl _ W5).alloc (Nat.le_refl _) (.cells (θ [ν,ν,ζ]) 48));refine hK.out _ _ ⟨range_head ((HS3.out.next F6.out.b).blk) rfl,range_of_blk (HA3.out.below F6.out.b HAB.out)⟩ (fun hHeld=> ?_);clear hK K;try go_frame
   generalize World.alloc W5 _=W6 at F6 Y6 hHeld ⊢;generalize W5.heap.size=db at F6 Y6 ⊢;exact z_30
  ·skip
   go_simp
   have F5:=Live.ha F (θ [ν,ν,ζ]) 48;refine hK.out _ _ ⟨range_head ((HS3.out.next F5.out.b).blk) rfl,range_of_blk (HA3.out.below F5.out.b HAB.out)⟩ (fun hHeld=> ?_);clear hK K;try go_frame
   generalize World.alloc Wd _=W5 at F5 hHeld ⊢;generalize Wd.heap.size=db at F5 ⊢;refine rd1 7 rfl (fun K hK=> ?_);go_simp
   refine (HCk.out _ F5.out.b).mono ?_;intro e W6 hT5;obtain ⟨RL,hl13,h1,rfl,hb,hres⟩:=taken_cells hT5;have Y5:ResY W6 W5.heap.size none x now X RL:=ResY.of hres (Nat.le_refl _);have Y6:=(Y5.newdb db (.inr (F5.out.lt 0 rfl))).weak F5.out.b.size;have F6:=Live.hb F5 hb;clear hb hres hT5 Y5;go_simp
   refine hK.out _ _ ⟨range_head ((HS3.out.next F6.out.b).blk) rfl,range_of_blk (HA3.out.below F6.out.b HAB.out)⟩ (fun hHeld=> ?_);clear hK K;try go_frame
   refine tk 8 35 rfl ?_;try go_frame
   refine tk 9 44 rfl ?_;try go_frame
   refine tk 10 45 rfl ?_;try go_frame
   exact z_30
 case rest=>
  obtain ⟨db,RL,rfl,rfl,hl13,h1,hF,hY⟩:=hcut;have F6:=ι hF;have HY:=ι hY;have HRL:=ι (And.intro hl13 h1);clear hF hY hl13 h1 HCk F3;have HS6:=ι (HS3.out.next F6.out.b);have HSb3:=ι (show sb<W3.heap.size from HS3.out.blk.lt);have HB6:=ι (HB3.out.trans (F6.out.b.mono (Nat.le_of_lt HSb3.out)));have HDb:=ι (F6.out.own 0 rfl);by_cases hX0:X=0
  ·subst hX0;obtain ⟨y,kA2,kc2,nA2,nc2,hx1,rfl,r1,r2,hbl⟩:=HY.out rfl;have HE0:=ι (fun s'=>(HR3.out 0 s').2);have HX1:=ι hx1;obtain ⟨oy,ry⟩:=HA3x.out.ho y (by rw [hx1]; simp);have HTn:Hid (TrOk wc (⟨y.1,kA2,kc2,x.nxt,nA2,nc2,now⟩:TrM)):=ι ⟨oy,r1,r2,HA3x.out.no,HNK.out.2 y (by rw [hx1]; simp),HNK.out.1,fun a ha=>(hbl a (.inl ha)).2.1,fun a ha=>(hbl a (.inr ha)).2.1⟩;have HFar:Hid (∀ b,b<W3.heap.size→TrM.off (⟨y.1,kA2,kc2,x.nxt,nA2,nc2,now⟩:TrM) b):=ι (fun b hb=>⟨fun a ha e=>by have:=(hbl a (.inl ha)).1; omega,fun a ha e=>by have:=(hbl a (.inr ha)).1; omega⟩);have HFdb:Hid (TrM.off (⟨y.1,kA2,kc2,x.nxt,nA2,nc2,now⟩:TrM) db):=ι ⟨fun a ha e=>(hbl a (.inl ha)).2.2 (by rw [e]),fun a ha e=>(hbl a (.inr ha)).2.2 (by rw [e])⟩;clear HY HR3 hx1 oy ry r1 r2 hbl HRL;have HD6:Hid (Blk wc db 48 (tcell (⟨y.1,kA2,kc2,x.nxt,nA2,nc2,now⟩:TrM)).toArray):=ι (F6.out.blk 0 rfl);go_upto_region 9 with fail
   have HS7:=ι HS6.out.drew;have HD7:Hid (Blk wc.drew db 48 (η y.1 [.slice kA2 y.1.sk.length kc2,.slice nA2 x.nxt.length nc2,now])):=HD6;have HT7:Hid (TrOk wc.drew (⟨y.1,kA2,kc2,x.nxt,nA2,nc2,now⟩:TrM)):=ι (HTn.out.next ⟨rfl,rfl,rfl,Nat.le_refl _,fun _ _=>rfl⟩);have HB7:Hid (Below sb w wc.drew):=ι (HB6.out.trans ⟨rfl,rfl,rfl,Nat.le_refl _,fun _ _=>rfl⟩);refine wp_region_held_drew (S:=fun w'=>w'.rangeAt db 0 (η y.1 [.slice kA2 y.1.sk.length kc2,.slice nA2 x.nxt.length nc2,now])∧w'.cell? ⟨sb,14,none⟩=some (.int .i64 s.goal)) (by kernel_rfl) ⟨range_of_blk HD7.out,HS7.out.blk.cell 14⟩ (fun hHeld=> ?_);generalize wc.drew=V0 at HS7 HD7 HT7 HB7 hHeld ⊢;clear HS6 HD6 HTn HB6;try go_frame
   refine tk 0 49 rfl ?_;try go_frame
   refine tk 1 50 rfl ?_;try go_frame
   refine' wpAnyH_take (i:=2) (oi:=⟨some 51,_,_,_,_,_⟩) (v:=_) rfl (by kernel_rfl) (by kernel_rfl) (by kernel_rfl) (fun _ _ _ h=>h) (yieldsIf_load_mid (by rfl) _ _ rfl db 0 rfl (η y.1 [.slice kA2 y.1.sk.length kc2,.slice nA2 x.nxt.length nc2,now]) _ (fun w h=>h.1) Tryz.underlying48 rfl SZT.out) (by assumption) ?_
   try go_frame
   refine tk 3 52 rfl ?_;try go_frame
   refine tk 4 53 rfl ?_;try go_frame
   refine tk 5 54 rfl ?_;try go_frame
   refine tk 6 55 rfl ?_;try go_frame
   refine tk 7 56 rfl ?_;try go_frame
   refine tk 8 57 rfl ?_;try go_frame
   refine tk 9 58 rfl ?_;try go_frame
   refine rd1 10 rfl (fun K hK=> ?_);refine step_store_all rfl 48 _ _ rfl sb 0 (η y.1 [.slice kA2 y.1.sk.length kc2,.slice nA2 x.nxt.length nc2,now]) rfl rfl (blk_there HS7.out.blk 13 (by simp)) SZT.out (by simp [Value.oneCell']) ?_;have HBk:Blk (V0.setCells sb 0 (η y.1 [.slice kA2 y.1.sk.length kc2,.slice nA2 x.nxt.length nc2,now])) sb 112 (η y.1 [.slice kA2 y.1.sk.length kc2,.slice nA2 x.nxt.length nc2,now,.slice s.sA s.since.length s.sc,s.goal,s.far,.int .i64 (s.rounds+1)]):=Blk.setAll (η y.1 [.slice kA2 y.1.sk.length kc2,.slice nA2 x.nxt.length nc2,now]) [] (η s.now.h [.slice s.now.kA s.now.h.sk.length s.now.kc,.slice s.now.nA s.now.nx.length s.now.nc,s.now.ta]) [.slice s.sA s.since.length s.sc,s.goal,s.far,.int .i64 (s.rounds+1)] V0 rfl HS7.out.blk;have HG:V0.grownBy (V0.setCells sb 0 (η y.1 [.slice kA2 y.1.sk.length kc2,.slice nA2 x.nxt.length nc2,now])) (some sb):=grown_setAll _ 0 _ (World.grownBy.refl _ _);have HDk:=blk_grown HD7.out HG (fun e=>by have:=Option.some.inj e; have:=HDb.out; have:=HSb3.out; omega);generalize V0.setCells sb 0 _=V1 at HBk HG HDk ⊢;refine hK.out _ _ ⟨range_of_blk HDk,HBk.cell 14⟩ (fun hHeld=> ?_);clear hK K;try go_frame
   refine tk 11 59 rfl ?_;try go_frame
   refine tk 12 60 rfl ?_;try go_frame
   refine tk 13 61 rfl ?_;try go_frame
   refine rd1 14 rfl (fun K hK=> ?_);have k15:V1.cell? ⟨sb,15,none⟩=some (.int .i64 s.far):=HBk.cell 15;have fz:V1.frozen? ⟨sb,15,none⟩=false:=HBk.frozen 15;go_simp
   have HBk2:Blk (V1.setCell ⟨sb,15,none⟩ (.int .i64 s.goal)) sb 112 (η y.1 [.slice kA2 y.1.sk.length kc2,.slice nA2 x.nxt.length nc2,now,.slice s.sA s.since.length s.sc,s.goal,s.goal,.int .i64 (s.rounds+1)]):=by have:=HBk.set_ 15 (.int .i64 s.goal); simpa using this
   have HG2:V0.grownBy (V1.setCell ⟨sb,15,none⟩ (.int .i64 s.goal)) (some sb):=grown_cell HG 15 (.int .i64 s.goal);have HDk2:=blk_grown HD7.out HG2 (fun e=>by have:=Option.some.inj e; have:=HDb.out; have:=HSb3.out; omega);generalize V1.setCell ⟨sb,15,none⟩ (.int .i64 s.goal)=V2 at HBk2 HG2 HDk2 ⊢;refine hK.out _ _ ⟨range_of_blk HDk2,HBk2.cell 14⟩ (fun hHeld=> ?_);clear hK K;try go_frame
   refine wpAnyH_done (by kernel_rfl) ?_ _;have HT8:=ι (HT7.out.far HG2 (fun k e=>by have:=Option.some.inj e; subst this; exact HFar.out sb HSb3.out));have HS8:=ι (HS7.out.turn HG2 ⟨(⟨y.1,kA2,kc2,x.nxt,nA2,nc2,now⟩:TrM),s.since,s.sA,s.sc,s.goal,s.goal,s.rounds+1⟩ HBk2 rfl rfl rfl ⟨HT8.out,HFar.out sb HSb3.out,fun k hk=>HFar.out k (HS3.out.own.lt k hk).2⟩);have HB8:=ι (HB7.out.trans (below_grown HG2 (Nat.le_of_lt HS7.out.blk.lt) (fun k e=>Nat.le_of_eq (Option.some.inj e))));have HD8:=ι HDk2;clear hHeld HBk HG HDk HBk2 HG2 HDk2 k15 fz HS7 HT7 HB7 HD7;go_upto_region 10 with fail
   have hdr:Below V2.heap.size V2 V2.drew:=⟨rfl,rfl,rfl,Nat.le_refl _,fun _ _=>rfl⟩
   have HS9:=ι HS8.out.drew;have HD9:Hid (Blk V2.drew db 48 (η y.1 [.slice kA2 y.1.sk.length kc2,.slice nA2 x.nxt.length nc2,now])):=HD8;have HT9:=ι (HT8.out.next hdr);have HB9:=ι (HB8.out.trans (hdr.mono (Nat.le_of_lt HS8.out.blk.lt)));refine wp_region_held_drew (S:=fun w'=>w'.rangeAt db 0 (η y.1 [.slice kA2 y.1.sk.length kc2,.slice nA2 x.nxt.length nc2,now])∧True) (by kernel_rfl) ⟨range_of_blk HD9.out,trivial⟩ (fun hHeld=> ?_);generalize V2.drew=V3 at HS9 HD9 HT9 HB9 hHeld ⊢;clear HS8 HD8 HT8 HB8 hdr;try go_frame
   refine tk 0 62 rfl ?_;try go_frame
   refine tk 1 63 rfl ?_;try go_frame
   refine tk 2 64 rfl ?_;try go_frame
   refine tk 3 65 rfl ?_;try go_frame
   refine' wpAnyH_take (i:=5) (oi:=⟨some 67,_,_,_,_,_⟩) (v:=_) rfl (by kernel_rfl) (by kernel_rfl) (by kernel_rfl) (fun _ _ _ h=>h) (yieldsIf_load_mid (by rfl) _ _ rfl db 0 rfl (η y.1 [.slice kA2 y.1.sk.length kc2,.slice nA2 x.nxt.length nc2,now]) _ (fun w h=>h.1) Tryz.underlying48 rfl SZT.out) (by assumption) ?_
   try go_frame
   refine rd2 4 6 rfl rfl (fun K hK=> ?_) (fun K hK=> ?_)
   ·skip
    have k13:V3.cell? ⟨sb,13,none⟩=some (.slice s.sA s.since.length s.sc):=HS9.out.blk.cell 13;go_simp
    refine hK.out _ _ hHeld (fun hHeld=> ?_);clear hK K k13;try go_frame
    refine rd1 6 rfl (fun K hK=> ?_);go_simp
    refine hK.out _ _ ⟨range_of_blk (HD9.out.alloc _),trivial⟩ (fun hHeld=> ?_);clear hK K;exact z_29
   ·skip
    go_simp
    refine hK.out _ _ ⟨range_of_blk (HD9.out.alloc _),trivial⟩ (fun hHeld=> ?_);clear hK K;try go_frame
    refine rd1 4 rfl (fun K hK=> ?_);have k13:(V3.alloc (.cells (η y.1 [.slice kA2 y.1.sk.length kc2,.slice nA2 x.nxt.length nc2,now]) 48)).cell? ⟨sb,13,none⟩=some (.slice s.sA s.since.length s.sc):=(HS9.out.blk.alloc _).cell 13;go_simp
    refine hK.out _ _ hHeld (fun hHeld=> ?_);clear hK K k13;exact z_29
  by_cases hX1:X=340
  ·subst hX1;have hXe0:((340:Int)==0)=false:=rfl;clear HY HRL;have HE:=ι ((HR3.out 340 ⟨s.now.p,s.since.map TrM.p,s.goal,halfFar s.far s.now.h.hgt,s.rounds+1⟩).2 ⟨rfl,fun h=>absurd h (by decide),fun _=>rfl,fun _ h=>absurd rfl h⟩);clear HR3 hX0;go_upto_region 12 with fail
   have hdr:Below wc.heap.size wc wc.drew:=⟨rfl,rfl,rfl,Nat.le_refl _,fun _ _=>rfl⟩
   have HS7:=ι HS6.out.drew;have HB7:=ι (HB6.out.trans (hdr.mono (Nat.le_of_lt HS6.out.blk.lt)));refine wp_region_held_drew (S:=fun _=>True∧True) (by kernel_rfl) ⟨trivial,trivial⟩ (fun hHeld=> ?_);generalize wc.drew=V0 at HS7 HB7 hHeld ⊢;clear HS6 HB6 hdr;try go_frame
   refine tk 0 74 rfl ?_;try go_frame
   refine tk 1 75 rfl ?_;try go_frame
   refine tk 2 76 rfl ?_;try go_frame
   refine tk 3 77 rfl ?_;try go_frame
   refine rd1 4 rfl (fun K hK=> ?_);go_simp
   refine (sync_height _ sb _ HS7.out).mono ?_;rintro e W ⟨rfl,rfl⟩;go_simp
   refine hK.out _ _ hHeld (fun hHeld=> ?_);clear hK K;try go_frame
   refine rd1 5 rfl (fun K hK=> ?_);go_simp
   refine (sync_halve V0 sb s.far s.now.h.hgt (HS7.out.blk.cell 15) (HS7.out.blk.frozen 15) HBd.out.2.2.1 HBd.out.2.2.2.1 HBd.out.1 HBd.out.2.1).mono ?_;rintro e W ⟨⟨b,rfl⟩,hcase⟩;have HN:Hid (SyAt W sb ⟨s.now,s.since,s.sA,s.sc,s.goal,halfFar s.far s.now.h.hgt,s.rounds+1⟩∧Below sb V0 W):=ι (by
    rcases hcase with ⟨rfl,he⟩|rfl
    ·rw [he]; exact ⟨HS7.out,Below.refl _ _⟩
    ·have hg:=grown_cell (World.grownBy.refl V0 (some sb)) 15 (.int .i64 (halfFar s.far s.now.h.hgt));exact ⟨HS7.out.same hg ⟨s.now,s.since,s.sA,s.sc,s.goal,halfFar s.far s.now.h.hgt,s.rounds+1⟩ (by have:=HS7.out.blk.set_ 15 (.int .i64 (halfFar s.far s.now.h.hgt)); simpa using this) rfl rfl rfl rfl,below_grown hg (Nat.le_of_lt HS7.out.blk.lt) (fun k e=>Nat.le_of_eq (Option.some.inj e))⟩)
   clear hcase;go_simp
   refine hK.out _ _ ⟨trivial,trivial⟩ (fun hHeld=> ?_);clear hK K;try go_frame
   refine wpAnyH_done (by kernel_rfl) ?_ _;clear hHeld;go_wp2_with fail
   exact HP.out 340 _ _ (HB7.out.trans HN.out.2) HN.out.1 HE.out
  ·have hXe0:((X:Int)==0)=false:=by simp; exact hX0
   have hXe1:((X:Int)==340)=false:=by simp; omega
   have HE:=ι ((HR3.out X _).2 ⟨rfl,fun h=>absurd h hX0,fun h=>absurd h hX1,fun _ _=>rfl⟩);clear HY HR3 hX0 hX1;go_wp2_with fail
   exact HP.out X _ _ HB6.out HS6.out HE.out
end
end Go.Proofs.YtdkiloganbhfkaaGreatDoor