import Derived.Test.YtdkiloganbhfkaaGreatDoorJ35
set_option linter.unusedSimpArgs false
set_option linter.unusedVariables false
set_option maxHeartbeats 4000000
set_option maxRecDepth 100000
namespace Go.Proofs.YtdkiloganbhfkaaGreatDoor
section
open Go.RowKit Go.Instr
attribute [local go_sem] ba_get ByteArray.mk_append_mk
attribute [local go_sem ↓] Go.wp_at_zero Go.wp_at_succ
def ToldEnd (w:World) (x:AnM) (hgt:Int) (e:Ending) (w':World):Prop:=
 Below w.heap.size w w'∧((Ac.toldO 0 hgt (x.hs.map (·.1)) x.set x.nxt x.d x.sg=none∧e= .returned (.tuple #[.agg (θ [ν]),false]))∨∃ y,x.hs= [y]∧Ac.toldO 0 hgt (x.hs.map (·.1)) x.set x.nxt x.d x.sg=some y.1∧e= .returned (.tuple #[.agg (hcell y).toArray,true]))
theorem z_26 {P:Prop} (h:P:=by
 go_enter Tryz.func81,Tryz.ntmps81
 go_upto_region 1 with fail
 have F0:=Live.ha (Live.ha (ι (Live.start w)) #[ζ,hgt,.slice x.hA n x.hc,.slice x.sA x.set.length x.sc,.slice x.nA x.nxt.length x.nc,x.d,.slice x.gA x.sg.length x.gc,ν,ν,ε,ν] 60) (θ [ν]) 41;rw [World.size_alloc] at F0;generalize (w.alloc (.cells #[ζ,hgt,.slice x.hA n x.hc,.slice x.sA x.set.length x.sc,.slice x.nA x.nxt.length x.nc,x.d,.slice x.gA x.sg.length x.gc,ν,ν,ε,ν] 60)).alloc (.cells (θ [ν]) 41)=W0 at F0 ⊢;generalize hrb:w.heap.size+1=rb at F0 ⊢;clear hrb;generalize w.heap.size=ab at F0 ⊢;have F:=live_drew F0;refine wp_region_held_drew (S:=fun w'=>w'.rangeAt ab 0 [ζ,hgt,.slice x.hA n x.hc,.slice x.sA x.set.length x.sc,.slice x.nA x.nxt.length x.nc,x.d,.slice x.gA x.sg.length x.gc,ν,ν,ε,ν]∧w'.cell? ⟨ab,0,none⟩=some (.int .i64 0)∧w'.cell? ⟨ab,1,none⟩=some (.int .i64 hgt)∧w'.cell? ⟨ab,2,none⟩=some (.slice x.hA n x.hc)) (by kernel_rfl) ⟨range_of_blk (F.out.blk 1 rfl),F.out.cell 1 0 rfl rfl,F.out.cell 1 1 rfl rfl,F.out.cell 1 2 rfl rfl⟩ (fun hHeld=> ?_);generalize W0.drew=Wd at F hHeld ⊢
 refine' wpAnyH_take (i:=0) (oi:=⟨some 4,_,_,_,_,_⟩) (v:=_) rfl (by kernel_rfl) (by kernel_rfl) (by kernel_rfl) (fun _ _ _ h=>h) (yieldsIf_load_mid (by rfl) _ _ rfl ab 0 rfl [ζ,hgt,.slice x.hA n x.hc,.slice x.sA x.set.length x.sc,.slice x.nA x.nxt.length x.nc,x.d,.slice x.gA x.sg.length x.gc,ν,ν,ε,ν] _ (fun w h=>h.1) Tryz.underlying60 rfl SZA.out) (by assumption) ?_
 try go_frame
 refine rd1 1 rfl (fun K hK=> ?_);go_simp
 refine (HCk.out _ F.out.b).mono ?_;rintro e W ⟨rfl,hb'⟩;have F:=Live.hb F hb';clear hb';go_simp
 refine hK.out _ _ ⟨range_of_blk (F.out.blk 1 rfl),F.out.cell 1 0 rfl rfl,F.out.cell 1 1 rfl rfl,F.out.cell 1 2 rfl rfl⟩ (fun hHeld=> ?_);clear hK K;try go_frame
 refine tk 2 6 rfl ?_;try go_frame
 refine tk 3 7 rfl ?_;try go_frame
 refine tk 4 8 rfl ?_;try go_frame
 refine tk 5 9 rfl ?_;try go_frame
 refine tk 6 10 rfl ?_;try go_frame
 refine tk 7 11 rfl ?_;try go_frame
 refine tk 8 12 rfl ?_;try go_frame
 refine tk 9 13 rfl ?_;try go_frame
 refine tk 10 14 rfl ?_;try go_frame
 refine tk 11 15 rfl ?_;try go_frame
 refine tk 12 16 rfl ?_;try go_frame
 refine tk 13 17 rfl ?_;try go_frame
 refine tk 14 18 rfl ?_;try go_frame
 refine tk 15 19 rfl ?_;try go_frame
 refine tk 16 20 rfl ?_;try go_frame
 refine tk 17 21 rfl ?_;try go_frame
 refine tk 18 22 rfl ?_;try go_frame
 refine tk 19 23 rfl ?_;try go_frame
 refine tk 20 24 rfl ?_;try go_frame
 refine tk 21 25 rfl ?_;try go_frame
 refine tk 22 26 rfl ?_;try go_frame
 refine tk 23 27 rfl ?_;try go_frame
 refine wpAnyH_done (by kernel_rfl) ?_ _;clear hHeld;have TH:W.there rb 0 11:=F.out.there 0 11 rfl (by decide);have F9:Hid (Live w (W.setCells rb 0 (θ [ν])) [(rb,41,(θ [ν])),(ab,60,#[ζ,hgt,.slice x.hA n x.hc,.slice x.sA x.set.length x.sc,.slice x.nA x.nxt.length x.nc,x.d,.slice x.gA x.sg.length x.gc,ν,ν,ε,ν])]):=Live.hall F 0 _ rfl rfl;have hr:=run_loadVar_mid (P:=Tryz.prog) (W.setCells rb 0 (θ [ν])) rb 0 41 (θ [ν]) _ (range_of_blk (F9.out.blk 0 rfl)) Tryz.underlying41 rfl SZH.out;obtain ⟨W9,h9⟩:∃ W9,W.setCells rb 0 ((θ [ν]):Array Value).toList=W9:=⟨_,rfl⟩
 have h9b:W.setCells rb 0 [.int .i64 0,.int .i64 0,.int .i64 0,.bool false,.string ⟨#[]⟩,.string ⟨#[]⟩,.string ⟨#[]⟩,.string ⟨#[]⟩,.string ⟨#[]⟩,.string ⟨#[]⟩,.slice none 0 0]=W9:=h9;rw [h9b] at F9 hr;have H9:=ι h9;clear h9b h9;go_wp2_with ((with_reducible refine at_store 28 ?_); refine wpList_store_as rfl 41 _ _ rfl rb 0 (θ [ν]) rfl rfl TH SZH.out (by simp [Value.oneCell']) W9 H9.out ?_)
 (try simp only [Exit.inBlock,Exit.then])
 refine bodyPost_ret (v:= .tuple #[.agg (θ [ν]),false]) (results_load_tmp _ _ _ _ Tryz.results81 _ rb rfl _ _ hr) rfl ?_;exact HPn.out _ HE.out F9.out.b):P:=h
theorem acc_told (w:World) (x:AnM) (hgt:Int) (HA:AnAt w x):
  Calls Tryz.prog 81 #[.agg #[ζ,hgt,.slice x.hA x.hs.length x.hc,.slice x.sA x.set.length x.sc,.slice x.nA x.nxt.length x.nc,x.d,.slice x.gA x.sg.length x.gc,ν,ν,ε,ν]] w (ToldEnd w x hgt):=by
 have HPn:Hid (∀ w',Ac.toldO 0 hgt (x.hs.map (·.1)) x.set x.nxt x.d x.sg=none→Below w.heap.size w w'→ToldEnd w x hgt (.returned (.tuple #[.agg (θ [ν]),false])) w'):=ι (fun w' e h=>⟨h,.inl ⟨e,rfl⟩⟩);have HPq:Hid (∀ y w',x.hs= [y]→Ac.toldO 0 hgt (x.hs.map (·.1)) x.set x.nxt x.d x.sg=some y.1→Below w.heap.size w w'→ToldEnd w x hgt (.returned (.tuple #[.agg (hcell y).toArray,true])) w'):=ι (fun y w' e1 e h=>⟨h,.inr ⟨y,e1,e,rfl⟩⟩);generalize ToldEnd w x hgt=P at HPn HPq ⊢;have HX:Hid (Ac.toldO 0 hgt (x.hs.map (·.1)) x.set x.nxt x.d x.sg=if x.ansB hgt=false∨(0:Int)≠0 then none else match x.hs.map (·.1) with
  | [h]=>if h.hgt=hgt then some h else none
  |_=>none):=ι rfl
 have HCk:=ι (fun W (hW:Below w.heap.size w W)=>qu_Check0 W x hgt (HA.next hW));have SZH:Hid ((Tryz.prog.info? 41).map (·.size)=some 11):=ι (by kernel_rfl);have SZA:Hid ((Tryz.prog.info? 60).map (·.size)=some 11):=ι (by kernel_rfl);generalize Ac.toldO 0 hgt (x.hs.map (·.1)) x.set x.nxt x.d x.sg=X at HPn HPq HX;generalize x.ansB hgt=b at HCk HX;have HAA:=ι HA;clear HA;cases b with
 |false=>
  simp only [Bool.false_eq_true,if_false] at HCk;have HE:Hid (X=none):=ι (by rw [HX.out,if_pos (.inl rfl)]);clear HX;generalize x.hs.length=n at HCk ⊢;exact z_26
 |true=>
 simp only [if_true] at HCk;have HX2:=ι (HX.out.trans (if_neg (by simp)));clear HX;by_cases h1:x.hs.length=1;rotate_left
 ·have HE:Hid (X=none):=ι (by
   rw [HX2.out];rcases hh:x.hs with _|⟨y,_|⟨z,r⟩⟩
   ·rfl
   ·rw [hh] at h1; exact absurd rfl h1
   ·rfl)
  have h1':((x.hs.length:Int)==1)=false:=by simp; omega
  have h1n:((x.hs.length:Int) !=1)=true:=by simp; omega
  clear HX2 h1;generalize x.hs.length=n at HCk h1' h1n ⊢;exact z_26
 obtain ⟨y,hy⟩:∃ y,x.hs= [y]:=by
  rcases hh:x.hs with _|⟨y,_|⟨z,r⟩⟩
  ·rw [hh] at h1; cases h1
  ·exact ⟨y,rfl⟩
  ·rw [hh] at h1; simp at h1
 have HY:=ι hy;obtain ⟨ad,off,hA',hbl,hcell_⟩:=flat_cells hcell_len (by decide) HAA.out.h (show 0<x.hs.length by omega);have hy0:x.hs[0]'(by omega)=y:=by simp [hy]
 rw [hy0] at hcell_;simp only [Nat.zero_mul,Nat.add_zero] at hcell_;have HRg:Hid (∀ W,Below w.heap.size w W→W.rangeAt ad off (hcell y)):=ι (fun W hW q v hv=>hcell_ W hW q v hv);have HD0:Hid (∀ W,Below w.heap.size w W→W.cell? ⟨ad,off,none⟩=some (.int .i64 y.1.hgt)):=ι (fun W hW=>hcell_ W hW 0 _ rfl);have HX3:Hid (X=if y.1.hgt=hgt then some y.1 else none):=ι (by rw [HX2.out,hy]; rfl);rw [h1,hA'] at HCk ⊢;clear hcell_ hbl hA' hy0 hy HX2 h1;by_cases h2:y.1.hgt=hgt;rotate_left
 ·have HE:=ι (HX3.out.trans (if_neg h2));have h2':(y.1.hgt==hgt)=false:=by simp [h2]
  have h2n:(y.1.hgt !=hgt)=true:=by simp [h2]
  clear HX3 h2;go_enter Tryz.func81,Tryz.ntmps81
  go_upto_region 1 with fail
  have F0:=Live.ha (Live.ha (ι (Live.start w)) #[ζ,hgt,.slice (some ⟨ad,off,none⟩) 1 x.hc,.slice x.sA x.set.length x.sc,.slice x.nA x.nxt.length x.nc,x.d,.slice x.gA x.sg.length x.gc,ν,ν,ε,ν] 60) (θ [ν]) 41;rw [World.size_alloc] at F0;generalize (w.alloc (.cells #[ζ,hgt,.slice (some ⟨ad,off,none⟩) 1 x.hc,.slice x.sA x.set.length x.sc,.slice x.nA x.nxt.length x.nc,x.d,.slice x.gA x.sg.length x.gc,ν,ν,ε,ν] 60)).alloc (.cells (θ [ν]) 41)=W0 at F0 ⊢;generalize hrb:w.heap.size+1=rb at F0 ⊢;clear hrb;generalize w.heap.size=ab at F0 ⊢;have F:=live_drew F0;refine wp_region_held_drew (S:=fun w'=>w'.rangeAt ab 0 [ζ,hgt,.slice (some ⟨ad,off,none⟩) 1 x.hc,.slice x.sA x.set.length x.sc,.slice x.nA x.nxt.length x.nc,x.d,.slice x.gA x.sg.length x.gc,ν,ν,ε,ν]∧w'.cell? ⟨ab,0,none⟩=some (.int .i64 0)∧w'.cell? ⟨ab,1,none⟩=some (.int .i64 hgt)∧w'.cell? ⟨ab,2,none⟩=some (.slice (some ⟨ad,off,none⟩) 1 x.hc)∧w'.cell? ⟨ad,off,none⟩=some (.int .i64 y.1.hgt)) (by kernel_rfl) ⟨range_of_blk (F.out.blk 1 rfl),F.out.cell 1 0 rfl rfl,F.out.cell 1 1 rfl rfl,F.out.cell 1 2 rfl rfl,HD0.out _ F.out.b⟩ (fun hHeld=> ?_);generalize W0.drew=Wd at F hHeld ⊢
  refine' wpAnyH_take (i:=0) (oi:=⟨some 4,_,_,_,_,_⟩) (v:=_) rfl (by kernel_rfl) (by kernel_rfl) (by kernel_rfl) (fun _ _ _ h=>h) (yieldsIf_load_mid (by rfl) _ _ rfl ab 0 rfl [ζ,hgt,.slice (some ⟨ad,off,none⟩) 1 x.hc,.slice x.sA x.set.length x.sc,.slice x.nA x.nxt.length x.nc,x.d,.slice x.gA x.sg.length x.gc,ν,ν,ε,ν] _ (fun w h=>h.1) Tryz.underlying60 rfl SZA.out) (by assumption) ?_
  try go_frame
  refine rd1 1 rfl (fun K hK=> ?_);go_simp
  refine (HCk.out _ F.out.b).mono ?_;rintro e W ⟨rfl,hb'⟩;have F:=Live.hb F hb';clear hb';go_simp
  refine hK.out _ _ ⟨range_of_blk (F.out.blk 1 rfl),F.out.cell 1 0 rfl rfl,F.out.cell 1 1 rfl rfl,F.out.cell 1 2 rfl rfl,HD0.out _ F.out.b⟩ (fun hHeld=> ?_);clear hK K;try go_frame
  refine tk 2 6 rfl ?_;try go_frame
  refine tk 3 7 rfl ?_;try go_frame
  refine tk 4 8 rfl ?_;try go_frame
  refine tk 5 9 rfl ?_;try go_frame
  refine tk 6 10 rfl ?_;try go_frame
  refine tk 7 11 rfl ?_;try go_frame
  refine tk 8 12 rfl ?_;try go_frame
  refine tk 9 13 rfl ?_;try go_frame
  refine tk 10 14 rfl ?_;try go_frame
  refine tk 11 15 rfl ?_;try go_frame
  refine tk 12 16 rfl ?_;try go_frame
  refine tk 13 17 rfl ?_;try go_frame
  refine tk 14 18 rfl ?_;try go_frame
  refine tk 15 19 rfl ?_;try go_frame
  refine tk 16 20 rfl ?_;try go_frame
  refine tk 17 21 rfl ?_;try go_frame
  refine tk 18 22 rfl ?_;try go_frame
  refine tk 19 23 rfl ?_;try go_frame
  refine tk 20 24 rfl ?_;try go_frame
  refine tk 21 25 rfl ?_;try go_frame
  refine tk 22 26 rfl ?_;try go_frame
  refine tk 23 27 rfl ?_;try go_frame
  refine wpAnyH_done (by kernel_rfl) ?_ _;clear hHeld;have TH:W.there rb 0 11:=F.out.there 0 11 rfl (by decide);have F9:Hid (Live w (W.setCells rb 0 (θ [ν])) [(rb,41,(θ [ν])),(ab,60,#[ζ,hgt,.slice (some ⟨ad,off,none⟩) 1 x.hc,.slice x.sA x.set.length x.sc,.slice x.nA x.nxt.length x.nc,x.d,.slice x.gA x.sg.length x.gc,ν,ν,ε,ν])]):=Live.hall F 0 _ rfl rfl;have hr:=run_loadVar_mid (P:=Tryz.prog) (W.setCells rb 0 (θ [ν])) rb 0 41 (θ [ν]) _ (range_of_blk (F9.out.blk 0 rfl)) Tryz.underlying41 rfl SZH.out;obtain ⟨W9,h9⟩:∃ W9,W.setCells rb 0 ((θ [ν]):Array Value).toList=W9:=⟨_,rfl⟩
  have h9b:W.setCells rb 0 [.int .i64 0,.int .i64 0,.int .i64 0,.bool false,.string ⟨#[]⟩,.string ⟨#[]⟩,.string ⟨#[]⟩,.string ⟨#[]⟩,.string ⟨#[]⟩,.string ⟨#[]⟩,.slice none 0 0]=W9:=h9;rw [h9b] at F9 hr;have H9:=ι h9;clear h9b h9;go_wp2_with ((with_reducible refine at_store 28 ?_); refine wpList_store_as rfl 41 _ _ rfl rb 0 (θ [ν]) rfl rfl TH SZH.out (by simp [Value.oneCell']) W9 H9.out ?_)
  (try simp only [Exit.inBlock,Exit.then])
  refine bodyPost_ret (v:= .tuple #[.agg (θ [ν]),false]) (results_load_tmp _ _ _ _ Tryz.results81 _ rb rfl _ _ hr) rfl ?_;exact HPn.out _ HE.out F9.out.b
 ·have HE0:=ι (HX3.out.trans (if_pos h2));have h2':(y.1.hgt==hgt)=true:=by simp [h2]
  have h2n:(y.1.hgt !=hgt)=false:=by simp [h2]
  have HPy:Hid (∀ w',X=some y.1→Below w.heap.size w w'→P (.returned (.tuple #[.agg (hcell y).toArray,true])) w'):=ι (fun w'=>HPq.out y w' HY.out);have HE:=HE0;clear HX3 h2 HPq HY HE0;go_enter Tryz.func81,Tryz.ntmps81
  go_upto_region 1 with fail
  have F0:=Live.ha (Live.ha (ι (Live.start w)) #[ζ,hgt,.slice (some ⟨ad,off,none⟩) 1 x.hc,.slice x.sA x.set.length x.sc,.slice x.nA x.nxt.length x.nc,x.d,.slice x.gA x.sg.length x.gc,ν,ν,ε,ν] 60) (θ [ν]) 41;rw [World.size_alloc] at F0;generalize (w.alloc (.cells #[ζ,hgt,.slice (some ⟨ad,off,none⟩) 1 x.hc,.slice x.sA x.set.length x.sc,.slice x.nA x.nxt.length x.nc,x.d,.slice x.gA x.sg.length x.gc,ν,ν,ε,ν] 60)).alloc (.cells (θ [ν]) 41)=W0 at F0 ⊢;generalize hrb:w.heap.size+1=rb at F0 ⊢;clear hrb;generalize w.heap.size=ab at F0 ⊢;have F:=live_drew F0;refine wp_region_held_drew (S:=fun w'=>w'.rangeAt ab 0 [ζ,hgt,.slice (some ⟨ad,off,none⟩) 1 x.hc,.slice x.sA x.set.length x.sc,.slice x.nA x.nxt.length x.nc,x.d,.slice x.gA x.sg.length x.gc,ν,ν,ε,ν]∧w'.cell? ⟨ab,0,none⟩=some (.int .i64 0)∧w'.cell? ⟨ab,1,none⟩=some (.int .i64 hgt)∧w'.cell? ⟨ab,2,none⟩=some (.slice (some ⟨ad,off,none⟩) 1 x.hc)∧w'.cell? ⟨ad,off,none⟩=some (.int .i64 y.1.hgt)) (by kernel_rfl) ⟨range_of_blk (F.out.blk 1 rfl),F.out.cell 1 0 rfl rfl,F.out.cell 1 1 rfl rfl,F.out.cell 1 2 rfl rfl,HD0.out _ F.out.b⟩ (fun hHeld=> ?_);generalize W0.drew=Wd at F hHeld ⊢
  refine' wpAnyH_take (i:=0) (oi:=⟨some 4,_,_,_,_,_⟩) (v:=_) rfl (by kernel_rfl) (by kernel_rfl) (by kernel_rfl) (fun _ _ _ h=>h) (yieldsIf_load_mid (by rfl) _ _ rfl ab 0 rfl [ζ,hgt,.slice (some ⟨ad,off,none⟩) 1 x.hc,.slice x.sA x.set.length x.sc,.slice x.nA x.nxt.length x.nc,x.d,.slice x.gA x.sg.length x.gc,ν,ν,ε,ν] _ (fun w h=>h.1) Tryz.underlying60 rfl SZA.out) (by assumption) ?_
  try go_frame
  refine rd1 1 rfl (fun K hK=> ?_);go_simp
  refine (HCk.out _ F.out.b).mono ?_;rintro e W ⟨rfl,hb'⟩;have F:=Live.hb F hb';clear hb';go_simp
  refine hK.out _ _ ⟨range_of_blk (F.out.blk 1 rfl),F.out.cell 1 0 rfl rfl,F.out.cell 1 1 rfl rfl,F.out.cell 1 2 rfl rfl,HD0.out _ F.out.b⟩ (fun hHeld=> ?_);clear hK K;try go_frame
  refine tk 2 6 rfl ?_;try go_frame
  refine tk 3 7 rfl ?_;try go_frame
  refine tk 4 8 rfl ?_;try go_frame
  refine tk 5 9 rfl ?_;try go_frame
  refine tk 6 10 rfl ?_;try go_frame
  refine tk 7 11 rfl ?_;try go_frame
  refine tk 8 12 rfl ?_;try go_frame
  refine tk 9 13 rfl ?_;try go_frame
  refine tk 10 14 rfl ?_;try go_frame
  refine tk 11 15 rfl ?_;try go_frame
  refine tk 12 16 rfl ?_;try go_frame
  refine tk 13 17 rfl ?_;try go_frame
  refine tk 14 18 rfl ?_;try go_frame
  refine tk 15 19 rfl ?_;try go_frame
  refine tk 16 20 rfl ?_;try go_frame
  refine tk 17 21 rfl ?_;try go_frame
  refine tk 18 22 rfl ?_;try go_frame
  refine tk 19 23 rfl ?_;try go_frame
  refine tk 20 24 rfl ?_;try go_frame
  refine tk 21 25 rfl ?_;try go_frame
  refine tk 22 26 rfl ?_;try go_frame
  refine tk 23 27 rfl ?_;try go_frame
  refine wpAnyH_done (by kernel_rfl) ?_ _;clear hHeld;have k2:=F.out.cell 1 2 rfl rfl;have RG:=HRg.out _ F.out.b;have SZL:(Tryz.prog.info? 41).map (·.size)=some (hcell y).length:=SZH.out;have SZP:(Tryz.prog.info? 41).map (·.size)=some (hcell y).toArray.size:=SZH.out;have HPZ:(hcell y).toArray.size=11:=rfl;have ONP:(hcell y).toArray.all (·.oneCell')=true:=all_oneCell_toArray (hcell_one y);generalize hcell y=pl at *;have THP:W.there rb 0 pl.toArray.size:=by rw [HPZ]; exact F.out.there 0 11 rfl (by decide)
  have F9:Hid (Live w (W.setCells rb 0 pl.toArray.toList) [(rb,41,pl.toArray.toList.toArray),(ab,60,#[ζ,hgt,.slice (some ⟨ad,off,none⟩) 1 x.hc,.slice x.sA x.set.length x.sc,.slice x.nA x.nxt.length x.nc,x.d,.slice x.gA x.sg.length x.gc,ν,ν,ε,ν])]):=Live.hall F 0 _ rfl (by simpa using HPZ.symm);have hr:=run_loadVar_mid (P:=Tryz.prog) (W.setCells rb 0 pl.toArray.toList) rb 0 41 pl _ (range_of_blk (F9.out.blk 0 rfl)) Tryz.underlying41 rfl SZL;obtain ⟨W9,h9⟩:∃ W9,W.setCells rb 0 pl.toArray.toList=W9:=⟨_,rfl⟩
  rw [h9] at F9 hr;have H9:=ι h9;clear h9;go_wp2_with (first|((with_reducible refine at_load 32 ?_); refine wpList_load_mid rfl 41 _ rfl ad off rfl pl _ RG Tryz.underlying41 rfl SZL ?_)|((with_reducible refine at_store 32 ?_); refine wpList_store_as rfl 41 _ _ rfl rb 0 pl.toArray rfl rfl THP SZP ONP W9 H9.out ?_))
  (try simp only [Exit.inBlock,Exit.then])
  refine bodyPost_ret (v:= .tuple #[.agg pl.toArray,true]) (results_load_tmp _ _ _ _ Tryz.results81 _ rb rfl _ _ hr) rfl ?_;exact HPy.out _ HE.out F9.out.b
end
end Go.Proofs.YtdkiloganbhfkaaGreatDoor