import Derived.Test.YtdkiloganbhfkaaGreatDoorJ33
set_option linter.unusedSimpArgs false
set_option linter.unusedVariables false
set_option maxHeartbeats 4000000
set_option maxRecDepth 100000
namespace Go.Proofs.YtdkiloganbhfkaaGreatDoor
section
open Go.RowKit Go.Instr
attribute [local go_sem] ba_get ByteArray.mk_append_mk
attribute [local go_sem ↓] Go.wp_at_zero Go.wp_at_succ
theorem z_24 {P:Prop} (h:P:=by
 refine wp_region_held_drew (S:=fun w'=>w'.rangeAt xb 0 (η h [.slice kA h.sk.length kc])∧w'.cell? ⟨xb,9,none⟩=some (h.nxt:Value)∧w'.cell? ⟨xb,11,none⟩=some (.slice A set.length c)∧w'.cell? ⟨xb,12,none⟩=some (.int .i64 a)) (by kernel_rfl) ⟨range_head (F0.out.blk 0 rfl) rfl,F0.out.cell 0 9 rfl rfl,F0.out.cell 0 11 rfl rfl,F0.out.cell 0 12 rfl rfl⟩ (fun hHeld=> ?_);have F:=live_drew F0;generalize W0.drew=Wd at F hHeld ⊢;refine tk 0 3 rfl ?_;try go_frame
 refine' wpAnyH_take (i:=1) (oi:=⟨some 4,_,_,_,_,_⟩) (v:=_) rfl (by kernel_rfl) (by kernel_rfl) (by kernel_rfl) (fun _ _ _ h=>h) (yieldsIf_load_mid (by rfl) _ _ rfl xb 0 rfl (η h [.slice kA h.sk.length kc]) _ (fun w h=>h.1) Tryz.underlying41 rfl SZH.out) (by assumption) ?_
 try go_frame
 refine rd1 2 rfl (fun K hK=> ?_);go_simp
 refine (HCk.out _ F.out.b).mono ?_;rintro e W ⟨rfl,hb⟩;have F:=Live.hb F hb;clear hb;go_simp
 refine hK.out _ _ ⟨range_head (F.out.blk 0 rfl) rfl,F.out.cell 0 9 rfl rfl,F.out.cell 0 11 rfl rfl,F.out.cell 0 12 rfl rfl⟩ (fun hHeld=> ?_);clear hK K;try go_frame
 refine tk 3 6 rfl ?_;try go_frame
 refine tk 4 7 rfl ?_;try go_frame
 refine tk 5 8 rfl ?_;try go_frame
 refine tk 6 9 rfl ?_;try go_frame
 refine tk 7 10 rfl ?_;try go_frame
 refine tk 8 11 rfl ?_;try go_frame
 refine tk 9 12 rfl ?_;try go_frame
 refine tk 10 13 rfl ?_;try go_frame
 refine tk 11 14 rfl ?_;try go_frame
 refine tk 12 15 rfl ?_;try go_frame
 refine tk 13 16 rfl ?_;try go_frame
 refine tk 14 17 rfl ?_;try go_frame
 refine tk 15 18 rfl ?_;try go_frame
 refine tk 16 19 rfl ?_;try go_frame
 refine tk 17 20 rfl ?_;try go_frame
 refine tk 18 21 rfl ?_;try go_frame
 refine tk 19 22 rfl ?_;try go_frame
 refine tk 20 23 rfl ?_;try go_frame
 refine tk 21 24 rfl ?_;try go_frame
 refine tk 22 25 rfl ?_;try go_frame
 refine tk 23 26 rfl ?_;try go_frame
 refine tk 24 27 rfl ?_;try go_frame
 refine tk 25 28 rfl ?_;try go_frame
 refine tk 26 29 rfl ?_;try go_frame
 refine tk 27 30 rfl ?_;try go_frame
 refine tk 28 31 rfl ?_;try go_frame
 refine wpAnyH_done (by kernel_rfl) ?_ _;go_wp2_with fail
 exact HPn.out _ HE.out F.out.b):P:=h
theorem trust_Check (w:World) (h:Hd) (o:OkH h) (kA:Option Addr) (kc:Nat) (HK:Reads w w.heap.size 1 kA h.sk.length (strv h.sk)) (set:List Pw.Mem) (hs:∀ x∈set,x.1.length≤9223372036854775807) (A:Option Addr) (c:Nat) (HS:Reads w w.heap.size 2 A set.length (mcells set)) (a:Int) (hT:Tbl w):
  Calls Tryz.prog 43 #[.agg (η h [.slice kA h.sk.length kc,.slice A set.length c,a])] w (Ret w (.int .i64 (if Ac.trustB h set a then 0 else 3))):=by
 have HPn:Hid (∀ w',Ac.trustB h set a=false→Below w.heap.size w w'→Ret w (.int .i64 (if Ac.trustB h set a then 0 else 3)) (.returned (.int .i64 3)) w'):=ι (fun w' e h=>by rw [e]; exact ⟨rfl,h⟩);have HPy:Hid (∀ w',Ac.trustB h set a=true→Below w.heap.size w w'→Ret w (.int .i64 (if Ac.trustB h set a then 0 else 3)) (.returned (.int .i64 0)) w'):=ι (fun w' e h=>by rw [e]; exact ⟨rfl,h⟩);generalize Ret w (.int .i64 (if Ac.trustB h set a then 0 else 3))=P at HPn HPy ⊢;have HX:Hid (Ac.trustB h set a=(Hd.ok h && decide (0≤a) && decide (a≤1099511627776) && Pw.okM set && decide (Pw.digM set=h.nxt))):=ι rfl;generalize Ac.trustB h set a=X at HPn HPy HX;have HCk:=ι (fun W (hW:Below w.heap.size w W)=>hd_Check W h o kA kc ((HK.below hW).more hW.size));have HPc:=ι (fun W (hW:Below w.heap.size w W)=>power_Check W set hs A c ((HS.below hW).more hW.size));have HPd:=ι (fun W (hW:Below w.heap.size w W)=>power_Digest W set hs A c ((HS.below hW).more hW.size) (hT.next hW));have SZH:Hid ((Tryz.prog.info? 41).map (·.size)=some 11):=ι (by kernel_rfl);generalize Hd.ok h=b0 at HX HCk;generalize Pw.okM set=b1 at HX HPc;generalize Pw.digM set=dg at HX HPd;clear hs HK HS hT o;go_enter Tryz.func43,Tryz.ntmps43
 go_upto_region 1 with fail
 have F0:=Live.ha (ι (Live.start w)) (η h [.slice kA h.sk.length kc,.slice A set.length c,a]) 48;generalize World.alloc w _=W0 at F0 ⊢;generalize w.heap.size=xb at F0 ⊢;cases b0 with
 |false=>
  simp only [Bool.false_eq_true,if_false] at HCk;have HE:Hid (X=false):=ι (by rw [HX.out]; rfl);clear HX;exact z_24
 |true=>
 simp only [if_true] at HCk;by_cases h0:a<0
 ·have h0':(a<0)=True:=by simp; omega
  have HE:Hid (X=false):=ι (by rw [HX.out,decide_eq_false (show ¬0≤a by omega)]; rfl);clear HX h0;exact z_24
 have h0':(a<0)=False:=by simp; omega
 by_cases h1:1099511627776<a
 ·have h1':(1099511627776<a)=True:=by simp; omega
  have HE:Hid (X=false):=ι (by rw [HX.out,decide_eq_false (show ¬a≤1099511627776 by omega)]; simp);clear HX h0 h1;exact z_24
 have h1':(1099511627776<a)=False:=by simp; omega
 rw [decide_eq_true (show 0≤a by omega),decide_eq_true (show a≤1099511627776 by omega)] at HX;clear h0 h1;cases b1 with
 |false=>
  simp only [codeM,Bool.false_eq_true,if_false] at HPc;have HE:Hid (X=false):=ι (by rw [HX.out]; rfl);clear HX;refine wp_region_held_drew (S:=fun w'=>w'.rangeAt xb 0 (η h [.slice kA h.sk.length kc])∧w'.cell? ⟨xb,9,none⟩=some (h.nxt:Value)∧w'.cell? ⟨xb,11,none⟩=some (.slice A set.length c)∧w'.cell? ⟨xb,12,none⟩=some (.int .i64 a)) (by kernel_rfl) ⟨range_head (F0.out.blk 0 rfl) rfl,F0.out.cell 0 9 rfl rfl,F0.out.cell 0 11 rfl rfl,F0.out.cell 0 12 rfl rfl⟩ (fun hHeld=> ?_);have F:=live_drew F0;generalize W0.drew=Wd at F hHeld ⊢;refine tk 0 3 rfl ?_;try go_frame
  refine' wpAnyH_take (i:=1) (oi:=⟨some 4,_,_,_,_,_⟩) (v:=_) rfl (by kernel_rfl) (by kernel_rfl) (by kernel_rfl) (fun _ _ _ h=>h) (yieldsIf_load_mid (by rfl) _ _ rfl xb 0 rfl (η h [.slice kA h.sk.length kc]) _ (fun w h=>h.1) Tryz.underlying41 rfl SZH.out) (by assumption) ?_
  try go_frame
  refine rd1 2 rfl (fun K hK=> ?_);go_simp
  refine (HCk.out _ F.out.b).mono ?_;rintro e W ⟨rfl,hb⟩;have F:=Live.hb F hb;clear hb;go_simp
  refine hK.out _ _ ⟨range_head (F.out.blk 0 rfl) rfl,F.out.cell 0 9 rfl rfl,F.out.cell 0 11 rfl rfl,F.out.cell 0 12 rfl rfl⟩ (fun hHeld=> ?_);clear hK K;try go_frame
  refine tk 3 6 rfl ?_;try go_frame
  refine tk 4 7 rfl ?_;try go_frame
  refine tk 5 8 rfl ?_;try go_frame
  refine tk 6 9 rfl ?_;try go_frame
  refine tk 7 10 rfl ?_;try go_frame
  refine tk 8 11 rfl ?_;try go_frame
  refine tk 9 12 rfl ?_;try go_frame
  refine tk 10 13 rfl ?_;try go_frame
  refine tk 11 14 rfl ?_;try go_frame
  refine tk 12 15 rfl ?_;try go_frame
  refine tk 13 16 rfl ?_;try go_frame
  refine tk 14 17 rfl ?_;try go_frame
  refine tk 15 18 rfl ?_;try go_frame
  refine tk 16 19 rfl ?_;try go_frame
  refine rd1 17 rfl (fun K hK=> ?_);go_simp
  refine (HPc.out _ F.out.b).mono ?_;rintro e W ⟨rfl,hb⟩;have F:=Live.hb F hb;clear hb;go_simp
  refine hK.out _ _ ⟨range_head (F.out.blk 0 rfl) rfl,F.out.cell 0 9 rfl rfl,F.out.cell 0 11 rfl rfl,F.out.cell 0 12 rfl rfl⟩ (fun hHeld=> ?_);clear hK K;try go_frame
  refine tk 18 21 rfl ?_;try go_frame
  refine tk 19 22 rfl ?_;try go_frame
  refine tk 20 23 rfl ?_;try go_frame
  refine tk 21 24 rfl ?_;try go_frame
  refine tk 22 25 rfl ?_;try go_frame
  refine tk 23 26 rfl ?_;try go_frame
  refine tk 24 27 rfl ?_;try go_frame
  refine tk 25 28 rfl ?_;try go_frame
  refine tk 26 29 rfl ?_;try go_frame
  refine tk 27 30 rfl ?_;try go_frame
  refine tk 28 31 rfl ?_;try go_frame
  refine wpAnyH_done (by kernel_rfl) ?_ _;go_wp2_with fail
  exact HPn.out _ HE.out F.out.b
 |true=>
 simp only [codeM,if_true] at HPc;by_cases h2:dg=h.nxt
 ·have h2':(dg==h.nxt)=true:=by simp [h2]
  have h2n:(dg !=h.nxt)=false:=by simp [h2]
  have HE:Hid (X=true):=ι (by rw [HX.out,decide_eq_true h2]; rfl);clear HX h2;refine wp_region_held_drew (S:=fun w'=>w'.rangeAt xb 0 (η h [.slice kA h.sk.length kc])∧w'.cell? ⟨xb,9,none⟩=some (h.nxt:Value)∧w'.cell? ⟨xb,11,none⟩=some (.slice A set.length c)∧w'.cell? ⟨xb,12,none⟩=some (.int .i64 a)) (by kernel_rfl) ⟨range_head (F0.out.blk 0 rfl) rfl,F0.out.cell 0 9 rfl rfl,F0.out.cell 0 11 rfl rfl,F0.out.cell 0 12 rfl rfl⟩ (fun hHeld=> ?_);have F:=live_drew F0;generalize W0.drew=Wd at F hHeld ⊢;refine tk 0 3 rfl ?_;try go_frame
  refine' wpAnyH_take (i:=1) (oi:=⟨some 4,_,_,_,_,_⟩) (v:=_) rfl (by kernel_rfl) (by kernel_rfl) (by kernel_rfl) (fun _ _ _ h=>h) (yieldsIf_load_mid (by rfl) _ _ rfl xb 0 rfl (η h [.slice kA h.sk.length kc]) _ (fun w h=>h.1) Tryz.underlying41 rfl SZH.out) (by assumption) ?_
  try go_frame
  refine rd1 2 rfl (fun K hK=> ?_);go_simp
  refine (HCk.out _ F.out.b).mono ?_;rintro e W ⟨rfl,hb⟩;have F:=Live.hb F hb;clear hb;go_simp
  refine hK.out _ _ ⟨range_head (F.out.blk 0 rfl) rfl,F.out.cell 0 9 rfl rfl,F.out.cell 0 11 rfl rfl,F.out.cell 0 12 rfl rfl⟩ (fun hHeld=> ?_);clear hK K;try go_frame
  refine tk 3 6 rfl ?_;try go_frame
  refine tk 4 7 rfl ?_;try go_frame
  refine tk 5 8 rfl ?_;try go_frame
  refine tk 6 9 rfl ?_;try go_frame
  refine tk 7 10 rfl ?_;try go_frame
  refine tk 8 11 rfl ?_;try go_frame
  refine tk 9 12 rfl ?_;try go_frame
  refine tk 10 13 rfl ?_;try go_frame
  refine tk 11 14 rfl ?_;try go_frame
  refine tk 12 15 rfl ?_;try go_frame
  refine tk 13 16 rfl ?_;try go_frame
  refine tk 14 17 rfl ?_;try go_frame
  refine tk 15 18 rfl ?_;try go_frame
  refine tk 16 19 rfl ?_;try go_frame
  refine rd1 17 rfl (fun K hK=> ?_);go_simp
  refine (HPc.out _ F.out.b).mono ?_;rintro e W ⟨rfl,hb⟩;have F:=Live.hb F hb;clear hb;go_simp
  refine hK.out _ _ ⟨range_head (F.out.blk 0 rfl) rfl,F.out.cell 0 9 rfl rfl,F.out.cell 0 11 rfl rfl,F.out.cell 0 12 rfl rfl⟩ (fun hHeld=> ?_);clear hK K;try go_frame
  refine tk 18 21 rfl ?_;try go_frame
  refine tk 19 22 rfl ?_;try go_frame
  refine tk 20 23 rfl ?_;try go_frame
  refine tk 21 24 rfl ?_;try go_frame
  refine tk 22 25 rfl ?_;try go_frame
  refine tk 24 27 rfl ?_;try go_frame
  refine tk 25 28 rfl ?_;try go_frame
  refine tk 26 29 rfl ?_;try go_frame
  refine rd1 23 rfl (fun K hK=> ?_);go_simp
  refine (HPd.out _ F.out.b).mono ?_;rintro e W ⟨rfl,hb⟩;have F:=Live.hb F hb;clear hb;go_simp
  refine hK.out _ _ ⟨range_head (F.out.blk 0 rfl) rfl,F.out.cell 0 9 rfl rfl,F.out.cell 0 11 rfl rfl,F.out.cell 0 12 rfl rfl⟩ (fun hHeld=> ?_);clear hK K;try go_frame
  refine tk 27 30 rfl ?_;try go_frame
  refine tk 28 31 rfl ?_;try go_frame
  refine wpAnyH_done (by kernel_rfl) ?_ _;go_wp2_with fail
  exact HPy.out _ HE.out F.out.b
 ·have h2':(dg==h.nxt)=false:=by simp [h2]
  have h2n:(dg !=h.nxt)=true:=by simp [h2]
  have HE:Hid (X=false):=ι (by rw [HX.out,decide_eq_false h2]; rfl);clear HX h2;refine wp_region_held_drew (S:=fun w'=>w'.rangeAt xb 0 (η h [.slice kA h.sk.length kc])∧w'.cell? ⟨xb,9,none⟩=some (h.nxt:Value)∧w'.cell? ⟨xb,11,none⟩=some (.slice A set.length c)∧w'.cell? ⟨xb,12,none⟩=some (.int .i64 a)) (by kernel_rfl) ⟨range_head (F0.out.blk 0 rfl) rfl,F0.out.cell 0 9 rfl rfl,F0.out.cell 0 11 rfl rfl,F0.out.cell 0 12 rfl rfl⟩ (fun hHeld=> ?_);have F:=live_drew F0;generalize W0.drew=Wd at F hHeld ⊢;refine tk 0 3 rfl ?_;try go_frame
  refine' wpAnyH_take (i:=1) (oi:=⟨some 4,_,_,_,_,_⟩) (v:=_) rfl (by kernel_rfl) (by kernel_rfl) (by kernel_rfl) (fun _ _ _ h=>h) (yieldsIf_load_mid (by rfl) _ _ rfl xb 0 rfl (η h [.slice kA h.sk.length kc]) _ (fun w h=>h.1) Tryz.underlying41 rfl SZH.out) (by assumption) ?_
  try go_frame
  refine rd1 2 rfl (fun K hK=> ?_);go_simp
  refine (HCk.out _ F.out.b).mono ?_;rintro e W ⟨rfl,hb⟩;have F:=Live.hb F hb;clear hb;go_simp
  refine hK.out _ _ ⟨range_head (F.out.blk 0 rfl) rfl,F.out.cell 0 9 rfl rfl,F.out.cell 0 11 rfl rfl,F.out.cell 0 12 rfl rfl⟩ (fun hHeld=> ?_);clear hK K;try go_frame
  refine tk 3 6 rfl ?_;try go_frame
  refine tk 4 7 rfl ?_;try go_frame
  refine tk 5 8 rfl ?_;try go_frame
  refine tk 6 9 rfl ?_;try go_frame
  refine tk 7 10 rfl ?_;try go_frame
  refine tk 8 11 rfl ?_;try go_frame
  refine tk 9 12 rfl ?_;try go_frame
  refine tk 10 13 rfl ?_;try go_frame
  refine tk 11 14 rfl ?_;try go_frame
  refine tk 12 15 rfl ?_;try go_frame
  refine tk 13 16 rfl ?_;try go_frame
  refine tk 14 17 rfl ?_;try go_frame
  refine tk 15 18 rfl ?_;try go_frame
  refine tk 16 19 rfl ?_;try go_frame
  refine rd1 17 rfl (fun K hK=> ?_);go_simp
  refine (HPc.out _ F.out.b).mono ?_;rintro e W ⟨rfl,hb⟩;have F:=Live.hb F hb;clear hb;go_simp
  refine hK.out _ _ ⟨range_head (F.out.blk 0 rfl) rfl,F.out.cell 0 9 rfl rfl,F.out.cell 0 11 rfl rfl,F.out.cell 0 12 rfl rfl⟩ (fun hHeld=> ?_);clear hK K;try go_frame
  refine tk 18 21 rfl ?_;try go_frame
  refine tk 19 22 rfl ?_;try go_frame
  refine tk 20 23 rfl ?_;try go_frame
  refine tk 21 24 rfl ?_;try go_frame
  refine tk 22 25 rfl ?_;try go_frame
  refine tk 24 27 rfl ?_;try go_frame
  refine tk 25 28 rfl ?_;try go_frame
  refine tk 26 29 rfl ?_;try go_frame
  refine rd1 23 rfl (fun K hK=> ?_);go_simp
  refine (HPd.out _ F.out.b).mono ?_;rintro e W ⟨rfl,hb⟩;have F:=Live.hb F hb;clear hb;go_simp
  refine hK.out _ _ ⟨range_head (F.out.blk 0 rfl) rfl,F.out.cell 0 9 rfl rfl,F.out.cell 0 11 rfl rfl,F.out.cell 0 12 rfl rfl⟩ (fun hHeld=> ?_);clear hK K;try go_frame
  refine tk 27 30 rfl ?_;try go_frame
  refine tk 28 31 rfl ?_;try go_frame
  refine wpAnyH_done (by kernel_rfl) ?_ _;go_wp2_with fail
  exact HPn.out _ HE.out F.out.b
end
end Go.Proofs.YtdkiloganbhfkaaGreatDoor