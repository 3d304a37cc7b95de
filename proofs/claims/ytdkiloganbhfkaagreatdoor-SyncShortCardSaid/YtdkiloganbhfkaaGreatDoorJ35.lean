import Derived.Test.YtdkiloganbhfkaaGreatDoorJ34
set_option linter.unusedSimpArgs false
set_option linter.unusedVariables false
set_option maxHeartbeats 4000000
set_option maxRecDepth 100000
namespace Go.Proofs.YtdkiloganbhfkaaGreatDoor
section
open Go.RowKit Go.Instr
attribute [local go_sem] ba_get ByteArray.mk_append_mk
attribute [local go_sem ↓] Go.wp_at_zero Go.wp_at_succ
theorem acc_behind (w:World) (h:Hd) (h0:0≤h.epo) (h1:h.epo≤1048576) (A:Option Addr) (c:Nat):Calls Tryz.prog 113 #[.agg (η h [.slice A h.sk.length c])] w (Ret w (.int .i64 (Ac.behI h))):=by
 have HP:Hid (∀ x w',Ac.behI h=x→Below w.heap.size w w'→Ret w (.int .i64 (Ac.behI h)) (.returned (.int .i64 x)) w'):=ι (fun b w' e h=>by rw [e]; exact ⟨rfl,h⟩);have HX:Hid (Ac.behI h=if h.last then h.epo+1 else h.epo):=ι rfl;have hw:IntKind.i64.wrap (h.epo+1)=h.epo+1:=IntWalk.i64_in _ (by omega);generalize Ret w (.int .i64 (Ac.behI h))=P at HP ⊢;generalize Ac.behI h=X at *;go_enter Tryz.func113,Tryz.ntmps113
 go_upto_region 1 with fail
 have F0:=Live.ha (ι (Live.start w)) (η h [.slice A h.sk.length c]) 41;generalize World.alloc w _=W0 at F0 ⊢;generalize w.heap.size=xb at F0 ⊢;have k1:=(F0.out.blk 0 rfl).d1;have k3:=(F0.out.blk 0 rfl).d3;cases hl:h.last with
 |false=>
  rw [hl] at k3;have HE:Hid (X=h.epo):=ι (by rw [HX.out,hl]; rfl);clear hl HX;go_wp2_with fail
  exact HP.out _ _ HE.out F0.out.b
 |true=>
  rw [hl] at k3;have HE:Hid (X=h.epo+1):=ι (by rw [HX.out,hl]; rfl);clear hl HX;go_wp2_with fail
  exact HP.out _ _ HE.out F0.out.b
theorem z_25 {P:Prop} (h:P:=by
 clear HX c1 c2 c3;go_upto_region 2 with fail
 refine wp_region_held_drew (S:=fun w'=>w'.rangeAt tb 0 (η t [.slice tA t.sk.length tc])∧w'.cell? ⟨hb,1,none⟩=some (.int .i64 h.epo)) (by kernel_rfl) ⟨range_of_blk (F0.out.blk 1 rfl),F0.out.cell 0 1 rfl rfl⟩ (fun hHeld=> ?_);have F:=live_drew F0;generalize W0.drew=Wd at F hHeld ⊢;refine tk 0 12 rfl ?_;try go_frame
 refine tk 1 13 rfl ?_;try go_frame
 refine' wpAnyH_take (i:=2) (oi:=⟨some 14,_,_,_,_,_⟩) (v:=_) rfl (by kernel_rfl) (by kernel_rfl) (by kernel_rfl) (fun _ _ _ h=>h) (yieldsIf_load_mid (by rfl) _ _ rfl tb 0 rfl (η t [.slice tA t.sk.length tc]) _ (fun w h=>h.1) Tryz.underlying41 rfl SZH.out) (by assumption) ?_
 try go_frame
 refine rd1 3 rfl (fun K hK=> ?_);go_simp
 refine (HBe.out _).mono ?_;rintro e W ⟨rfl,hb'⟩;have F:=Live.hb F hb';clear hb';go_simp
 refine hK.out _ _ ⟨range_of_blk (F.out.blk 1 rfl),F.out.cell 0 1 rfl rfl⟩ (fun hHeld=> ?_);clear hK K;try go_frame
 refine tk 4 16 rfl ?_;try go_frame
 refine tk 5 11 rfl ?_;try go_frame
 refine wpAnyH_done (by kernel_rfl) ?_ _;clear hHeld;have k8:=(F.out.blk 0 rfl).d8;have k9:=(F.out.blk 1 rfl).d9;go_wp2_with fail
 exact HP.out _ _ HE.out F.out.b):P:=h
theorem acc_place (w:World) (t:Hd) (h0:0≤t.epo) (h1:t.epo≤1048576) (tA:Option Addr) (tc:Nat) (h:Hd) (hA:Option Addr) (hc:Nat):Calls Tryz.prog 82 #[.agg (η t [.slice tA t.sk.length tc]),.agg (η h [.slice hA h.sk.length hc])] w (Ret w (.int .i64 (Ac.placeC t h:Int))):=by
 have HP:Hid (∀ (x:Nat) w',Ac.placeC t h=x→Below w.heap.size w w'→Ret w (.int .i64 (Ac.placeC t h:Int)) (.returned (.int .i64 (x:Int))) w'):=ι (fun b w' e h=>by rw [e]; exact ⟨rfl,h⟩);have HX:Hid (Ac.placeC t h=if h.hgt≤t.hgt then 1 else if h.epo≠Ac.behI t then 340 else if h.mem≠t.nxt then 340 else 0):=ι rfl;have HBe:=ι (fun W=>acc_behind W t h0 h1 tA tc);have SZH:Hid ((Tryz.prog.info? 41).map (·.size)=some 11):=ι (by kernel_rfl);generalize Ret w (.int .i64 (Ac.placeC t h:Int))=P at HP ⊢;generalize Ac.placeC t h=X at *;generalize Ac.behI t=B at *;clear h0 h1;go_enter Tryz.func82,Tryz.ntmps82
 go_upto_region 1 with fail
 have F0:=Live.ha (Live.ha (ι (Live.start w)) (η t [.slice tA t.sk.length tc]) 41) (η h [.slice hA h.sk.length hc]) 41;rw [World.size_alloc] at F0;generalize (w.alloc (.cells (η t [.slice tA t.sk.length tc]) 41)).alloc (.cells (η h [.slice hA h.sk.length hc]) 41)=W0 at F0 ⊢;generalize hhb:w.heap.size+1=hb at F0 ⊢;clear hhb;generalize w.heap.size=tb at F0 ⊢;have k0:=(F0.out.blk 0 rfl).d0;have k2:=(F0.out.blk 1 rfl).d0;by_cases c1:h.hgt≤t.hgt
 ·have c1':(h.hgt≤t.hgt)=True:=by simp; omega
  have HE:Hid (X=1):=ι (HX.out.trans (if_pos c1));clear HX c1;go_wp2_with fail
  exact HP.out _ _ HE.out F0.out.b
 have c1':(h.hgt≤t.hgt)=False:=by simp; omega
 by_cases c2:h.epo=B;rotate_left
 ·have c2':(h.epo==B)=false:=by simp [c2]
  have c2n:(h.epo !=B)=true:=by simp [c2]
  have HE:Hid (X=340):=ι ((HX.out.trans (if_neg c1)).trans (if_pos c2));clear HX c1 c2;go_upto_region 2 with fail
  refine wp_region_held_drew (S:=fun w'=>w'.rangeAt tb 0 (η t [.slice tA t.sk.length tc])∧w'.cell? ⟨hb,1,none⟩=some (.int .i64 h.epo)) (by kernel_rfl) ⟨range_of_blk (F0.out.blk 1 rfl),F0.out.cell 0 1 rfl rfl⟩ (fun hHeld=> ?_);have F:=live_drew F0;generalize W0.drew=Wd at F hHeld ⊢;refine tk 0 12 rfl ?_;try go_frame
  refine tk 1 13 rfl ?_;try go_frame
  refine' wpAnyH_take (i:=2) (oi:=⟨some 14,_,_,_,_,_⟩) (v:=_) rfl (by kernel_rfl) (by kernel_rfl) (by kernel_rfl) (fun _ _ _ h=>h) (yieldsIf_load_mid (by rfl) _ _ rfl tb 0 rfl (η t [.slice tA t.sk.length tc]) _ (fun w h=>h.1) Tryz.underlying41 rfl SZH.out) (by assumption) ?_
  try go_frame
  refine rd1 3 rfl (fun K hK=> ?_);go_simp
  refine (HBe.out _).mono ?_;rintro e W ⟨rfl,hb'⟩;have F:=Live.hb F hb';clear hb';go_simp
  refine hK.out _ _ ⟨range_of_blk (F.out.blk 1 rfl),F.out.cell 0 1 rfl rfl⟩ (fun hHeld=> ?_);clear hK K;try go_frame
  refine tk 4 16 rfl ?_;try go_frame
  refine tk 5 11 rfl ?_;try go_frame
  refine wpAnyH_done (by kernel_rfl) ?_ _;go_wp2_with fail
  exact HP.out _ _ HE.out F.out.b
 have c2':(h.epo==B)=true:=by simp [c2]
 have c2n:(h.epo !=B)=false:=by simp [c2]
 by_cases c3:h.mem=t.nxt;rotate_left
 ·have c3':(h.mem==t.nxt)=false:=by simp [c3]
  have c3n:(h.mem !=t.nxt)=true:=by simp [c3]
  have HE:Hid (X=340):=ι (((HX.out.trans (if_neg c1)).trans (if_neg (by simpa using c2))).trans (if_pos c3));exact z_25
 ·have c3':(h.mem==t.nxt)=true:=by simp [c3]
  have c3n:(h.mem !=t.nxt)=false:=by simp [c3]
  have HE:Hid (X=0):=ι (((HX.out.trans (if_neg c1)).trans (if_neg (by simpa using c2))).trans (if_neg (by simpa using c3)));exact z_25
end
end Go.Proofs.YtdkiloganbhfkaaGreatDoor