import Derived.Test.YtdkiloganbhfkaaGreatDoorJ13
import Derived.Test.YtdkiloganbhfkaaGreatDoorJ11
set_option linter.unusedSimpArgs false
set_option linter.unusedVariables false
set_option maxHeartbeats 4000000
set_option maxRecDepth 100000
namespace Go.Proofs.YtdkiloganbhfkaaGreatDoor
section
open Go.RowKit Go.Instr
attribute [local go_sem] ba_get ByteArray.mk_append_mk
theorem ref15_Name (n:List UInt8) (hl:n.length≤9223372036854775807) (w:World):
  Calls Tryz.prog 99 #[n] w fun e w'=>e= .returned (.bool (Ex.nameW n))∧w=w':=by
 by_cases h1:1≤n.length
 ·have h1':(1:Int)≤n.length:=by omega
  by_cases h6:n.length≤6
  ·have h6':(n.length:Int)≤6:=by omega
   have HE:Hid (Ex.nameW n=true):=ι (by unfold Ex.nameW; rw [decide_eq_true h1,decide_eq_true h6]; rfl);clear h1 h6;go_enter Tryz.func99,Tryz.ntmps99
   go_wp2
   go_ret
   exact ⟨ret_bool HE.out.symm,rfl⟩
  ·have h6':((n.length:Int)≤6)=False:=by simp; omega
   have HE:Hid (Ex.nameW n=false):=ι (by unfold Ex.nameW; rw [decide_eq_false h6,Bool.and_false]);clear h1 h6;go_enter Tryz.func99,Tryz.ntmps99
   go_wp2
   go_ret
   exact ⟨ret_bool HE.out.symm,rfl⟩
 ·have h1':((1:Int)≤n.length)=False:=by simp; omega
  have HE:Hid (Ex.nameW n=false):=ι (by unfold Ex.nameW; rw [decide_eq_false h1,Bool.false_and]);clear h1;go_enter Tryz.func99,Tryz.ntmps99
  go_wp2
  go_ret
  exact ⟨ret_bool HE.out.symm,rfl⟩
theorem z_2 {P:Prop} (h:P:=by
 clear H5;go_wp2_with fail
 exact HP.out _ _ HE.out (below_drewN F2.out.b _)):P:=h
theorem z_3 {P:Prop} (h:P:=by
 go_enter Tryz.func151,Tryz.ntmps151
 go_upto_region 1 with fail
 have F0:=Live.ha (ι (Live.start w)) #[kd,fr,sq,dt,am,ky,vl,.slice A mm.length c] 101;generalize World.alloc w _=W0 at F0 ⊢;generalize w.heap.size=xb at F0 ⊢;have k0:=(F0.out.blk 0 rfl).c8;go_wp2_with fail
 refine (HNf.out _).mono ?_;rintro e w1 ⟨rfl,rfl⟩;go_wp2_with fail
 exact HP.out _ _ HE.out F0.out.b):P:=h
theorem z_4 {P:Prop} (h:P:=by
 have HE:Hid (X=false):=ι (by rw [H5.out,hb0,hb1]; simp);exact z_2):P:=h
theorem z_5 {P:Prop} (h:P:=by
 have HE:Hid (X=false):=ι (by rw [H5.out,hb0]; simp);exact z_2):P:=h
theorem ref15_Fine (w:World) (kd:Int) (fr:List UInt8) (sq:Int) (dt:List UInt8) (am:Int) (ky vl:List UInt8) (mm:List Pw.Mem) (A:Option Addr) (c:Nat)
  (hok:fr.length≤9223372036854775807∧dt.length≤9223372036854775807∧ky.length≤9223372036854775807∧vl.length≤9223372036854775807∧∀ x∈mm,x.1.length≤9223372036854775807) (HR:Reads w w.heap.size 2 A mm.length (mcells mm)):
  Calls Tryz.prog 151 #[.agg #[kd,fr,sq,dt,am,ky,vl,.slice A mm.length c]] w (Ret w (.bool (Ex.fineX ⟨kd,fr,sq,dt,am,ky,vl,mm⟩))):=by
 have HP:Hid (∀ (b:Bool) w',Ex.fineX ⟨kd,fr,sq,dt,am,ky,vl,mm⟩=b→Below w.heap.size w w'→Ret w (.bool (Ex.fineX ⟨kd,fr,sq,dt,am,ky,vl,mm⟩)) (.returned (.bool b)) w'):=ι (fun b w' e h=>by rw [e]; exact ⟨rfl,h⟩);generalize Ret w (.bool (Ex.fineX ⟨kd,fr,sq,dt,am,ky,vl,mm⟩))=P at HP ⊢;have HX:Hid (Ex.fineX ⟨kd,fr,sq,dt,am,ky,vl,mm⟩=(Ex.bareX ⟨kd,fr,sq,dt,am,ky,vl,mm⟩ && (Ex.nameW fr && decide (0≤sq) && decide (sq≤1099511627776)) && Ex.ownX ⟨kd,fr,sq,dt,am,ky,vl,mm⟩)):=ι rfl;have HNf:=ι (fun W=>ref15_Name fr hok.1 W);have HNd:=ι (fun W=>ref15_Name dt hok.2.1 W);have HCk:=ι (fun W (hW:Below w.heap.size w W)=>ref05_Check W mm hok.2.2.2.2 A c ((HR.below hW).more hW.size));generalize Ex.fineX ⟨kd,fr,sq,dt,am,ky,vl,mm⟩=X at *;clear HR hok;cases hn:Ex.nameW fr with
 |false=>
  have HE:Hid (X=false):=ι (by rw [HX.out,hn]; simp);rw [hn] at HNf;clear HX hn;exact z_3
 |true=>
 rw [hn] at HNf;by_cases q1:sq<0
 ·have q1':(sq<0)=True:=by simp; omega
  have HE:Hid (X=false):=ι (by rw [HX.out,decide_eq_false (show ¬0≤sq by omega)]; simp);clear HX hn q1;exact z_3
 have q1':(sq<0)=False:=by simp; omega
 by_cases q2:1099511627776<sq
 ·have q2':(1099511627776<sq)=True:=by simp; omega
  have HE:Hid (X=false):=ι (by rw [HX.out,decide_eq_false (show ¬sq≤1099511627776 by omega)]; simp);clear HX hn q1;exact z_3
 have q2':(1099511627776<sq)=False:=by simp; omega
 rw [hn,decide_eq_true (show 0≤sq by omega),decide_eq_true (show sq≤1099511627776 by omega),Bool.true_and,Bool.true_and,Bool.and_true] at HX;clear q1 q2 hn;have hme:mm.isEmpty=((mm.length:Int)==0):=by cases mm with|nil=>rfl|cons a r=>simp; omega
 have hae:decide (am=0)=(am==0):=rfl;go_enter Tryz.func151,Tryz.ntmps151
 go_upto_region 1 with fail
 have F0:=Live.ha (ι (Live.start w)) #[kd,fr,sq,dt,am,ky,vl,.slice A mm.length c] 101;generalize World.alloc w _=W0 at F0 ⊢;generalize w.heap.size=xb at F0 ⊢;have k0:=(F0.out.blk 0 rfl).c8;go_wp2_with fail
 refine (HNf.out _).mono ?_;rintro e w1 ⟨rfl,rfl⟩;go_wp2_with fail
 go_quiet (fail)
 go_wp2_with fail
 go_quiet (fail)
 have F1:∀ a b,Hid (Live w ((W0.drewN a).drewN b) [(xb,101,#[kd,fr,sq,dt,am,ky,vl,.slice A mm.length c])]):=fun a b=>ι ((F0.out.drew a).drew b);generalize hW:World.drewN (World.drewN W0 _) _=W1;have F2:Hid (Live w W1 [(xb,101,#[kd,fr,sq,dt,am,ky,vl,.slice A mm.length c])]):=by rw [←hW]; exact F1 _ _
 clear hW F1 F0 k0;have k0:=(F2.out.blk 0 rfl).c8;by_cases k1:kd=1
 ·subst k1;have H5:Hid (X=(Ex.nameW dt && ((decide (1≤am) && decide (am≤1099511627776)) && (ky.isEmpty && (vl.isEmpty && ((mm.length:Int)==0)))))):=ι (by
   rw [HX.out,←hme];unfold Ex.bareX Ex.ownX;simp only [if_true];cases ky.isEmpty<;>cases vl.isEmpty<;>cases mm.isEmpty<;>simp [Bool.and_assoc])
  clear HX hme hae;by_cases a1:1≤am
  ·have a1p:decide (1≤am)=true:=decide_eq_true a1;rw [a1p,Bool.true_and] at H5;clear a1;go_wp2_with fail
   go_quiet ((go_at_call 99; exact Calls.quiet_of_same ((HNd.out _).mono fun _ _ h=>⟨h.1,h.2.symm⟩)))
   go_upto_region 15 with fail
   cases hb0:Ex.nameW dt with
   |false=>
    exact z_5
   |true=>
   cases hb1:decide (am≤1099511627776) with
   |false=>
    exact z_4
   |true=>
   cases hb2:ky.isEmpty with
   |false=>
    have HE:Hid (X=false):=ι (by rw [H5.out,hb0,hb1,hb2]; simp);exact z_2
   |true=>
   cases hb3:vl.isEmpty with
   |false=>
    have HE:Hid (X=false):=ι (by rw [H5.out,hb0,hb1,hb2,hb3]; simp);exact z_2
   |true=>
   cases hb4:((mm.length:Int)==0) with
   |false=>
    have HE:Hid (X=false):=ι (by rw [H5.out,hb0,hb1,hb2,hb3,hb4]; simp);exact z_2
   |true=>
   have HE:Hid (X=true):=ι (by rw [H5.out,hb0,hb1,hb2,hb3,hb4]; rfl);exact z_2
  ·have a1p:decide (1≤am)=false:=decide_eq_false a1;rw [a1p,Bool.false_and] at H5;clear a1;go_wp2_with fail
   go_quiet ((go_at_call 99; exact Calls.quiet_of_same ((HNd.out _).mono fun _ _ h=>⟨h.1,h.2.symm⟩)))
   go_upto_region 15 with fail
   cases hb0:Ex.nameW dt with
   |false=>
    exact z_5
   |true=>
   exact z_5
 have j1:(kd==1)=false:=by simp; exact k1
 by_cases k2:kd=2
 ·subst k2;have H5:Hid (X=(dt.isEmpty && ((am==0) && ((decide ((1:Int)≤ky.length) && decide ((ky.length:Int)≤6)) && ((decide ((1:Int)≤vl.length) && decide ((vl.length:Int)≤32)) && ((mm.length:Int)==0)))))):=ι (by
   rw [HX.out,←hme,←hae];unfold Ex.bareX Ex.ownX;simp only [if_true];rw [if_neg (by decide),if_neg (by decide),show decide ((1:Int)≤ky.length)=decide (1≤ky.length) by rw [decide_eq_decide]; omega,show decide ((1:Int)≤vl.length)=decide (1≤vl.length) by rw [decide_eq_decide]; omega,show decide ((ky.length:Int)≤6)=decide (ky.length≤6) by rw [decide_eq_decide]; omega,show decide ((vl.length:Int)≤32)=decide (vl.length≤32) by rw [decide_eq_decide]; omega];generalize decide (1≤ky.length)=x1;generalize decide (ky.length≤6)=x2;generalize decide (1≤vl.length)=x3;generalize decide (vl.length≤32)=x4;generalize decide (am=0)=x5;generalize dt.isEmpty=x6;generalize mm.isEmpty=x7;revert x1 x2 x3 x4 x5 x6 x7;decide)
  clear HX hme hae j1;by_cases a1:(1:Int)≤ky.length
  ·have a1p:decide ((1:Int)≤ky.length)=true:=decide_eq_true a1;rw [a1p,Bool.true_and] at H5;clear a1;by_cases a2:(1:Int)≤vl.length
   ·have a2p:decide ((1:Int)≤vl.length)=true:=decide_eq_true a2;rw [a2p,Bool.true_and] at H5;clear a2;go_wp2_with fail
    go_quiet (fail)
    go_upto_region 15 with fail
    cases hb0:dt.isEmpty with
    |false=>
     exact z_5
    |true=>
    cases hb1:(am==0) with
    |false=>
     exact z_4
    |true=>
    cases hb2:decide ((ky.length:Int)≤6) with
    |false=>
     have HE:Hid (X=false):=ι (by rw [H5.out,hb0,hb1,hb2]; simp);exact z_2
    |true=>
    cases hb3:decide ((vl.length:Int)≤32) with
    |false=>
     have HE:Hid (X=false):=ι (by rw [H5.out,hb0,hb1,hb2,hb3]; simp);exact z_2
    |true=>
    cases hb4:((mm.length:Int)==0) with
    |false=>
     have HE:Hid (X=false):=ι (by rw [H5.out,hb0,hb1,hb2,hb3,hb4]; simp);exact z_2
    |true=>
    have HE:Hid (X=true):=ι (by rw [H5.out,hb0,hb1,hb2,hb3,hb4]; rfl);exact z_2
   ·have a2p:decide ((1:Int)≤vl.length)=false:=decide_eq_false a2;rw [a2p,Bool.false_and] at H5;clear a2;go_wp2_with fail
    go_quiet (fail)
    go_upto_region 15 with fail
    cases hb0:dt.isEmpty with
    |false=>
     exact z_5
    |true=>
    cases hb1:(am==0) with
    |false=>
     exact z_4
    |true=>
    cases hb2:decide ((ky.length:Int)≤6) with
    |false=>
     have HE:Hid (X=false):=ι (by rw [H5.out,hb0,hb1,hb2]; simp);exact z_2
    |true=>
    have HE:Hid (X=false):=ι (by rw [H5.out,hb0,hb1,hb2]; simp);exact z_2
  ·have a1p:decide ((1:Int)≤ky.length)=false:=decide_eq_false a1;rw [a1p,Bool.false_and] at H5;clear a1;by_cases a2:(1:Int)≤vl.length
   ·have a2p:decide ((1:Int)≤vl.length)=true:=decide_eq_true a2;rw [a2p,Bool.true_and] at H5;clear a2;go_wp2_with fail
    go_quiet (fail)
    go_upto_region 15 with fail
    cases hb0:dt.isEmpty with
    |false=>
     exact z_5
    |true=>
    cases hb1:(am==0) with
    |false=>
     exact z_4
    |true=>
    exact z_4
   ·have a2p:decide ((1:Int)≤vl.length)=false:=decide_eq_false a2;rw [a2p,Bool.false_and] at H5;clear a2;go_wp2_with fail
    go_quiet (fail)
    go_upto_region 15 with fail
    cases hb0:dt.isEmpty with
    |false=>
     exact z_5
    |true=>
    cases hb1:(am==0) with
    |false=>
     exact z_4
    |true=>
    exact z_4
 have j2:(kd==2)=false:=by simp; exact k2
 by_cases k3:kd=3
 ·subst k3;have H5:Hid (X=(dt.isEmpty && ((am==0) && ((decide ((1:Int)≤ky.length) && decide ((ky.length:Int)≤6)) && (vl.isEmpty && ((mm.length:Int)==0)))))):=ι (by
   rw [HX.out,←hme,←hae];unfold Ex.bareX Ex.ownX;simp only [if_true];rw [if_neg (by decide),if_neg (by decide),if_neg (by decide),if_neg (by decide),show decide ((1:Int)≤ky.length)=decide (1≤ky.length) by rw [decide_eq_decide]; omega,show decide ((ky.length:Int)≤6)=decide (ky.length≤6) by rw [decide_eq_decide]; omega];generalize decide (1≤ky.length)=x1;generalize decide (ky.length≤6)=x2;generalize vl.isEmpty=x3;generalize decide (am=0)=x5;generalize dt.isEmpty=x6;generalize mm.isEmpty=x7;revert x1 x2 x3 x5 x6 x7;decide)
  clear HX hme hae j1 j2 k1 k2;by_cases a1:(1:Int)≤ky.length
  ·have a1p:decide ((1:Int)≤ky.length)=true:=decide_eq_true a1;rw [a1p,Bool.true_and] at H5;go_upto_region 15 with fail
   cases hb0:dt.isEmpty with
   |false=>
    have HE:Hid (X=false):=ι (by rw [H5.out,hb0]; simp);clear H5;go_wp2_with fail
    exact HP.out _ _ HE.out F2.out.b
   |true=>
   cases hb1:(am==0) with
   |false=>
    have HE:Hid (X=false):=ι (by rw [H5.out,hb0,hb1]; simp);clear H5;go_wp2_with fail
    exact HP.out _ _ HE.out F2.out.b
   |true=>
   cases hb2:decide ((ky.length:Int)≤6) with
   |false=>
    have HE:Hid (X=false):=ι (by rw [H5.out,hb0,hb1,hb2]; simp);clear H5;go_wp2_with fail
    exact HP.out _ _ HE.out F2.out.b
   |true=>
   cases hb3:vl.isEmpty with
   |false=>
    have HE:Hid (X=false):=ι (by rw [H5.out,hb0,hb1,hb2,hb3]; simp);clear H5;go_wp2_with fail
    exact HP.out _ _ HE.out F2.out.b
   |true=>
   cases hb4:((mm.length:Int)==0) with
   |false=>
    have HE:Hid (X=false):=ι (by rw [H5.out,hb0,hb1,hb2,hb3,hb4]; simp);clear H5;go_wp2_with fail
    exact HP.out _ _ HE.out F2.out.b
   |true=>
   have HE:Hid (X=true):=ι (by rw [H5.out,hb0,hb1,hb2,hb3,hb4]; rfl);clear H5;go_wp2_with fail
   exact HP.out _ _ HE.out F2.out.b
  ·have a1p:decide ((1:Int)≤ky.length)=false:=decide_eq_false a1;rw [a1p,Bool.false_and] at H5;have a1q:((1:Int)≤ky.length)=False:=by simp only [eq_iff_iff,iff_false]; exact a1
   clear a1;go_upto_region 15 with fail
   cases hb0:dt.isEmpty with
   |false=>
    have HE:Hid (X=false):=ι (by rw [H5.out,hb0]; simp);clear H5;go_wp2_with fail
    exact HP.out _ _ HE.out F2.out.b
   |true=>
   cases hb1:(am==0) with
   |false=>
    have HE:Hid (X=false):=ι (by rw [H5.out,hb0,hb1]; simp);clear H5;go_wp2_with fail
    exact HP.out _ _ HE.out F2.out.b
   |true=>
   have HE:Hid (X=false):=ι (by rw [H5.out,hb0,hb1]; simp);clear H5;go_wp2_with fail
   exact HP.out _ _ HE.out F2.out.b
 have j3:(kd==3)=false:=by simp; exact k3
 by_cases k4:kd=4
 ·subst k4;have H5:Hid (X=(dt.isEmpty && ((am==0) && (ky.isEmpty && (vl.isEmpty && Pw.okM mm))))):=ι (by
   rw [HX.out,←hae];unfold Ex.bareX Ex.ownX;simp only [if_true];rw [if_neg (by decide),if_neg (by decide),if_neg (by decide),if_neg (by decide),if_neg (by decide),if_neg (by decide)];simp only [Bool.and_assoc])
  clear HX hme hae j1 j2 j3 k1 k2 k3;have HCk2:=ι (HCk.out _ F2.out.b);clear HCk;cases hok:Pw.okM mm with
  |true=>
   rw [hok] at H5 HCk2;clear hok;simp only [codeM,if_true] at HCk2;go_wp2_with fail
   refine HCk2.out.mono ?_;rintro e w2 ⟨rfl,hb⟩;have F3:=Live.hb F2 hb;clear hb F2 k0 HCk2;go_upto_region 15 with fail
   cases hb0:dt.isEmpty with
   |false=>
    have HE:Hid (X=false):=ι (by rw [H5.out,hb0]; simp);clear H5;go_wp2_with fail
    exact HP.out _ _ HE.out F3.out.b
   |true=>
   cases hb1:(am==0) with
   |false=>
    have HE:Hid (X=false):=ι (by rw [H5.out,hb0,hb1]; simp);clear H5;go_wp2_with fail
    exact HP.out _ _ HE.out F3.out.b
   |true=>
   cases hb2:ky.isEmpty with
   |false=>
    have HE:Hid (X=false):=ι (by rw [H5.out,hb0,hb1,hb2]; simp);clear H5;go_wp2_with fail
    exact HP.out _ _ HE.out F3.out.b
   |true=>
   cases hb3:vl.isEmpty with
   |false=>
    have HE:Hid (X=false):=ι (by rw [H5.out,hb0,hb1,hb2,hb3]; simp);clear H5;go_wp2_with fail
    exact HP.out _ _ HE.out F3.out.b
   |true=>
   have HE:Hid (X=true):=ι (by rw [H5.out,hb0,hb1,hb2,hb3]; rfl);clear H5;go_wp2_with fail
   exact HP.out _ _ HE.out F3.out.b
  |false=>
   rw [hok] at H5 HCk2;clear hok;simp only [codeM,Bool.false_eq_true,if_false] at HCk2;go_wp2_with fail
   refine HCk2.out.mono ?_;rintro e w2 ⟨rfl,hb⟩;have F3:=Live.hb F2 hb;clear hb F2 k0 HCk2;go_upto_region 15 with fail
   cases hb0:dt.isEmpty with
   |false=>
    have HE:Hid (X=false):=ι (by rw [H5.out,hb0]; simp);clear H5;go_wp2_with fail
    exact HP.out _ _ HE.out F3.out.b
   |true=>
   cases hb1:(am==0) with
   |false=>
    have HE:Hid (X=false):=ι (by rw [H5.out,hb0,hb1]; simp);clear H5;go_wp2_with fail
    exact HP.out _ _ HE.out F3.out.b
   |true=>
   cases hb2:ky.isEmpty with
   |false=>
    have HE:Hid (X=false):=ι (by rw [H5.out,hb0,hb1,hb2]; simp);clear H5;go_wp2_with fail
    exact HP.out _ _ HE.out F3.out.b
   |true=>
   cases hb3:vl.isEmpty with
   |false=>
    have HE:Hid (X=false):=ι (by rw [H5.out,hb0,hb1,hb2,hb3]; simp);clear H5;go_wp2_with fail
    exact HP.out _ _ HE.out F3.out.b
   |true=>
   have HE:Hid (X=false):=ι (by rw [H5.out,hb0,hb1,hb2,hb3]; simp);clear H5;go_wp2_with fail
   exact HP.out _ _ HE.out F3.out.b
 have j4:(kd==4)=false:=by simp; exact k4
 have HE:Hid (X=false):=ι (by
  rw [HX.out];unfold Ex.bareX;simp only
  rw [if_neg k1,if_neg k2,if_neg k3,if_neg k4];rfl)
 clear HX hme hae k1 k2 k3 k4;go_wp2_with fail
 exact HP.out _ _ HE.out F2.out.b
end
end Go.Proofs.YtdkiloganbhfkaaGreatDoor