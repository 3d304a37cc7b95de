import Derived.Test.YtnelhjfjkkdoaaaGreatDoorJ23
set_option linter.unusedSimpArgs false
set_option linter.unusedVariables false
set_option maxHeartbeats 4000000
set_option maxRecDepth 100000
namespace Go.Proofs.YtnelhjfjkkdoaaaGreatDoor
section
open Go.RowKit Go.Instr
attribute [local go_sem] ba_get ByteArray.mk_append_mk
theorem z_25 {P:Prop} (h:P:=by
 generalize World.alloc w _=W0 at F0 ⊢;generalize w.heap.size=xb at F0 ⊢;have k0:=(F0.out.blk 0 rfl).c8;go_wp2_with fail
 refine (HBr.out _).mono ?_;rintro e w1 ⟨rfl,hb⟩;have F1:=Live.hb F0 hb;clear hb F0 k0 HBr;have k0:=(F1.out.blk 0 rfl).c8;go_wp2_with fail
 refine (HNf.out _).mono ?_;rintro e w2 ⟨rfl,rfl⟩;go_wp2_with fail
 exact HPn.out _ HE.out F1.out.b):P:=h
theorem z_26 {P:Prop} (h:P:=by
 generalize World.alloc w _=W0 at F0 ⊢;generalize w.heap.size=xb at F0 ⊢;have k0:=(F0.out.blk 0 rfl).c8;go_wp2_with fail
 refine (HBr.out _).mono ?_;rintro e w1 ⟨rfl,hb⟩;have F1:=Live.hb F0 hb;clear hb F0 k0 HBr;have k0:=(F1.out.blk 0 rfl).c8;go_wp2_with fail
 refine (HNf.out _).mono ?_;rintro e w2 ⟨rfl,rfl⟩;go_wp2_with fail
 exact HPy.out _ HE.out F1.out.b):P:=h
theorem tx_Check (w:World) (kd:Int) (fr:List UInt8) (sq:Int) (dt:List UInt8) (am:Int) (ky vl:List UInt8) (mm:List Pw.Mem) (A:Option Addr) (c:Nat)
  (hfr:fr.length≤9223372036854775807) (hdt:dt.length≤9223372036854775807) (hky:ky.length≤9223372036854775807) (hvl:vl.length≤9223372036854775807) (hs:∀ x∈mm,x.1.length≤9223372036854775807) (HR:Reads w w.heap.size 2 A mm.length (mcells mm)):
  Calls Tryz.prog 161 #[.agg #[kd,fr,sq,dt,am,ky,vl,.slice A mm.length c]] w (Ret w (.int .i64 (if Ex.fineX ⟨kd,fr,sq,dt,am,ky,vl,mm⟩ then 0 else 150))):=by
 have HPn:Hid (∀ w',Ex.fineX ⟨kd,fr,sq,dt,am,ky,vl,mm⟩=false→Below w.heap.size w w'→Ret w (.int .i64 (if Ex.fineX ⟨kd,fr,sq,dt,am,ky,vl,mm⟩ then 0 else 150)) (.returned (.int .i64 150)) w'):=ι (fun w' e h=>by rw [e]; exact ⟨rfl,h⟩);have HPy:Hid (∀ w',Ex.fineX ⟨kd,fr,sq,dt,am,ky,vl,mm⟩=true→Below w.heap.size w w'→Ret w (.int .i64 (if Ex.fineX ⟨kd,fr,sq,dt,am,ky,vl,mm⟩ then 0 else 150)) (.returned (.int .i64 0)) w'):=ι (fun w' e h=>by rw [e]; exact ⟨rfl,h⟩);generalize Ret w (.int .i64 (if Ex.fineX ⟨kd,fr,sq,dt,am,ky,vl,mm⟩ then 0 else 150))=P at HPn HPy ⊢;have HX:Hid (Ex.fineX ⟨kd,fr,sq,dt,am,ky,vl,mm⟩=(Ex.bareX ⟨kd,fr,sq,dt,am,ky,vl,mm⟩ && (Ex.nameW fr && decide (0≤sq) && decide (sq≤1099511627776)) && (if kd=1 then Ex.nameW dt && decide (1≤am) && decide (am≤1099511627776)
  else if kd=2 then decide (1≤vl.length) && decide (vl.length≤32) && (decide (1≤ky.length) && decide (ky.length≤6))
  else if kd=3 then decide (1≤ky.length) && decide (ky.length≤6) else Pw.okM mm))):=ι rfl
 have HBr:=ι (fun W=>tx_bare W kd fr sq dt am ky vl mm A c);have HNf:=ι (fun W=>tx_name fr hfr W);have HNd:=ι (fun W=>tx_name dt hdt W);have HCk:=ι (fun W (hW:Below w.heap.size w W)=>power_Check W mm hs A c ((HR.below hW).more hW.size));have HLn:=ι (And.intro hky hvl);generalize Ex.fineX ⟨kd,fr,sq,dt,am,ky,vl,mm⟩=X at *;generalize Ex.bareX ⟨kd,fr,sq,dt,am,ky,vl,mm⟩=B at *;clear hs HR hfr hdt;cases B with
 |false=>
  have HE:Hid (X=false):=ι (by rw [HX.out]; rfl);clear HX;go_enter Tryz.func161,Tryz.ntmps161
  go_upto_region 1 with fail
  have F0:=Live.ha (ι (Live.start w)) #[kd,fr,sq,dt,am,ky,vl,.slice A mm.length c] 80;generalize World.alloc w _=W0 at F0 ⊢;generalize w.heap.size=xb at F0 ⊢;have k0:=(F0.out.blk 0 rfl).c8;go_wp2_with fail
  refine (HBr.out _).mono ?_;rintro e w1 ⟨rfl,hb⟩;have F1:=Live.hb F0 hb;clear hb F0 k0 HBr;have k0:=(F1.out.blk 0 rfl).c8;go_wp2_with fail
  exact HPn.out _ HE.out F1.out.b
 |true=>
 rw [Bool.true_and] at HX;cases hn:Ex.nameW fr with
 |false=>
  have HE:Hid (X=false):=ι (by rw [HX.out,hn]; rfl);rw [hn] at HNf;clear HX hn;go_enter Tryz.func161,Tryz.ntmps161
  go_upto_region 1 with fail
  have F0:=Live.ha (ι (Live.start w)) #[kd,fr,sq,dt,am,ky,vl,.slice A mm.length c] 80;exact z_25
 |true=>
 rw [hn] at HNf HX;rw [Bool.true_and] at HX;clear hn;by_cases q1:sq<0
 ·have q1':(sq<0)=True:=by simp; omega
  have HE:Hid (X=false):=ι (by rw [HX.out,decide_eq_false (show ¬0≤sq by omega)]; rfl);clear HX q1;go_enter Tryz.func161,Tryz.ntmps161
  go_upto_region 1 with fail
  have F0:=Live.ha (ι (Live.start w)) #[kd,fr,sq,dt,am,ky,vl,.slice A mm.length c] 80;exact z_25
 have q1':(sq<0)=False:=by simp; omega
 by_cases q2:1099511627776<sq
 ·have HE:Hid (X=false):=ι (by rw [HX.out,decide_eq_false (show ¬sq≤1099511627776 by omega)]; simp);clear HX q1;go_enter Tryz.func161,Tryz.ntmps161
  go_upto_region 1 with fail
  have F0:=Live.ha (ι (Live.start w)) #[kd,fr,sq,dt,am,ky,vl,.slice A mm.length c] 80;exact z_25
 have q2':(1099511627776<sq)=False:=by simp; omega
 rw [decide_eq_true (show 0≤sq by omega),decide_eq_true (show sq≤1099511627776 by omega),Bool.true_and,Bool.true_and] at HX;clear q1 q2;by_cases k1:kd=1
 ·subst k1;rw [if_pos rfl] at HX;go_enter Tryz.func161,Tryz.ntmps161
  go_upto_region 1 with fail
  have F0:=Live.ha (ι (Live.start w)) #[.int .i64 1,fr,sq,dt,am,ky,vl,.slice A mm.length c] 80;generalize World.alloc w _=W0 at F0 ⊢;generalize w.heap.size=xb at F0 ⊢;have k0:=(F0.out.blk 0 rfl).c8;go_wp2_with fail
  refine (HBr.out _).mono ?_;rintro e w1 ⟨rfl,hb⟩;have F1:=Live.hb F0 hb;clear hb F0 k0 HBr;have k0:=(F1.out.blk 0 rfl).c8;go_wp2_with fail
  refine (HNf.out _).mono ?_;rintro e w2 ⟨rfl,rfl⟩;cases hd:Ex.nameW dt with
  |false=>
   have HE:Hid (X=false):=ι (by rw [HX.out,hd]; rfl);rw [hd] at HNd;clear HX hd;go_wp2_with fail
   refine (HNd.out _).mono ?_;rintro e w2 ⟨rfl,rfl⟩;go_wp2_with fail
   exact HPn.out _ HE.out F1.out.b
  |true=>
   rw [hd] at HNd HX;rw [Bool.true_and] at HX;clear hd;by_cases a1:1≤am
   ·have a1':(1≤am)=True:=by simp; omega
    by_cases a2:am≤1099511627776
    ·have a2':(am≤1099511627776)=True:=by simp; omega
     have HE:Hid (X=true):=ι (by rw [HX.out,decide_eq_true a1,decide_eq_true a2]; rfl);clear HX a1 a2;go_wp2_with fail
     refine (HNd.out _).mono ?_;rintro e w2 ⟨rfl,rfl⟩;go_wp2_with fail
     exact HPy.out _ HE.out F1.out.b
    ·have a2':(am≤1099511627776)=False:=by simp; omega
     have HE:Hid (X=false):=ι (by rw [HX.out,decide_eq_false a2]; simp);clear HX a1 a2;go_wp2_with fail
     refine (HNd.out _).mono ?_;rintro e w2 ⟨rfl,rfl⟩;go_wp2_with fail
     exact HPn.out _ HE.out F1.out.b
   ·have a1':(1≤am)=False:=by simp; omega
    have HE:Hid (X=false):=ι (by rw [HX.out,decide_eq_false a1]; rfl);clear HX a1;go_wp2_with fail
    refine (HNd.out _).mono ?_;rintro e w2 ⟨rfl,rfl⟩;go_wp2_with fail
    exact HPn.out _ HE.out F1.out.b
 have kk1:(kd==1)=false:=by rw [beq_eq_false_iff_ne]; exact k1
 rw [if_neg k1] at HX;obtain ⟨hky,hvl⟩:=HLn.out;by_cases k2:kd=2
 ·subst k2;rw [if_pos rfl] at HX;clear k1;by_cases v1:vl= []
  ·subst v1;have HE:Hid (X=false):=ι (by rw [HX.out]; rfl);clear HX;go_enter Tryz.func161,Tryz.ntmps161
   go_upto_region 1 with fail
   have F0:=Live.ha (ι (Live.start w)) #[.int .i64 2,fr,sq,dt,am,ky,ε,.slice A mm.length c] 80;exact z_25
  have v1':(vl.toArray=#[])=False:=by simp [v1]
  have v1'':vl.isEmpty=false:=by simp [v1]
  rw [decide_eq_true (show 1≤vl.length from List.length_pos_iff.2 v1),Bool.true_and] at HX;by_cases v2:vl.length≤32;rotate_left
  ·have v2':((vl.length:Int)≤32)=False:=by simp; omega
   have HE:Hid (X=false):=ι (by rw [HX.out,decide_eq_false v2]; rfl);clear HX v1 v2;go_enter Tryz.func161,Tryz.ntmps161
   go_upto_region 1 with fail
   have F0:=Live.ha (ι (Live.start w)) #[.int .i64 2,fr,sq,dt,am,ky,vl,.slice A mm.length c] 80;exact z_25
  have v2':(vl.length:Int)≤32:=by omega
  rw [decide_eq_true v2,Bool.true_and] at HX;clear v1 v2;by_cases y1:ky= []
  ·subst y1;have HE:Hid (X=false):=ι (by rw [HX.out]; rfl);clear HX;go_enter Tryz.func161,Tryz.ntmps161
   go_upto_region 1 with fail
   have F0:=Live.ha (ι (Live.start w)) #[.int .i64 2,fr,sq,dt,am,ε,vl,.slice A mm.length c] 80;exact z_25
  have y1':(ky.toArray=#[])=False:=by simp [y1]
  have y1'':ky.isEmpty=false:=by simp [y1]
  rw [decide_eq_true (show 1≤ky.length from List.length_pos_iff.2 y1),Bool.true_and] at HX;by_cases y2:ky.length≤6;rotate_left
  ·have y2':((ky.length:Int)≤6)=False:=by simp; omega
   have HE:Hid (X=false):=ι (by rw [HX.out,decide_eq_false y2]);clear HX y1 y2;go_enter Tryz.func161,Tryz.ntmps161
   go_upto_region 1 with fail
   have F0:=Live.ha (ι (Live.start w)) #[.int .i64 2,fr,sq,dt,am,ky,vl,.slice A mm.length c] 80;exact z_25
  have y2':(ky.length:Int)≤6:=by omega
  have HE:Hid (X=true):=ι (by rw [HX.out,decide_eq_true y2]);clear HX y1 y2;go_enter Tryz.func161,Tryz.ntmps161
  go_upto_region 1 with fail
  have F0:=Live.ha (ι (Live.start w)) #[.int .i64 2,fr,sq,dt,am,ky,vl,.slice A mm.length c] 80;exact z_26
 have kk2:(kd==2)=false:=by rw [beq_eq_false_iff_ne]; exact k2
 rw [if_neg k2] at HX;by_cases k3:kd=3
 ·subst k3;rw [if_pos rfl] at HX;clear k1 k2;by_cases y1:ky= []
  ·subst y1;have HE:Hid (X=false):=ι (by rw [HX.out]; rfl);clear HX;go_enter Tryz.func161,Tryz.ntmps161
   go_upto_region 1 with fail
   have F0:=Live.ha (ι (Live.start w)) #[.int .i64 3,fr,sq,dt,am,ε,vl,.slice A mm.length c] 80;exact z_25
  have y1':(ky.toArray=#[])=False:=by simp [y1]
  have y1'':ky.isEmpty=false:=by simp [y1]
  rw [decide_eq_true (show 1≤ky.length from List.length_pos_iff.2 y1),Bool.true_and] at HX;by_cases y2:ky.length≤6;rotate_left
  ·have y2':((ky.length:Int)≤6)=False:=by simp; omega
   have HE:Hid (X=false):=ι (by rw [HX.out,decide_eq_false y2]);clear HX y1 y2;go_enter Tryz.func161,Tryz.ntmps161
   go_upto_region 1 with fail
   have F0:=Live.ha (ι (Live.start w)) #[.int .i64 3,fr,sq,dt,am,ky,vl,.slice A mm.length c] 80;exact z_25
  have y2':(ky.length:Int)≤6:=by omega
  have HE:Hid (X=true):=ι (by rw [HX.out,decide_eq_true y2]);clear HX y1 y2;go_enter Tryz.func161,Tryz.ntmps161
  go_upto_region 1 with fail
  have F0:=Live.ha (ι (Live.start w)) #[.int .i64 3,fr,sq,dt,am,ky,vl,.slice A mm.length c] 80;exact z_26
 have kk3:(kd==3)=false:=by rw [beq_eq_false_iff_ne]; exact k3
 rw [if_neg k3] at HX;clear k1 k2 k3;go_enter Tryz.func161,Tryz.ntmps161
 go_upto_region 1 with fail
 have F0:=Live.ha (ι (Live.start w)) #[kd,fr,sq,dt,am,ky,vl,.slice A mm.length c] 80;generalize World.alloc w _=W0 at F0 ⊢;generalize w.heap.size=xb at F0 ⊢;have k0:=(F0.out.blk 0 rfl).c8;go_wp2_with fail
 refine (HBr.out _).mono ?_;rintro e w1 ⟨rfl,hb⟩;have F1:=Live.hb F0 hb;clear hb F0 k0 HBr;have k0:=(F1.out.blk 0 rfl).c8;go_wp2_with fail
 refine (HNf.out _).mono ?_;rintro e w2 ⟨rfl,rfl⟩;go_wp2_with fail
 refine (HCk.out _ F1.out.b).mono ?_;rintro e w2 ⟨rfl,hb⟩;have F2:=Live.hb F1 hb;clear hb F1 k0;generalize Pw.okM mm=ok at *;cases ok with
 |false=>
  unfold codeM;go_wp2_with fail
  exact HPn.out _ HX.out F2.out.b
 |true=>
  unfold codeM;go_wp2_with fail
  exact HPy.out _ HX.out F2.out.b
end
end Go.Proofs.YtnelhjfjkkdoaaaGreatDoor