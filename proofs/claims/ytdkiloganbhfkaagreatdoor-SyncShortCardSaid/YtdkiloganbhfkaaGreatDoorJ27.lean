import Derived.Test.YtdkiloganbhfkaaGreatDoorJ26
import Derived.Test.YtdkiloganbhfkaaGreatDoorJ15
set_option linter.unusedSimpArgs false
set_option linter.unusedVariables false
set_option maxHeartbeats 4000000
set_option maxRecDepth 100000
namespace Go.Proofs.YtdkiloganbhfkaaGreatDoor
section
open Go.RowKit Go.Instr
attribute [local go_sem] ba_get ByteArray.mk_append_mk
attribute [local go_sem ↓] Go.wp_at_zero Go.wp_at_succ
theorem ref19_Fine (w:World) (h:Hd) (o:OkH h) (A:Option Addr) (c:Nat) (HR:Reads w w.heap.size 1 A h.sk.length (strv h.sk)):
  Calls Tryz.prog 92 #[.agg (η h [.slice A h.sk.length c])] w (Ret w (.bool (Hd.ok h))):=by
 have HP:Hid (∀ (b:Bool) w',Hd.ok h=b→Below w.heap.size w w'→Ret w (.bool (Hd.ok h)) (.returned (.bool b)) w'):=ι (fun b w' e h=>by rw [e]; exact ⟨rfl,h⟩);generalize Ret w (.bool (Hd.ok h))=P at HP ⊢;have HN:Hid (¬Hd.Ok h→Hd.ok h=false):=ι (fun e=>by rw [Bool.eq_false_iff]; exact fun e2=>e ((Hd.ok_iff h).1 e2));have HYs:Hid (Hd.Ok h→Hd.ok h=true):=ι (fun e=>(Hd.ok_iff h).2 e);generalize Hd.ok h=X at *;have HLk:=ι (fun W=>refskip_Links_all h.hgt W);have hlk22:(Hd.linksH h.hgt).length≤22:=Hd.linksH_len _;simp only [linksV_eq] at HLk;have HO:=ι o;have HRR:=ι HR;clear o HR;go_enter Tryz.func92,Tryz.ntmps92
 go_upto_region 1 with fail
 have F0:=Live.ha (ι (Live.start w)) (η h [.slice A h.sk.length c]) 41;generalize World.alloc w _=W0 at F0 ⊢;generalize w.heap.size=xb at F0 ⊢;obtain ⟨k0_0,k0_1,k0_2,k0_3,k0_4,k0_5,k0_6,k0_7,k0_8,k0_9,k0_10⟩:=(F0.out.blk 0 rfl).c11;by_cases a1:h.hgt<0
 ·have HE:Hid (X=false):=ι (HN.out (fun o=>by have:=o.h0; omega));clear HN;go_wp2_with fail
  exact HP.out _ _ HE.out F0.out.b
 have a1':(h.hgt<0)=False:=by simp; omega
 by_cases a2:1048576<h.hgt
 ·have HE:Hid (X=false):=ι (HN.out (fun o=>by have:=o.h1; omega));clear HN;go_wp2_with fail
  exact HP.out _ _ HE.out F0.out.b
 have a2':(1048576<h.hgt)=False:=by simp; omega
 by_cases a3:h.epo<0
 ·have HE:Hid (X=false):=ι (HN.out (fun o=>by have:=o.e0; omega));clear HN;go_wp2_with fail
  exact HP.out _ _ HE.out F0.out.b
 have a3':(h.epo<0)=False:=by simp; omega
 by_cases a4:1048576<h.epo
 ·have HE:Hid (X=false):=ι (HN.out (fun o=>by have:=o.e1; omega));clear HN;go_wp2_with fail
  exact HP.out _ _ HE.out F0.out.b
 have a4':(1048576<h.epo)=False:=by simp; omega
 by_cases a5:h.vw<0
 ·have HE:Hid (X=false):=ι (HN.out (fun o=>by have:=o.v0; omega));clear HN;go_wp2_with fail
  exact HP.out _ _ HE.out F0.out.b
 have a5':(h.vw<0)=False:=by simp; omega
 by_cases a6:1048576<h.vw
 ·have HE:Hid (X=false):=ι (HN.out (fun o=>by have:=o.v1; omega));clear HN;go_wp2_with fail
  exact HP.out _ _ HE.out F0.out.b
 have a6':(1048576<h.vw)=False:=by simp; omega
 have HNum:=ι (show 0≤h.hgt∧h.hgt≤1048576∧0≤h.epo∧h.epo≤1048576∧0≤h.vw∧h.vw≤1048576 by omega);clear a1 a2 a3 a4 a5 a6;go_upto_region 3 with fail
 clear a1' a2' a3' a4' a5' a6';have e1:=len32 h.tx;cases b1:Hd.sumB h.tx with
 |false=>
  rw [b1] at e1;have w1:((h.tx.length:Int) !=32)=true:=by rw [bne,e1]; rfl
  have HE:Hid (X=false):=ι (HN.out (fun o=>by have:=Hd.sumB_iff.2 o.tx; rw [b1] at this; cases this));clear HN;go_wp2_with fail
  exact HP.out _ _ HE.out F0.out.b
 |true=>
 rw [b1] at e1;have w1:((h.tx.length:Int) !=32)=false:=by rw [bne,e1]; rfl
 have e2:=len32 h.mem;cases b2:Hd.sumB h.mem with
 |false=>
  rw [b2] at e2;have w2:((h.mem.length:Int) !=32)=true:=by rw [bne,e2]; rfl
  have HE:Hid (X=false):=ι (HN.out (fun o=>by have:=Hd.sumB_iff.2 o.mem; rw [b2] at this; cases this));clear HN;go_wp2_with fail
  exact HP.out _ _ HE.out F0.out.b
 |true=>
 rw [b2] at e2;have w2:((h.mem.length:Int) !=32)=false:=by rw [bne,e2]; rfl
 have e3:=len32 h.nxt;cases b3:Hd.sumB h.nxt with
 |false=>
  rw [b3] at e3;have w3:((h.nxt.length:Int) !=32)=true:=by rw [bne,e3]; rfl
  have HE:Hid (X=false):=ι (HN.out (fun o=>by have:=Hd.sumB_iff.2 o.nxt; rw [b3] at this; cases this));clear HN;go_wp2_with fail
  exact HP.out _ _ HE.out F0.out.b
 |true=>
 rw [b3] at e3;have w3:((h.nxt.length:Int) !=32)=false:=by rw [bne,e3]; rfl
 have e4:=len32 h.st;have m4:(h.st== [])=true∨(h.st== [])=false∧Hd.sumB h.st=true∨(h.st== [])=false∧Hd.sumB h.st=false:=by cases h.st== []<;>cases Hd.sumB h.st<;>simp
 have e5:=len32 h.rc;have m5:(h.rc== [])=true∨(h.rc== [])=false∧Hd.sumB h.rc=true∨(h.rc== [])=false∧Hd.sumB h.rc=false:=by cases h.rc== []<;>cases Hd.sumB h.rc<;>simp
 have HM:Hid (¬(h.st= []∨h.st.length=32)→X=false):=ι (fun e=>HN.out (fun o=>e o.st));have HM2:Hid (¬(h.rc= []∨h.rc.length=32)→X=false):=ι (fun e=>HN.out (fun o=>e o.rc));have q4:(h.st= []∨h.st.length=32)∨X=false∧(h.st== [])=false∧((h.st.length:Int)==32)=false:=by
  rcases m4 with m|⟨m,m'⟩|⟨m,m'⟩
  ·exact .inl (.inl (by simpa using m))
  ·exact .inl (.inr (Hd.sumB_iff.1 m'))
  ·refine .inr ⟨HM.out ?_,m,by rw [e4,m']⟩;rintro (e|e)
   ·rw [e] at m; cases m
   ·rw [Hd.sumB_iff.2 e] at m'; cases m'
 have q5:(h.rc= []∨h.rc.length=32)∨X=false∧(h.rc== [])=false∧((h.rc.length:Int)==32)=false:=by
  rcases m5 with m|⟨m,m'⟩|⟨m,m'⟩
  ·exact .inl (.inl (by simpa using m))
  ·exact .inl (.inr (Hd.sumB_iff.1 m'))
  ·refine .inr ⟨HM2.out ?_,m,by rw [e5,m']⟩;rintro (e|e)
   ·rw [e] at m; cases m
   ·rw [Hd.sumB_iff.2 e] at m'; cases m'
 have HL3:=ι (And.intro (Hd.sumB_iff.1 b1) (And.intro (Hd.sumB_iff.1 b2) (Hd.sumB_iff.1 b3)));clear HM HM2 b1 b2 b3;rcases q4 with q4|⟨hx,x1,x2⟩
 rotate_left
 ·have HE:=ι hx;have x3:h.st.isEmpty=false:=by rw [beq_eq_false_iff_ne] at x1; simp [x1]
  have x4:(h.st != [])=true:=by rw [bne,x1]; rfl
  have x5:((h.st.length:Int) !=32)=true:=by rw [bne,x2]; rfl
  clear hx m4 m5 e4 e5 q5;go_wp2_with fail
  exact HP.out _ _ HE.out F0.out.b
 have s4:(h.st== [])=true∨(h.st== [])=false∧((h.st.length:Int)==32)=true:=by
  rcases q4 with e|e
  ·exact .inl (by rw [e]; rfl)
  ·refine .inr ⟨?_,by rw [e4,Hd.sumB_iff.2 e]⟩;cases hh:h.st with
   |nil=>rw [hh] at e; simp at e
   |cons a r=>rfl
 have HQ4:=ι q4;rcases q5 with q5|⟨hx,x1,x2⟩
 rotate_left
 ·have HE:=ι hx;have x3:h.rc.isEmpty=false:=by rw [beq_eq_false_iff_ne] at x1; simp [x1]
  have x4:(h.rc != [])=true:=by rw [bne,x1]; rfl
  have x5:((h.rc.length:Int) !=32)=true:=by rw [bne,x2]; rfl
  clear hx m4 m5 e4 e5 q4;rcases s4 with s4|⟨s4,s4'⟩
  ·have y3:h.st.isEmpty=true:=by simpa using s4
   have y4:(h.st != [])=false:=by rw [bne,s4]; rfl
   go_wp2_with fail
   exact HP.out _ _ HE.out F0.out.b
  ·have y3:h.st.isEmpty=false:=by rw [beq_eq_false_iff_ne] at s4; simp [s4]
   have y4:(h.st != [])=true:=by rw [bne,s4]; rfl
   have y5:((h.st.length:Int) !=32)=false:=by rw [bne,s4']; rfl
   go_wp2_with fail
   exact HP.out _ _ HE.out F0.out.b
 have s5:(h.rc== [])=true∨(h.rc== [])=false∧((h.rc.length:Int)==32)=true:=by
  rcases q5 with e|e
  ·exact .inl (by rw [e]; rfl)
  ·refine .inr ⟨?_,by rw [e5,Hd.sumB_iff.2 e]⟩;cases hh:h.rc with
   |nil=>rw [hh] at e; simp at e
   |cons a r=>rfl
 have HQ5:=ι q5;clear m4 m5 e4 e5 q4 q5;go_cut [69] (fun s wx=>s= .bool false∧W0=wx)
 case first=>
  have z4:(h.st.isEmpty=true∧(h.st != [])=false)∨(h.st.isEmpty=false∧(h.st != [])=true)∧(h.st== [])=false∧((h.st.length:Int) !=32)=false:=by
   rcases s4 with s4|⟨s4,s4'⟩
   ·exact .inl ⟨by simpa using s4,by rw [bne,s4]; rfl⟩
   ·exact .inr ⟨⟨by rw [beq_eq_false_iff_ne] at s4; simp [s4],by rw [bne,s4]; rfl⟩,s4,by rw [bne,s4']; rfl⟩
  have z5:(h.rc.isEmpty=true∧(h.rc != [])=false)∨(h.rc.isEmpty=false∧(h.rc != [])=true)∧(h.rc== [])=false∧((h.rc.length:Int) !=32)=false:=by
   rcases s5 with s5|⟨s5,s5'⟩
   ·exact .inl ⟨by simpa using s5,by rw [bne,s5]; rfl⟩
   ·exact .inr ⟨⟨by rw [beq_eq_false_iff_ne] at s5; simp [s5],by rw [bne,s5]; rfl⟩,s5,by rw [bne,s5']; rfl⟩
  clear s4 s5;rcases z4 with ⟨z4,z4a⟩|⟨⟨z4,z4a⟩,z4',z4''⟩<;>rcases z5 with ⟨z5,z5a⟩|⟨⟨z5,z5a⟩,z5',z5''⟩
  all_goals
   go_wp2_with fail
   go_meet
   exact ⟨rfl,rfl⟩
 case rest=>
 obtain ⟨h69,hw9⟩:=hcut;subst h69;subst hw9;clear s4 s5 w1 w2 w3 k0_1 k0_2 k0_3 k0_4 k0_5 k0_6 k0_7 k0_8 k0_9 e1 e2 e3;go_upto_region 5 with fail
 go_region_held3 (fun w'=>w'.cell? ⟨xb,0,none⟩=some (.int .i64 h.hgt)∧w'.cell? ⟨xb,10,none⟩=some (.slice A h.sk.length c)) (first|go_keep|(refine ⟨?_,?_⟩<;>assumption)) (first|(go_at_call 110; ((with_reducible refine (HLk.out _).mono ?_); (rintro e w2 ⟨v2,rfl,own2,hb⟩; obtain ⟨A2,c2,rfl,_,_,_⟩:=own_form own2; (first|have F0:=Live.hb F0 hb|have F0:=Live.hbd F0 hb); clear hb own2; have k0_0:=(F0.out.blk 0 rfl).d0; have k0_10:w2.cell? ⟨xb,10,none⟩=some (.slice A h.sk.length c):=F0.out.cell 0 10 rfl rfl))))
 all_goals
  clear k0_0 k0_10;by_cases c1:h.sk.length=(Hd.linksH h.hgt).length;rotate_left
  ·have c1':((h.sk.length:Int) !=((Hd.linksH h.hgt).length:Int))=true:=by rw [bne_iff_ne]; omega
   have HE:Hid (X=false):=ι (HN.out (fun o=>c1 o.sk));clear HN c1;go_wp2_with fail
   exact HP.out _ _ HE.out F0.out.b
  have c1':((h.sk.length:Int) !=((Hd.linksH h.hgt).length:Int))=false:=by rw [c1]; simp
  have HC1:=ι c1;clear c1;go_wp2_with fail
  refine wp_loop_ghost_k (fun k a wr=>∀ Φ:Act→Prop,(∀ ⦃s0 s2 s4 s5 s6 s7 s8 s9 s1 s3 a0 a7 a8 a9 b0 b4 b5 b6 b7 b8 b9 c0 c3 c4 c5 c6 c7 c8 c9 d1 d2 d3 d4 d5 d6 d7 d8 d9 e6 e7 e8 e9 f0 f1 f2 f3 f4 f5 f6 f7 f8 f9 g1 g2 g3 g4 g5 g6 g7 g8 g9 h3 h4 h5 h6 h7 h8 h9 i0 i1 i2 i3 i4 i5 i6 i7 i8 i9 j0 j1 j2 j3 j4 j5 j6 j7 j8 j9 k0 k2 k3 k4 k5 k6 k7 k8 k9 l0 l1 l2 l3 l4 l5 l6 l7 l8 l9 m0 m1 m2 m3 m6 m7 m8 m9 n0 n1 n2 n3 n4 n5 n6 n7 n8 n9:Value⦄ (i:Nat),(i+k=h.sk.length∧(∀ s∈h.sk.take i,s.length=32)∧Live w wr [(xb,41,(η h [.slice A h.sk.length c]))])→Φ {tmps:=#[s0,.pointer (some ⟨xb,0,none⟩),s2,.int .i64 (i:Int),s4,s5,s6,s7,s8,s9,s1,s3,a0,a7,a8,a9,b0,b4,b5,b6,b7,b8,b9,c0,c3,c4,c5,c6,c7,c8,c9,d1,d2,d3,d4,d5,d6,d7,d8,d9,e6,e7,e8,e9,f0,f1,f2,f3,f4,f5,f6,f7,f8,f9,g1,g2,g3,g4,g5,g6,g7,g8,g9,h3,h4,h5,h6,h7,h8,h9,i0,i1,i2,i3,i4,i5,i6,i7,i8,i9,j0,j1,j2,j3,j4,j5,j6,j7,j8,j9,k0,k2,k3,k4,k5,k6,k7,k8,k9,l0,l1,l2,l3,l4,l5,l6,l7,l8,l9,m0,m1,m2,m3,m6,m7,m8,m9,n0,n1,n2,n3,n4,n5,n6,n7,n8,n9],defers:= []})→Φ a) (h.sk.length) ?_ ?_
  ·refine fun Φ hΦ=>hΦ (0) ?_;exact ⟨by omega,by simp,F0.out⟩
  ·intro k1 a1 wr1 hI1 J1 K1 hJ1 hK1;refine hI1 (fun a=>Code.wp _ _ _ a _) ?_;clear hI1 a1;iterate 125 (intro _)
   intro i hrel
   show Code.wp _ _ _ _ _;obtain ⟨h1,h2,hF⟩:=hrel;have k0_10:wr1.cell? ⟨xb,10,none⟩=some (.slice A h.sk.length c):=hF.cell 0 10 rfl rfl;by_cases hi:i<h.sk.length
   ·obtain ⟨ad,off,rfl,hbl,hcell⟩:=few_cell HRR.out hi;have r0:=hcell _ hF.b;have hi1:(i:Int)<h.sk.length:=by omega
    have hi0:(0:Int)≤i:=by omega
    have hw:IntKind.i64.wrap ((i:Int)+1)=(i:Int)+1:=IntWalk.i64_in _ (by have:=HO.out.sk; omega);have hle:=HO.out.skl _ (List.getElem_mem hi);have HI:=ι (And.intro h1 hF);have HNo:Hid (h.sk[i].length≠32→X=false):=ι (fun e=>HN.out (fun o=>e (o.skl _ (List.getElem_mem hi))));have HYe:Hid (h.sk[i].length=32→∀ s∈h.sk.take (i+1),s.length=32):=ι (fun e n hn=>by
     rw [List.take_succ_eq_append_getElem hi,List.mem_append] at hn;rcases hn with hn|hn
     ·exact h2 n hn
     ·rw [List.mem_singleton] at hn; subst hn; exact e)
    clear h1 h2 hF hcell hbl;generalize h.sk[i]=x at *;by_cases hx:x.length=32
    ·have hx':((x.length:Int) !=32)=false:=by rw [hx]; rfl
     have HY2:=ι (HYe.out hx);clear HNo HYe hx;go_wp2_with fail
     refine Handed.intro (h.sk.length - (i+1)) ?_ (hJ1 _ _ _ (fun Φ hΦ=>hΦ (i+1) ?_))
     ·have:=HI.out.1; omega
     exact ⟨by have:=HI.out.1; omega,HY2.out,HI.out.2⟩
    ·have hx':((x.length:Int) !=32)=true:=by rw [bne_iff_ne]; omega
     have HE:=ι (HNo.out hx);clear HNo HYe hx;go_wp2_with fail
     exact HP.out _ _ HE.out HI.out.2.b
   ·have hi1:((i:Int)<h.sk.length)=False:=by simp; omega
    have HSk:Hid (∀ s∈h.sk,s.length=32):=ι (by rwa [List.take_of_length_le (by omega)] at h2);have F1:=ι hF;have HOk:Hid (((0<h.hgt→h.par.length=32)∧(h.hgt=0→h.par= []∧h.epo=0∧h.vw=0∧h.last=true))→(h.last=false→h.nxt=h.mem)→X=true):=ι (fun a b=>HYs.out
     {h0:=HNum.out.1,h1:=HNum.out.2.1,e0:=HNum.out.2.2.1,e1:=HNum.out.2.2.2.1,v0:=HNum.out.2.2.2.2.1,v1:=HNum.out.2.2.2.2.2,par:=a,sk:=HC1.out,skl:=HSk.out,tx:=HL3.out.1,mem:=HL3.out.2.1,nxt:=HL3.out.2.2,st:=HQ4.out,rc:=HQ5.out,on:=b})
    clear h1 h2 hF hi k0_10 HYs;obtain ⟨k0_0,k0_1,k0_2,k0_3,k0_4,k0_5,k0_6,k0_7,k0_8,k0_9,k0_10⟩:=(F1.out.blk 0 rfl).c11;by_cases g0:h.hgt=0
    ·have g0':(h.hgt==0)=true:=by rw [g0]; rfl
     cases t1:h.par== [] with
     |false=>
      have t1':h.par.isEmpty=false:=by rw [beq_eq_false_iff_ne] at t1; simp [t1]
      have HE:Hid (X=false):=ι (HN.out (fun o=>by have:=(o.par.2 g0).1; rw [this] at t1; cases t1));clear HN g0;go_wp2_with fail
      exact HP.out _ _ HE.out F1.out.b
     |true=>
     have t1':h.par.isEmpty=true:=by simpa using t1
     cases t2:h.epo==0 with
     |false=>
      have HE:Hid (X=false):=ι (HN.out (fun o=>by have:=(o.par.2 g0).2.1; rw [this] at t2; cases t2));clear HN g0;go_wp2_with fail
      exact HP.out _ _ HE.out F1.out.b
     |true=>
     cases t3:h.vw==0 with
     |false=>
      have HE:Hid (X=false):=ι (HN.out (fun o=>by have:=(o.par.2 g0).2.2.1; rw [this] at t3; cases t3));clear HN g0;go_wp2_with fail
      exact HP.out _ _ HE.out F1.out.b
     |true=>
     have HE:Hid (X=h.last):=ι (by
      cases hl:h.last with
      |false=>exact HN.out (fun o=>by have:=(o.par.2 g0).2.2.2; rw [hl] at this; cases this)
      |true=>exact HOk.out ⟨fun e=>by omega,fun _=>⟨by simpa using t1,by simpa using t2,by simpa using t3,hl⟩⟩ (fun e=>by rw [hl] at e; cases e))
     clear HN g0;go_wp2_with fail
     exact HP.out _ _ HE.out F1.out.b
    ·have g0':(h.hgt==0)=false:=by rw [beq_eq_false_iff_ne]; exact g0
     have gp:0<h.hgt:=by have:=HNum.out.1; omega
     by_cases t1:h.par.length=32;rotate_left
     ·have t1':((h.par.length:Int)==32)=false:=by rw [beq_eq_false_iff_ne]; omega
      have HE:Hid (X=false):=ι (HN.out (fun o=>t1 (o.par.1 gp)));clear HN g0 gp t1;go_wp2_with fail
      exact HP.out _ _ HE.out F1.out.b
     have t1':((h.par.length:Int)==32)=true:=by rw [t1]; rfl
     have HOk2:=ι (HOk.out ⟨fun _=>t1,fun e=>absurd e g0⟩);cases hl:h.last with
     |true=>
      have HE:Hid (X=true):=ι (HOk2.out (fun e=>by rw [hl] at e; cases e));rw [hl] at k0_3;clear HN g0 gp t1;go_wp2_with fail
      exact HP.out _ _ HE.out F1.out.b
     |false=>
      rw [hl] at k0_3;cases hm:h.nxt==h.mem with
      |false=>
       have HE:Hid (X=false):=ι (HN.out (fun o=>by have:=o.on hl; rw [this] at hm; simp at hm));clear HN g0 gp t1;go_wp2_with fail
       exact HP.out _ _ HE.out F1.out.b
      |true=>
       have HE:Hid (X=true):=ι (HOk2.out (fun _=>by simpa using hm));clear HN g0 gp t1;go_wp2_with fail
       exact HP.out _ _ HE.out F1.out.b
theorem ref02_Flag (b:Bool) (w:World):
  Calls Tryz.prog 157 #[b] w fun e w'=>e= .returned (.string ⟨(Hd.flagW b).toArray⟩)∧w=w':=by
 cases b with
 |false=>
  go_enter Tryz.func157,Tryz.ntmps157
  go_wp2_with fail
  go_ret
  exact ⟨rfl,rfl⟩
 |true=>
  go_enter Tryz.func157,Tryz.ntmps157
  go_wp2_with fail
  go_ret
  exact ⟨rfl,rfl⟩
theorem ref19_Written (w:World) (h:Hd) (ok:Hd.Ok h) (A:Option Addr) (c:Nat) (HR:Reads w w.heap.size 1 A h.sk.length (strv h.sk)):
  Calls Tryz.prog 107 #[.agg (η h [.slice A h.sk.length c])] w (Ret w (.string ⟨(Hd.enc h).toArray⟩)):=by
 have HP:Hid (∀ (s:List UInt8) w',Hd.enc h=s→Below w.heap.size w w'→Ret w (.string ⟨(Hd.enc h).toArray⟩) (.returned (s:Value)) w'):=ι (fun s w' e1 h=>by rw [e1]; exact ⟨rfl,h⟩);generalize Ret w (.string ⟨(Hd.enc h).toArray⟩)=P at HP ⊢;have HY:Hid (Hd.enc h=(((numW h.hgt.toNat++numW h.epo.toNat++numW h.vw.toNat++Hd.flagW h.last)++textW h.par++textW h.st++textW h.rc++h.tx++h.mem++h.nxt))++h.sk.flatten):=ι (by simp [Hd.enc]);have HF:=ι (fun W=>ref02_Flag h.last W);have HT1:=ι (fun W=>ref02_Text h.par (by have:=ok.par_le; omega) W);have HT2:=ι (fun W=>ref02_Text h.st (by have:=Hd.maybe_le ok.st; omega) W);have HT3:=ι (fun W=>ref02_Text h.rc (by have:=Hd.maybe_le ok.rc; omega) W);have HL:Hid ((Hd.flagW h.last).length=1∧(textW h.par).length≤41∧(textW h.st).length≤41∧(textW h.rc).length≤41∧h.tx.length=32∧h.mem.length=32∧h.nxt.length=32∧h.sk.length≤22):=ι ⟨rfl,Hd.textW_len ok.par_le,Hd.textW_len (Hd.maybe_le ok.st),Hd.textW_len (Hd.maybe_le ok.rc),ok.tx,ok.mem,ok.nxt,ok.sk_le⟩;have HSl:=ι ok.skl;have HRR:=ι HR;have h0:=ok.h0; have h1:=ok.h1; have e0:=ok.e0; have e1:=ok.e1; have v0:=ok.v0; have v1:=ok.v1
 obtain ⟨hg,ep,vw,la,pr,st,rc,tx,mm,nx,sk⟩:=h;simp only at *;obtain ⟨hg,rfl⟩:=Int.eq_ofNat_of_zero_le h0;obtain ⟨ep,rfl⟩:=Int.eq_ofNat_of_zero_le e0;obtain ⟨vw,rfl⟩:=Int.eq_ofNat_of_zero_le v0;simp only [Int.toNat_natCast] at HY;have HN0:=ι (fun W=>ref02_Number hg (by omega) W);have HN1:=ι (fun W=>ref02_Number ep (by omega) W);have HN2:=ι (fun W=>ref02_Number vw (by omega) W);have q0:=numW_len hg (by omega);have q1:=numW_len ep (by omega);have q2:=numW_len vw (by omega);clear HR h0 h1 e0 e1 v0 v1 ok;obtain ⟨l1,l2,l3,l4,l5,l6,l7,l8⟩:=HL.out;generalize numW hg=N0 at *;generalize numW ep=N1 at *;generalize numW vw=N2 at *;generalize Hd.flagW la=X0 at *;generalize textW pr=X1 at *;generalize textW st=X2 at *;generalize textW rc=X3 at *;have n1:(9223372036854775807<N0.length+N1.length)=False:=by simp; omega
 have n2:(9223372036854775807<N0.length+N1.length+N2.length)=False:=by simp; omega
 have n3:(9223372036854775807<N0.length+(N1.length+N2.length))=False:=by simp; omega
 have n4:(9223372036854775807<N0.length+N1.length+N2.length+X0.length)=False:=by simp; omega
 have n5:(9223372036854775807<N0.length+(N1.length+(N2.length+X0.length)))=False:=by simp; omega
 have n6:(9223372036854775807<N0.length+(N1.length+N2.length)+X0.length)=False:=by simp; omega
 have n7:(9223372036854775807<N0.length+(N1.length+N2.length+X0.length))=False:=by simp; omega
 obtain ⟨S1,hS1⟩:∃ S1,N0++(N1++(N2++X0))=S1:=⟨_,rfl⟩
 have HS1:=ι hS1;have s1:S1.length≤28:=by rw [←hS1]; simp only [List.length_append]; omega
 have m1:(9223372036854775807<S1.length+X1.length)=False:=by simp; omega
 have m2:(9223372036854775807<S1.length+X1.length+X2.length)=False:=by simp; omega
 have m3:(9223372036854775807<S1.length+(X1.length+X2.length))=False:=by simp; omega
 have m4:(9223372036854775807<S1.length+X1.length+X2.length+X3.length)=False:=by simp; omega
 have m5:(9223372036854775807<S1.length+(X1.length+(X2.length+X3.length)))=False:=by simp; omega
 have m6:(9223372036854775807<S1.length+(X1.length+X2.length)+X3.length)=False:=by simp; omega
 have m7:(9223372036854775807<S1.length+(X1.length+X2.length+X3.length))=False:=by simp; omega
 have m8:(9223372036854775807<S1.length+X1.length+X2.length+X3.length+tx.length)=False:=by simp; omega
 have m9:(9223372036854775807<S1.length+(X1.length+(X2.length+(X3.length+tx.length))))=False:=by simp; omega
 have m10:(9223372036854775807<S1.length+(X1.length+(X2.length+X3.length))+tx.length)=False:=by simp; omega
 have m11:(9223372036854775807<S1.length+(X1.length+X2.length+X3.length+tx.length))=False:=by simp; omega
 have m12:(9223372036854775807<S1.length+X1.length+X2.length+X3.length+tx.length+mm.length)=False:=by simp; omega
 have m13:(9223372036854775807<S1.length+(X1.length+(X2.length+(X3.length+(tx.length+mm.length)))))=False:=by simp; omega
 have m14:(9223372036854775807<S1.length+(X1.length+(X2.length+(X3.length+tx.length)))+mm.length)=False:=by simp; omega
 have m15:(9223372036854775807<S1.length+(X1.length+X2.length+X3.length+tx.length+mm.length))=False:=by simp; omega
 have m16:(9223372036854775807<S1.length+X1.length+X2.length+X3.length+tx.length+mm.length+nx.length)=False:=by simp; omega
 have m17:(9223372036854775807<S1.length+(X1.length+(X2.length+(X3.length+(tx.length+(mm.length+nx.length))))))=False:=by simp; omega
 have m18:(9223372036854775807<S1.length+(X1.length+(X2.length+(X3.length+(tx.length+mm.length))))+nx.length)=False:=by simp; omega
 have m19:(9223372036854775807<S1.length+(X1.length+X2.length+X3.length+tx.length+mm.length+nx.length))=False:=by simp; omega
 have HY2:Hid (({hgt:=(hg:Int),epo:=(ep:Int),vw:=(vw:Int),last:=la,par:=pr,st:=st,rc:=rc,tx:=tx,mem:=mm,nxt:=nx,sk:=sk}:Hd).enc=(S1++(X1++(X2++(X3++(tx++(mm++nx))))))++sk.flatten):=ι (by rw [HY.out,←hS1]; simp only [List.append_assoc]);have HTot:Hid ((S1++(X1++(X2++(X3++(tx++(mm++nx)))))).length≤327):=ι (by simp only [List.length_append]; omega);clear hS1 l1 l2 l3 l4 l5 l6 l7 q0 q1 q2 HY HL s1;go_enter Tryz.func107,Tryz.ntmps107
 go_upto_region 1 with fail
 have F0:=Live.ha (ι (Live.start w)) #[hg,ep,vw,la,pr,st,rc,tx,mm,nx,.slice A sk.length c] 41;generalize World.alloc w _=W0 at F0 ⊢;generalize w.heap.size=xb at F0 ⊢;obtain ⟨k0_0,k0_1,k0_2,k0_3⟩:=(F0.out.blk 0 rfl).c4;go_region_held3 (fun w'=>w'.cell? ⟨xb,0,none⟩=some (.int .i64 (hg:Int))∧w'.cell? ⟨xb,1,none⟩=some (.int .i64 (ep:Int))∧w'.cell? ⟨xb,2,none⟩=some (.int .i64 (vw:Int))∧w'.cell? ⟨xb,3,none⟩=some (.bool la)) (first|go_keep|(refine ⟨?_,?_,?_,?_⟩<;>assumption)) (first|(go_at_call 157; ((with_reducible refine (HF.out _).mono ?_); (rintro e w3 ⟨rfl,rfl⟩)))|((go_at_call 150; ((first|(with_reducible refine (HN0.out _).mono ?_)|(with_reducible refine (HN1.out _).mono ?_)|(with_reducible refine (HN2.out _).mono ?_)); (rintro e w4 ⟨rfl,hb⟩; (first|have F0:=Live.hb F0 hb|have F0:=Live.hbd F0 hb); clear hb; obtain ⟨k0_0,k0_1,k0_2,k0_3⟩:=(F0.out.blk 0 rfl).c4)))))
 all_goals
  rw [HS1.out];clear HS1 k0_0 k0_1 k0_2 k0_3 HN0 HN1 HN2 HF n1 n2 n3 n4 n5 n6 n7;have k0_4:=(F0.out.blk 0 rfl).d4; have k0_5:=(F0.out.blk 0 rfl).d5; have k0_6:=(F0.out.blk 0 rfl).d6; have k0_7:=(F0.out.blk 0 rfl).d7; have k0_8:=(F0.out.blk 0 rfl).d8; have k0_9:=(F0.out.blk 0 rfl).d9
  go_upto_region 2 with fail
  go_region_held3 (fun w'=>w'.cell? ⟨xb,4,none⟩=some (pr:Value)∧w'.cell? ⟨xb,5,none⟩=some (st:Value)∧w'.cell? ⟨xb,6,none⟩=some (rc:Value)∧w'.cell? ⟨xb,7,none⟩=some (tx:Value)∧w'.cell? ⟨xb,8,none⟩=some (mm:Value)∧w'.cell? ⟨xb,9,none⟩=some (nx:Value)) (first|go_keep|(refine ⟨?_,?_,?_,?_,?_,?_⟩<;>assumption)) (first|((go_at_call 154; ((first|(with_reducible refine (HT1.out _).mono ?_)|(with_reducible refine (HT2.out _).mono ?_)|(with_reducible refine (HT3.out _).mono ?_)); (rintro e w5 ⟨rfl,hb⟩; (first|have F0:=Live.hb F0 hb|have F0:=Live.hbd F0 hb); clear hb; have k0_4:=(F0.out.blk 0 rfl).d4; have k0_5:=(F0.out.blk 0 rfl).d5; have k0_6:=(F0.out.blk 0 rfl).d6; have k0_7:=(F0.out.blk 0 rfl).d7; have k0_8:=(F0.out.blk 0 rfl).d8; have k0_9:w5.cell? ⟨xb,9,none⟩=some (nx:Value):=F0.out.cell 0 9 rfl rfl)))))
  all_goals
   obtain ⟨S2,hS2⟩:∃ S2,S1++(X1++(X2++(X3++(tx++(mm++nx)))))=S2:=⟨_,rfl⟩
   rw [hS2] at HY2 HTot ⊢;clear hS2 k0_4 k0_5 k0_6 k0_7 k0_8 k0_9 HT1 HT2 HT3 m1 m2 m3 m4 m5 m6 m7 m8 m9 m10 m11 m12 m13 m14 m15 m16 m17 m18 m19;go_wp2_with fail
   refine wp_loop_ghost_k (fun k a wr=>∀ Φ:Act→Prop,(∀ ⦃s0 s2 s5 s6 s7 s8 s9 s3 s4 a0 a2 a3 a4 a5 a6 a7 a8 a9 b0 b1 b2 b3 b4 b5 b6 b7 b8 b9 c0 c1 c2 c3 c5 c6 c7 c8 c9 d0 d1 d2 d3 e2 e3 e4 e5 e6 e7 e8 e9 f0 f1 f2 f3 f4:Value⦄ (i:Nat) (S3:List UInt8),(i+k=sk.length∧S3=S2++(sk.take i).flatten∧S3.length≤327+32*i∧Live w wr [(xb,41,#[hg,ep,vw,la,pr,st,rc,tx,mm,nx,.slice A sk.length c])])→Φ {tmps:=#[s0,.pointer (some ⟨xb,0,none⟩),s2,.string ⟨S3.toArray⟩,.int .i64 (i:Int),s5,s6,s7,s8,s9,s3,s4,a0,a2,a3,a4,a5,a6,a7,a8,a9,b0,b1,b2,b3,b4,b5,b6,b7,b8,b9,c0,c1,c2,c3,c5,c6,c7,c8,c9,d0,d1,d2,d3,e2,e3,e4,e5,e6,e7,e8,e9,f0,f1,f2,f3,f4],defers:= []})→Φ a) (sk.length) ?_ ?_
   ·refine fun Φ hΦ=>hΦ (0) (S2) ?_;exact ⟨by omega,by simp,HTot.out,F0.out⟩
   ·intro k1 a1 wr1 hI1 J1 K1 hJ1 hK1;refine hI1 (fun a=>Code.wp _ _ _ a _) ?_;clear hI1 a1;iterate 54 (intro _)
    intro i S3 hrel
    show Code.wp _ _ _ _ _;obtain ⟨h1,h2,h3,hF⟩:=hrel;have k0_10:wr1.cell? ⟨xb,10,none⟩=some (.slice A sk.length c):=hF.cell 0 10 rfl rfl;by_cases hi:i<sk.length
    ·obtain ⟨ad,off,rfl,hbl,hcell⟩:=few_cell HRR.out hi;have r0:=hcell _ hF.b;have hi1:(i:Int)<sk.length:=by omega
     have hi0:(0:Int)≤i:=by omega
     have hw:IntKind.i64.wrap ((i:Int)+1)=(i:Int)+1:=IntWalk.i64_in _ (by omega);have hlen:=HSl.out _ (List.getElem_mem hi);have HI:=ι (And.intro h1 (And.intro hF (show S3++sk[i]=S2++(sk.take (i+1)).flatten by rw [List.take_succ_eq_append_getElem hi,h2,List.flatten_append,List.append_assoc,List.flatten_cons,List.flatten_nil,List.append_nil])));clear h1 h2 hF hcell hbl;generalize sk[i]=x at *;have m1:S3.length+x.length≤9223372036854775807:=by omega
     have HLn:Hid ((S3++x).length≤327+32*(i+1)):=ι (by rw [List.length_append]; omega);clear hlen h3;go_wp2_with fail
     refine Handed.intro (sk.length - (i+1)) ?_ (hJ1 _ _ _ (fun Φ hΦ=>hΦ (i+1) (S3++x) ?_))
     ·have:=HI.out.1; omega
     exact ⟨by have:=HI.out.1; omega,HI.out.2.2,HLn.out,HI.out.2.1⟩
    ·have hi1:((i:Int)<sk.length)=False:=by simp; omega
     have HE:Hid (({hgt:=(hg:Int),epo:=(ep:Int),vw:=(vw:Int),last:=la,par:=pr,st:=st,rc:=rc,tx:=tx,mem:=mm,nxt:=nx,sk:=sk}:Hd).enc=S3):=ι (by rw [HY2.out,h2,List.take_of_length_le (by omega)]);have HB:=ι hF.b;clear h1 h2 h3 hF hi;go_wp2_with fail
     exact HP.out _ _ HE.out HB.out
theorem ref19_Digest (w:World) (h:Hd) (o:OkH h) (A:Option Addr) (c:Nat) (HR:Reads w w.heap.size 1 A h.sk.length (strv h.sk)):
  Calls Tryz.prog 74 #[.agg (η h [.slice A h.sk.length c])] w (Ret w (.string ⟨(Hd.dig h).toArray⟩)):=by
 have HP:Hid (∀ (s:List UInt8) w',Hd.dig h=s→Below w.heap.size w w'→Ret w (.string ⟨(Hd.dig h).toArray⟩) (.returned (s:Value)) w'):=ι (fun b w' e h=>by rw [e]; exact ⟨rfl,h⟩);generalize Ret w (.string ⟨(Hd.dig h).toArray⟩)=P at HP ⊢;have HX:Hid (Hd.dig h=if Hd.ok h then shaW (2::Hd.enc h) else []):=ι rfl;have HFn:=ι (fun W (hW:Below w.heap.size w W)=>ref19_Fine W h o A c ((HR.below hW).more hW.size));generalize Hd.dig h=X at *;cases hk:Hd.ok h with
 |false=>
  rw [hk] at HX HFn;simp only [Bool.false_eq_true,if_false] at HX;clear o HR hk;go_enter Tryz.func74,Tryz.ntmps74
  go_upto_region 1 with fail
  have F0:=Live.ha (ι (Live.start w)) (η h [.slice A h.sk.length c]) 41;generalize World.alloc w _=W0 at F0 ⊢;generalize w.heap.size=xb at F0 ⊢;have k0:=(F0.out.blk 0 rfl).c11;go_wp2_with fail
  refine (HFn.out _ F0.out.b).mono ?_;rintro e w1 ⟨rfl,hb⟩;have F1:=Live.hb F0 hb;clear hb;go_wp2_with fail
  exact HP.out [] _ HX.out F1.out.b
 |true=>
  rw [hk] at HX HFn;simp only [if_true] at HX;have ok:=(Hd.ok_iff h).1 hk;have HWr:=ι (fun W (hW:Below w.heap.size w W)=>ref19_Written W h ok A c ((HR.below hW).more hW.size));have hln:=ok.enc_len;generalize Hd.enc h=s at *;have HDg:=ι (fun W=>ref04_Tagged W 2 (by decide) s (by omega));have HX2:Hid (X=shaW (UInt8.ofNat 2::s)):=ι HX.out;generalize shaW (UInt8.ofNat 2::s)=d at *;clear o HR hk ok hln HX;go_enter Tryz.func74,Tryz.ntmps74
  go_upto_region 1 with fail
  have F0:=Live.ha (ι (Live.start w)) (η h [.slice A h.sk.length c]) 41;generalize World.alloc w _=W0 at F0 ⊢;generalize w.heap.size=xb at F0 ⊢;have k0:=(F0.out.blk 0 rfl).c11;go_wp2_with fail
  refine (HFn.out _ F0.out.b).mono ?_;rintro e w1 ⟨rfl,hb⟩;have F1:=Live.hb F0 hb;clear hb F0 k0;have k0:=(F1.out.blk 0 rfl).c11;go_wp2_with fail
  refine (HWr.out _ F1.out.b).mono ?_;rintro e w2 ⟨rfl,hb⟩;have F2:=Live.hb F1 hb;clear hb F1 k0;go_wp2_with fail
  refine (HDg.out _).mono ?_;rintro e w3 ⟨rfl,hb⟩;have F3:=Live.hb F2 hb;clear hb F2;go_wp2_with fail
  exact HP.out _ _ HX2.out F3.out.b
def OddEnd (w:World) (b:Bool) (e:Ending) (w':World):Prop:=(∃ i:Int,e= .returned (.int .i64 i)∧(b=true→i<0)∧(b=false→0≤i))∧w=w'
theorem idx_odd (w:World) (A:Option Addr) (c:Nat) (l:List (List UInt8)) (hl:l.length≤9223372036854775807) (hs:∀ s∈l,s.length≤9223372036854775807) (HR:Reads w w.heap.size 1 A l.length (strv l)):
  Calls Tryz.prog 167 #[.slice A l.length c,.func (.func 122) #[] #[]] w (OddEnd w (l.all Hd.sumB)):=by
 have HP:Hid (∀ (i:Int),(l.all Hd.sumB=true→i<0)→(l.all Hd.sumB=false→0≤i)→OddEnd w (l.all Hd.sumB) (.returned (.int .i64 i)) w):=ι (fun i h1 h2=>⟨⟨i,rfl,h1,h2⟩,rfl⟩);generalize OddEnd w (l.all Hd.sumB)=P at HP ⊢;obtain ⟨X,hX⟩:∃ X,l.all Hd.sumB=X:=⟨_,rfl⟩
 rw [hX] at HP;have HX:=ι hX;have HRR:=ι HR;have HS:=ι hs;have HL:=ι hl;clear HR hX hs hl;go_enter Tryz.func167,Tryz.ntmps167
 go_wp2_with fail
 refine wp_loop_ghost_k (fun k a wr=>∀ Φ:Act→Prop,(∀ ⦃s2 s3 s4 s5 s9 s0 s1 s6 s7 s8 a0 a2 a3 a4:Value⦄ (i:Nat),(i+k=l.length∧(l.take i).all Hd.sumB=true∧w=wr)→Φ {tmps:=#[.slice A l.length c,.func (.func 122) #[] #[],s2,s3,s4,s5,.slice A l.length c,.int .i64 l.length,.int .i64 (i:Int),s9,s0,s1,s6,s7,s8,a0,a2,a3,a4],defers:= []})→Φ a) (l.length) ?_ ?_
 ·refine fun Φ hΦ=>hΦ (0) ?_;exact ⟨by omega,rfl,rfl⟩
 ·intro k1 a1 wr1 hI1 J1 K1 hJ1 hK1;refine hI1 (fun a=>Code.wp _ _ _ a _) ?_;clear hI1 a1;iterate 14 (intro _)
  intro i hrel
  show Code.wp _ _ _ _ _;obtain ⟨h1,h2,rfl⟩:=hrel;by_cases hi:i<l.length
  ·obtain ⟨ad,off,rfl,hbl,hcell⟩:=few_cell HRR.out hi;have r0:=hcell _ (Below.refl _ _);have hi1:(i:Int)<l.length:=by omega
   have hi0:(0:Int)≤i:=by omega
   have hw:IntKind.i64.wrap ((i:Int)+1)=(i:Int)+1:=IntWalk.i64_in _ (by have:=HL.out; omega);have HO:=ι (fun W=>hd_odd l[i] (HS.out _ (List.getElem_mem hi)) W);have HN:Hid (Hd.sumB l[i]=false→X=false):=ι (fun e=>by
    rw [←HX.out,List.all_eq_false];exact ⟨_,List.getElem_mem hi,by rw [e]; decide⟩)
   have HY:Hid (Hd.sumB l[i]=true→(l.take (i+1)).all Hd.sumB=true):=ι (fun e=>by
    rw [List.take_succ_eq_append_getElem hi,List.all_append,h2];simp [e])
   have HI:=ι h1;clear h1 h2 hcell hbl;generalize l[i]=s at *;generalize Hd.sumB s=b at *;cases b with
   |false=>
    have HN2:=ι (HN.out rfl);clear HN HY;go_wp2_with fail
    refine (HO.out _).mono ?_;rintro e w1 ⟨rfl,rfl⟩;go_wp2_with fail
    exact HP.out _ (fun e=>by rw [HN2.out] at e; cases e) (fun _=>by omega)
   |true=>
    have HY2:=ι (HY.out rfl);clear HN HY;go_wp2_with fail
    refine (HO.out _).mono ?_;rintro e w1 ⟨rfl,rfl⟩;go_wp2_with fail
    refine Handed.intro (l.length - (i+1)) ?_ (hJ1 _ _ _ (fun Φ hΦ=>hΦ (i+1) ?_))
    ·have:=HI.out; omega
    exact ⟨by have:=HI.out; omega,HY2.out,rfl⟩
  ·have hi1:((i:Int)<l.length)=False:=by simp; omega
   have HE:Hid (X=true):=ι (by rw [←HX.out,←h2,List.take_of_length_le (by omega)]);clear h1 h2 hi;go_wp2_with fail
   exact HP.out _ (fun _=>by decide) (fun e=>by rw [HE.out] at e; cases e)
theorem has_odd (w:World) (A:Option Addr) (c:Nat) (l:List (List UInt8)) (hl:l.length≤9223372036854775807) (hs:∀ s∈l,s.length≤9223372036854775807) (HR:Reads w w.heap.size 1 A l.length (strv l)):
  Calls Tryz.prog 123 #[.slice A l.length c,.func (.func 122) #[] #[]] w fun e w'=>e= .returned (.bool (!l.all Hd.sumB))∧w=w':=by
 have HI:=ι (idx_odd w A c l hl hs HR);generalize l.all Hd.sumB=b at *;clear HR hs;go_enter Tryz.func123,Tryz.ntmps123
 go_wp2_with fail
 refine HI.out.mono ?_;rintro e w1 ⟨⟨i,rfl,h1,h2⟩,rfl⟩;have hb:decide (0≤i)= !b:=by
  cases b with
  |false=>exact decide_eq_true (h2 rfl)
  |true=>exact decide_eq_false (by have:=h1 rfl; omega)
 have HB:=ι hb;clear h1 h2 hb;go_wp2_with fail
 go_ret
 exact ⟨ret_bool HB.out,rfl⟩
theorem z_21 {P:Prop} (h:P:=by
 go_wp2_with fail
 refine (H5.out _).mono ?_;rintro e w1 ⟨rfl,rfl⟩;go_wp2_with fail
 refine (H6.out _).mono ?_;rintro e w1 ⟨rfl,rfl⟩;go_wp2_with fail
 refine (H7.out _).mono ?_;rintro e w1 ⟨rfl,rfl⟩;cases b7 with
 |false=>
  go_wp2_with fail
  exact HP.out _ _ HX.out F0.out.b
 |true=>
 go_wp2_with fail
 refine (H8.out _).mono ?_;rintro e w1 ⟨rfl,rfl⟩;cases b8 with
 |false=>
  go_wp2_with fail
  exact HP.out _ _ HX.out F0.out.b
 |true=>
 go_wp2_with fail
 refine (H9.out _).mono ?_;rintro e w1 ⟨rfl,rfl⟩;go_wp2_with fail
 exact HP.out _ _ (by rw [HX.out]; rfl) F0.out.b):P:=h
theorem hd_sums (w:World) (h:Hd) (o:OkH h) (A:Option Addr) (c:Nat) (HR:Reads w w.heap.size 1 A h.sk.length (strv h.sk)):
  Calls Tryz.prog 88 #[.agg (η h [.slice A h.sk.length c])] w (Ret w (.bool (Hd.skB h && Hd.restB h))):=by
 have HP:Hid (∀ (b:Bool) w',(Hd.skB h && Hd.restB h)=b→Below w.heap.size w w'→Ret w (.bool (Hd.skB h && Hd.restB h)) (.returned (.bool b)) w'):=ι (fun b w' e h=>by rw [e]; exact ⟨rfl,h⟩);generalize Ret w (.bool (Hd.skB h && Hd.restB h))=P at HP ⊢;have HX:Hid ((Hd.skB h && Hd.restB h)=(decide (h.sk.length=(Hd.linksH h.hgt).length) && h.sk.all Hd.sumB && (Hd.sumB h.tx && Hd.sumB h.mem && Hd.sumB h.nxt && Hd.maybeB h.st && Hd.maybeB h.rc))):=ι rfl;generalize (Hd.skB h && Hd.restB h)=X at *;have H5:=ι (fun W=>hd_sum h.tx o.tx W);have H6:=ι (fun W=>hd_sum h.mem o.mem W);have H7:=ι (fun W=>hd_sum h.nxt o.nxt W);have H8:=ι (fun W=>hd_maybe h.st o.st W);have H9:=ι (fun W=>hd_maybe h.rc o.rc W);have HO:=ι (fun W (hW:Below w.heap.size w W)=>has_odd W A c h.sk o.sk o.skl ((HR.below hW).more hW.size));have HLk:=ι (fun W=>skip_Links_all h.hgt W);have hlk22:(Hd.linksH h.hgt).length≤22:=Hd.linksH_len _;have HSk:=ι o.sk;have HL0:Hid (h.hgt≤0→(Hd.linksH h.hgt).length=0):=ι (fun e=>by unfold Hd.linksH; rw [if_neg (by omega)]; rfl);have HA0:Hid (h.sk.length=0→h.sk.all Hd.sumB=true):=ι (fun e=>by rw [List.eq_nil_of_length_eq_zero e]; rfl);simp only [linksV_eq] at HLk;generalize Hd.linksH h.hgt=lk at *;generalize Hd.sumB h.tx=b5 at *;generalize Hd.sumB h.mem=b6 at *;generalize Hd.sumB h.nxt=b7 at *;generalize Hd.maybeB h.st=b8 at *;generalize Hd.maybeB h.rc=b9 at *;generalize h.sk.all Hd.sumB=ba at *;clear HR o;by_cases h0:0<h.hgt
 ·have h0':(0<h.hgt)=True:=by simp; omega
  clear HL0 HA0 h0;go_enter Tryz.func88,Tryz.ntmps88
  go_upto_region 1 with fail
  have F0:=Live.ha (ι (Live.start w)) (η h [.slice A h.sk.length c]) 41;generalize World.alloc w _=W0 at F0 ⊢;generalize w.heap.size=xb at F0 ⊢;obtain ⟨k0_0,k0_1,k0_2,k0_3,k0_4,k0_5,k0_6,k0_7,k0_8,k0_9,k0_10⟩:=(F0.out.blk 0 rfl).c11;by_cases e0:h.sk.length=lk.length
  ·have e0':((h.sk.length:Int)==(lk.length:Int))=true:=by simp; omega
   rw [decide_eq_true e0,Bool.true_and] at HX;clear e0;go_upto_region 5 with fail
   go_region_held3 (fun w'=>w'.cell? ⟨xb,0,none⟩=some (.int .i64 h.hgt)∧w'.cell? ⟨xb,10,none⟩=some (.slice A h.sk.length c)) (first|go_keep|(refine ⟨?_,?_⟩<;>assumption)) (first|(go_at_call 115; ((with_reducible refine (HLk.out _).mono ?_); (rintro e w2 ⟨v2,rfl,own2,hb⟩; obtain ⟨A2,c2,rfl,_,_,_⟩:=own_form own2; (first|have F0:=Live.hb F0 hb|have F0:=Live.hbd F0 hb); clear hb own2; have k0_0:=(F0.out.blk 0 rfl).d0; have k0_10:w2.cell? ⟨xb,10,none⟩=some (.slice A h.sk.length c):=F0.out.cell 0 10 rfl rfl)))|(go_at_call 123; ((with_reducible refine (HO.out _ F0.out.b).mono ?_); (rintro e w3 ⟨rfl,rfl⟩))))
   all_goals
    clear k0_0 k0_10 k0_1 k0_2 k0_3 k0_4 HO HLk;have k0_5:=(F0.out.blk 0 rfl).d5;have k0_6:=(F0.out.blk 0 rfl).d6;have k0_7:=(F0.out.blk 0 rfl).d7;have k0_8:=(F0.out.blk 0 rfl).d8;have k0_9:=(F0.out.blk 0 rfl).d9;cases ba with
    |false=>
     go_wp2_with fail
     exact HP.out _ _ HX.out F0.out.b
    |true=>
    rw [Bool.true_and] at HX;cases b5 with
    |false=>
     go_wp2_with fail
     refine (H5.out _).mono ?_;rintro e w1 ⟨rfl,rfl⟩;go_wp2_with fail
     exact HP.out _ _ HX.out F0.out.b
    |true=>
    cases b6 with
    |false=>
     go_wp2_with fail
     refine (H5.out _).mono ?_;rintro e w1 ⟨rfl,rfl⟩;go_wp2_with fail
     refine (H6.out _).mono ?_;rintro e w1 ⟨rfl,rfl⟩;go_wp2_with fail
     exact HP.out _ _ HX.out F0.out.b
    |true=>
    exact z_21
  ·have e0':((h.sk.length:Int)==(lk.length:Int))=false:=by simp; omega
   rw [decide_eq_false e0,Bool.false_and,Bool.false_and] at HX;clear e0 HO;go_upto_region 5 with fail
   refine wp_region_held_drew (S:=fun w'=>w'.cell? ⟨xb,0,none⟩=some (.int .i64 h.hgt)∧w'.cell? ⟨xb,10,none⟩=some (.slice A h.sk.length c)) (by kernel_rfl) ⟨k0_0,k0_10⟩ (fun hHeld=> ?_);refine tk 0 14 rfl ?_;try go_frame
   refine tk 1 15 rfl ?_;try go_frame
   refine tk 2 16 rfl ?_;try go_frame
   refine tk 3 17 rfl ?_;try go_frame
   refine tk 4 18 rfl ?_;try go_frame
   refine rd1 5 rfl (fun K hK=> ?_);go_simp
   refine (HLk.out _).mono ?_;rintro e w2 ⟨v2,rfl,own2,hb⟩;obtain ⟨A2,c2,rfl,_,_,_⟩:=own_form own2;have F0:=Live.hbd F0 hb;clear hb own2;go_simp
   refine hK.out _ _ ⟨F0.out.cell 0 0 rfl rfl,F0.out.cell 0 10 rfl rfl⟩ (fun hHeld=> ?_);clear hK K;try go_frame
   refine tk 6 20 rfl ?_;try go_frame
   refine tk 7 21 rfl ?_;try go_frame
   refine tk 8 22 rfl ?_;try go_frame
   refine tk 9 23 rfl ?_;try go_frame
   refine tk 10 24 rfl ?_;try go_frame
   refine tk 11 25 rfl ?_;try go_frame
   refine tk 12 26 rfl ?_;try go_frame
   refine tk 13 27 rfl ?_;try go_frame
   refine tk 14 28 rfl ?_;try go_frame
   refine tk 15 4 rfl ?_;try go_frame
   refine wpAnyH_done (by kernel_rfl) ?_ _;go_wp2_with fail
   exact HP.out _ _ HX.out F0.out.b
 ·have h0':(0<h.hgt)=False:=by simp; omega
  have hl0:=HL0.out (by omega);by_cases e0:h.sk.length=0
  ·have e0':((h.sk.length:Int)==0)=true:=by rw [e0]; rfl
   have hba:=HA0.out e0;subst hba;rw [decide_eq_true (show h.sk.length=lk.length by omega),Bool.true_and,Bool.true_and] at HX;clear HL0 HA0 h0 hl0 HO HLk hlk22 e0;go_enter Tryz.func88,Tryz.ntmps88
   go_upto_region 1 with fail
   have F0:=Live.ha (ι (Live.start w)) (η h [.slice A h.sk.length c]) 41;generalize World.alloc w _=W0 at F0 ⊢;generalize w.heap.size=xb at F0 ⊢;obtain ⟨k0_0,k0_1,k0_2,k0_3,k0_4,k0_5,k0_6,k0_7,k0_8,k0_9,k0_10⟩:=(F0.out.blk 0 rfl).c11;cases b5 with
   |false=>
    go_wp2_with fail
    refine (H5.out _).mono ?_;rintro e w1 ⟨rfl,rfl⟩;go_wp2_with fail
    exact HP.out _ _ HX.out F0.out.b
   |true=>
   cases b6 with
   |false=>
    go_wp2_with fail
    refine (H5.out _).mono ?_;rintro e w1 ⟨rfl,rfl⟩;go_wp2_with fail
    refine (H6.out _).mono ?_;rintro e w1 ⟨rfl,rfl⟩;go_wp2_with fail
    exact HP.out _ _ HX.out F0.out.b
   |true=>
   exact z_21
  ·have e0':((h.sk.length:Int)==0)=false:=by rw [beq_eq_false_iff_ne]; omega
   rw [decide_eq_false (show ¬h.sk.length=lk.length by omega),Bool.false_and,Bool.false_and] at HX;clear HL0 HA0 h0 hl0 HO HLk hlk22 e0;go_enter Tryz.func88,Tryz.ntmps88
   go_upto_region 1 with fail
   have F0:=Live.ha (ι (Live.start w)) (η h [.slice A h.sk.length c]) 41;generalize World.alloc w _=W0 at F0 ⊢;generalize w.heap.size=xb at F0 ⊢;obtain ⟨k0_0,k0_1,k0_2,k0_3,k0_4,k0_5,k0_6,k0_7,k0_8,k0_9,k0_10⟩:=(F0.out.blk 0 rfl).c11;go_wp2_with fail
   exact HP.out _ _ HX.out F0.out.b
theorem hd_Check (w:World) (h:Hd) (o:OkH h) (A:Option Addr) (c:Nat) (HR:Reads w w.heap.size 1 A h.sk.length (strv h.sk)):
  Calls Tryz.prog 52 #[.agg (η h [.slice A h.sk.length c])] w (Ret w (.int .i64 (if Hd.ok h then 0 else 190))):=by
 have HPn:Hid (∀ w',Hd.ok h=false→Below w.heap.size w w'→Ret w (.int .i64 (if Hd.ok h then 0 else 190)) (.returned (.int .i64 190)) w'):=ι (fun w' e h=>by rw [e]; exact ⟨rfl,h⟩);have HPy:Hid (∀ w',Hd.ok h=true→Below w.heap.size w w'→Ret w (.int .i64 (if Hd.ok h then 0 else 190)) (.returned (.int .i64 0)) w'):=ι (fun w' e h=>by rw [e]; exact ⟨rfl,h⟩);generalize Ret w (.int .i64 (if Hd.ok h then 0 else 190))=P at HPn HPy ⊢;have HX:Hid (Hd.ok h=(Hd.numsB h && Hd.firstB h && (Hd.skB h && Hd.restB h) && (h.last||(h.nxt==h.mem)))):=ι (by
  have hbe:(h.nxt==h.mem)=decide (h.nxt=h.mem):=by rw [Bool.eq_iff_iff]; simp
  rw [hbe]; rfl)
 have H1:=ι (fun W=>hd_numbers W h A c);have H2:=ι (fun W=>hd_first W h o A c);have H3:=ι (fun W (hW:Below w.heap.size w W)=>hd_sums W h o A c ((HR.below hW).more hW.size));generalize Hd.ok h=X at *;generalize Hd.numsB h=b1 at *;generalize Hd.firstB h=b2 at *;generalize (Hd.skB h && Hd.restB h)=b3 at *;clear HR o;go_enter Tryz.func52,Tryz.ntmps52
 go_upto_region 1 with fail
 have F0:=Live.ha (ι (Live.start w)) (η h [.slice A h.sk.length c]) 41;generalize World.alloc w _=W0 at F0 ⊢;generalize w.heap.size=xb at F0 ⊢;obtain ⟨k0_0,k0_1,k0_2,k0_3,k0_4,k0_5,k0_6,k0_7,k0_8,k0_9,k0_10⟩:=(F0.out.blk 0 rfl).c11;go_wp2_with fail
 refine (H1.out _).mono ?_;rintro e w1 ⟨rfl,hb⟩;have F1:=Live.hb F0 hb;clear hb F0 k0_0 k0_1 k0_2 k0_3 k0_4 k0_5 k0_6 k0_7 k0_8 k0_9 k0_10 H1;cases b1 with
 |false=>
  go_wp2_with fail
  exact HPn.out _ HX.out F1.out.b
 |true=>
 obtain ⟨k0_0,k0_1,k0_2,k0_3,k0_4,k0_5,k0_6,k0_7,k0_8,k0_9,k0_10⟩:=(F1.out.blk 0 rfl).c11;go_wp2_with fail
 refine (H2.out _).mono ?_;rintro e w2 ⟨rfl,hb⟩;have F2:=Live.hb F1 hb;clear hb F1 k0_0 k0_1 k0_2 k0_3 k0_4 k0_5 k0_6 k0_7 k0_8 k0_9 k0_10 H2;cases b2 with
 |false=>
  go_wp2_with fail
  exact HPn.out _ HX.out F2.out.b
 |true=>
 obtain ⟨k0_0,k0_1,k0_2,k0_3,k0_4,k0_5,k0_6,k0_7,k0_8,k0_9,k0_10⟩:=(F2.out.blk 0 rfl).c11;go_wp2_with fail
 refine (H3.out _ F2.out.b).mono ?_;rintro e w3 ⟨rfl,hb⟩;have F3:=Live.hb F2 hb;clear hb F2 k0_0 k0_1 k0_2 k0_3 k0_4 k0_5 k0_6 k0_7 k0_8 k0_9 k0_10 H3;cases b3 with
 |false=>
  go_wp2_with fail
  exact HPn.out _ HX.out F3.out.b
 |true=>
 obtain ⟨k0_0,k0_1,k0_2,k0_3,k0_4,k0_5,k0_6,k0_7,k0_8,k0_9,k0_10⟩:=(F3.out.blk 0 rfl).c11;cases hl:h.last with
 |true=>
  rw [hl] at HX k0_3;go_wp2_with fail
  exact HPy.out _ (by rw [HX.out]; rfl) F3.out.b
 |false=>
  rw [hl] at HX k0_3;cases hm:h.nxt==h.mem with
  |false=>
   rw [hm] at HX;go_wp2_with fail
   exact HPn.out _ HX.out F3.out.b
  |true=>
   rw [hm] at HX;go_wp2_with fail
   exact HPy.out _ (by rw [HX.out]; rfl) F3.out.b
theorem code_Flag (b:Bool) (w:World):
  Calls Tryz.prog 54 #[b] w fun e w'=>e= .returned (.string ⟨(Hd.flagW b).toArray⟩)∧w=w':=by
 cases b with
 |false=>
  go_enter Tryz.func54,Tryz.ntmps54
  go_wp2_with fail
  go_ret
  exact ⟨rfl,rfl⟩
 |true=>
  go_enter Tryz.func54,Tryz.ntmps54
  go_wp2_with fail
  go_ret
  exact ⟨rfl,rfl⟩
def HEncEnd (w:World) (h:Hd) (e:Ending) (w':World):Prop:=e= .returned (.tuple #[.string ⟨(if Hd.ok h then Hd.enc h else []).toArray⟩,.int .i64 (if Hd.ok h then 0 else 190)])∧Below w.heap.size w w'
theorem three_at (a b c:Nat) (i:Nat) (hi:i<3):(#[Value.int .i64 (a:Int),.int .i64 (b:Int),.int .i64 (c:Int)])[i]?=some (.int .i64 ((([a,b,c].getD i 0:Nat)):Int)):=by
 obtain rfl|rfl|rfl:i=0∨i=1∨i=2:=by omega
 ·rfl
 ·rfl
 ·rfl
theorem three_take (a b c:Nat) (i:Nat) (hi:i<3):(([a,b,c].take (i+1)).map numW).flatten=(([a,b,c].take i).map numW).flatten++numW ([a,b,c].getD i 0):=by
 obtain rfl|rfl|rfl:i=0∨i=1∨i=2:=by omega
 ·simp
 ·simp
 ·simp
theorem three_lt (a b c:Nat) (ha:a≤1048576) (hb:b≤1048576) (hc:c≤1048576) (i:Nat): [a,b,c].getD i 0≤1048576:=by
 match i with
 |0=>exact ha
 |1=>exact hb
 |2=>exact hc
 |n+3=>simp
theorem hd_Encode (w:World) (h:Hd) (o:OkH h) (A:Option Addr) (c:Nat) (HR:Reads w w.heap.size 1 A h.sk.length (strv h.sk)):
  Calls Tryz.prog 26 #[.agg (η h [.slice A h.sk.length c])] w (HEncEnd w h):=by
 have HP:Hid (∀ (s:List UInt8) (cd:Int) w',(if Hd.ok h then Hd.enc h else [])=s→(if Hd.ok h then (0:Int) else 190)=cd→Below w.heap.size w w'→HEncEnd w h (.returned (.tuple #[s,cd])) w'):=ι (fun s cd w' e1 e2 h=>by subst e1 e2; exact ⟨rfl,h⟩);generalize HEncEnd w h=P at HP ⊢;have HCk:=ι (fun W (hW:Below w.heap.size w W)=>hd_Check W h o A c ((HR.below hW).more hW.size));cases hk:Hd.ok h with
 |false=>
  rw [hk] at HP HCk;simp only [Bool.false_eq_true,if_false] at HP HCk;clear o HR hk;go_enter Tryz.func26,Tryz.ntmps26
  go_upto_region 1 with fail
  have F0:=Live.ha (ι (Live.start w)) (η h [.slice A h.sk.length c]) 41;generalize World.alloc w _=W0 at F0 ⊢;generalize w.heap.size=xb at F0 ⊢;obtain ⟨k0_0,k0_1,k0_2,k0_3,k0_4,k0_5,k0_6,k0_7,k0_8,k0_9,k0_10⟩:=(F0.out.blk 0 rfl).c11;go_wp2_with fail
  refine (HCk.out _ F0.out.b).mono ?_;rintro e w1 ⟨rfl,hb⟩;have F1:=Live.hb F0 hb;clear hb;go_wp2_with fail
  exact HP.out [] 190 _ rfl rfl F1.out.b
 |true=>
 rw [hk] at HP HCk;simp only [if_true] at HP HCk;have ok:=(Hd.ok_iff h).1 hk;have HY:Hid (Hd.enc h=(([h.hgt.toNat,h.epo.toNat,h.vw.toNat].map numW).flatten)++(((((((Hd.flagW h.last++textW h.par)++textW h.st)++textW h.rc)++h.tx)++h.mem)++h.nxt))++h.sk.flatten):=ι (by simp [Hd.enc]);have HF:=ι (fun W=>code_Flag h.last W);have HT1:=ι (fun W=>code_Text h.par (by have:=ok.par_le; omega) W);have HT2:=ι (fun W=>code_Text h.st (by have:=Hd.maybe_le ok.st; omega) W);have HT3:=ι (fun W=>code_Text h.rc (by have:=Hd.maybe_le ok.rc; omega) W);have HL:Hid ((Hd.flagW h.last).length=1∧(textW h.par).length≤41∧(textW h.st).length≤41∧(textW h.rc).length≤41∧h.tx.length=32∧h.mem.length=32∧h.nxt.length=32∧h.sk.length≤22):=ι ⟨rfl,Hd.textW_len ok.par_le,Hd.textW_len (Hd.maybe_le ok.st),Hd.textW_len (Hd.maybe_le ok.rc),ok.tx,ok.mem,ok.nxt,ok.sk_le⟩;have HSl:=ι ok.skl;have HRR:=ι HR;have h0:=ok.h0; have h1:=ok.h1; have e0:=ok.e0; have e1:=ok.e1; have v0:=ok.v0; have v1:=ok.v1
 obtain ⟨hg,ep,vw,la,pr,st,rc,tx,mm,nx,sk⟩:=h;simp only at *;obtain ⟨hg,rfl⟩:=Int.eq_ofNat_of_zero_le h0;obtain ⟨ep,rfl⟩:=Int.eq_ofNat_of_zero_le e0;obtain ⟨vw,rfl⟩:=Int.eq_ofNat_of_zero_le v0;simp only [Int.toNat_natCast] at HY;have HNm:=ι (fun i=>three_lt hg ep vw (by omega) (by omega) (by omega) i);clear o HR hk h0 h1 e0 e1 v0 v1 ok;go_enter Tryz.func26,Tryz.ntmps26
 go_upto_region 1 with fail
 have F0:=Live.ha (ι (Live.start w)) #[.int .i64 (⟨hg,ep,vw,la,pr,st,rc,tx,mm,nx,sk⟩:Hd).hgt,.int .i64 (⟨hg,ep,vw,la,pr,st,rc,tx,mm,nx,sk⟩:Hd).epo,.int .i64 (⟨hg,ep,vw,la,pr,st,rc,tx,mm,nx,sk⟩:Hd).vw,.bool (⟨hg,ep,vw,la,pr,st,rc,tx,mm,nx,sk⟩:Hd).last,.string ⟨(⟨hg,ep,vw,la,pr,st,rc,tx,mm,nx,sk⟩:Hd).par.toArray⟩,.string ⟨(⟨hg,ep,vw,la,pr,st,rc,tx,mm,nx,sk⟩:Hd).st.toArray⟩,.string ⟨(⟨hg,ep,vw,la,pr,st,rc,tx,mm,nx,sk⟩:Hd).rc.toArray⟩,.string ⟨(⟨hg,ep,vw,la,pr,st,rc,tx,mm,nx,sk⟩:Hd).tx.toArray⟩,.string ⟨(⟨hg,ep,vw,la,pr,st,rc,tx,mm,nx,sk⟩:Hd).mem.toArray⟩,.string ⟨(⟨hg,ep,vw,la,pr,st,rc,tx,mm,nx,sk⟩:Hd).nxt.toArray⟩,.slice A (⟨hg,ep,vw,la,pr,st,rc,tx,mm,nx,sk⟩:Hd).sk.length c] 41;simp only at F0;generalize World.alloc w _=W0 at F0 ⊢;generalize w.heap.size=xb at F0 ⊢;obtain ⟨k0_0,k0_1,k0_2,k0_3,k0_4,k0_5,k0_6,k0_7,k0_8,k0_9,k0_10⟩:=(F0.out.blk 0 rfl).c11;go_wp2_with fail
 refine (HCk.out _ F0.out.b).mono ?_;rintro e w1 ⟨rfl,hb⟩;have F1:=Live.hb F0 hb;clear hb F0 HCk k0_0 k0_1 k0_2 k0_3 k0_4 k0_5 k0_6 k0_7 k0_8 k0_9 k0_10;have k0_0:=(F1.out.blk 0 rfl).d0;have k0_1:=(F1.out.blk 0 rfl).d1;have k0_2:=(F1.out.blk 0 rfl).d2;go_wp2_with fail
 have F2:=Live.ha F1 #[hg,ep,vw] 3;generalize World.alloc w1 _=w2 at F2 ⊢;generalize w1.heap.size=ib at F2 ⊢;clear F1 k0_0 k0_1 k0_2;refine wp_loop_ghost_k (fun k a wr=>∀ Φ:Act→Prop,(∀ ⦃s0 s2 s3 s4 s6 s7 s8 s9 a0 a3 a4 a5 a6 a7 a8 a9 b0 b1 b2 b3 b4 b8 b9 c0 c1 c2 c3 c4 c5 c6 c7 c8 c9 e3 e4 e5 e6 e7 e8 e9 f0 f1 f2 f3 f4 f5 f6 f7 f8 f9 g0 g1 g2 g3 g4 g5 g6 g7 g8 g9 h4 h5 h6 h7 h8 h9 i0 i1 i2 i3 i4:Value⦄ (i:Nat) (S:List UInt8),(i+k=3∧S=(([hg,ep,vw].take i).map numW).flatten∧S.length≤9*i∧Live w wr [(ib,3,#[hg,ep,vw]),(xb,41,#[hg,ep,vw,la,pr,st,rc,tx,mm,nx,.slice A sk.length c])])→Φ {tmps:=#[s0,.pointer (some ⟨xb,0,none⟩),s2,s3,s4,.string ⟨S.toArray⟩,s6,s7,s8,s9,a0,a3,a4,a5,a6,a7,a8,a9,b0,b1,b2,b3,b4,.slice (some ⟨ib,0,none⟩) 3 3,.int .i64 3,.int .i64 (i:Int),b8,b9,c0,c1,c2,c3,c4,c5,c6,c7,c8,c9,e3,e4,e5,e6,e7,e8,e9,f0,f1,f2,f3,f4,f5,f6,f7,f8,f9,g0,g1,g2,g3,g4,g5,g6,g7,g8,g9,h4,h5,h6,h7,h8,h9,i0,i1,i2,i3,i4],defers:= []})→Φ a) (3) ?_ ?_
 ·refine fun Φ hΦ=>hΦ (0) ([]) ?_;exact ⟨by omega,by simp,by simp,F2.out⟩
 ·intro k1 a1 wr1 hI1 J1 K1 hJ1 hK1;refine hI1 (fun a=>Code.wp _ _ _ a _) ?_;clear hI1 a1;intro s0 s1 s2 s3 s4 s5 s6 s7 s8 s9 a0 a3 a4 a5 a6 a7 a8 a9 b0 b1 b2 b3 b4 b5 b6 b7 b8 b9 c0 c1 c2 c3 c4 c5 c6 c7 c8 c9 e3 e4 e5 e6 e7 e8 e9 f0 f1 f2 f3 f4 f5 f6 f7 f8 f9 g0 g1 g2 g3 g4 g5 g6 g7 g8 g9 h4 h5 h6 h7 h8 h9 i S hrel
  show Code.wp _ _ _ _ _;obtain ⟨h1,h2,h3,hF⟩:=hrel;by_cases hi:i<3
  ·have hi1:(i:Int)<3:=by omega
   have hi0:(0:Int)≤i:=by omega
   have r0:wr1.cell? ⟨ib,i,none⟩=some (.int .i64 (([hg,ep,vw].getD i 0:Nat):Int)):=(hF.blk 0 rfl).cell i|>.trans (three_at hg ep vw i hi);have HC:=ι (fun W=>code_Num ([hg,ep,vw].getD i 0) (by have:=HNm.out i; omega) W);have HS:Hid (S++numW ([hg,ep,vw].getD i 0)=(([hg,ep,vw].take (i+1)).map numW).flatten):=ι (by rw [three_take _ _ _ _ hi,h2]);have hlq:=numW_len ([hg,ep,vw].getD i 0) (by have:=HNm.out i; omega);have HF0:=ι hF;clear hF h2;generalize [hg,ep,vw].getD i 0=q at *;go_wp2_with fail
   refine (HC.out _).mono ?_;rintro e w3 ⟨rfl,hb⟩;have F3:=Live.hb HF0 hb;clear hb HF0 HC r0;generalize numW q=Q at *;have hle:S.length+Q.length≤9*(i+1):=by omega
   have HI:=ι (And.intro h1 (show (S++Q).length≤9*(i+1) by rw [List.length_append]; omega));have m1:S.length+Q.length≤9223372036854775807:=by omega
   clear h1 h3 hlq hle;go_wp2_with fail
   refine Handed.intro (3 - (i+1)) ?_ (hJ1 _ _ _ (fun Φ hΦ=>hΦ (i+1) (S++Q) ?_))
   ·have:=HI.out.1; omega
   exact ⟨by have:=HI.out.1; omega,HS.out,HI.out.2,F3.out⟩
  ·have hi1:((i:Int)<3)=False:=by simp; omega
   obtain rfl:i=3:=by omega
   have HS:Hid (S=([hg,ep,vw].map numW).flatten∧S.length≤27):=ι ⟨h2,h3⟩;have F3:=ι (hF.drop 1);simp only [List.drop_succ_cons,List.drop_zero] at F3;clear h1 h2 h3 hF hi;obtain ⟨l1,l2,l3,l4,l5,l6,l7,l8⟩:=HL.out;have HTot:Hid (((((((Hd.flagW la++textW pr)++textW st)++textW rc)++tx)++mm)++nx).length≤300):=ι (by simp only [List.length_append]; omega);have HY2:Hid (({hgt:=(hg:Int),epo:=(ep:Int),vw:=(vw:Int),last:=la,par:=pr,st:=st,rc:=rc,tx:=tx,mem:=mm,nxt:=nx,sk:=sk}:Hd).enc=(S++(((((((Hd.flagW la++textW pr)++textW st)++textW rc)++tx)++mm)++nx)))++sk.flatten):=ι (by rw [HY.out,←HS.out.1]);have hS27:=HS.out.2;generalize Hd.flagW la=X0 at *;generalize textW pr=X1 at *;generalize textW st=X2 at *;generalize textW rc=X3 at *;have m1:X0.length+X1.length≤9223372036854775807:=by omega
   have n1:(9223372036854775807<X0.length+X1.length)=False:=by simp; omega
   have m2:X0.length+X1.length+X2.length≤9223372036854775807:=by omega
   have n2:(9223372036854775807<X0.length+X1.length+X2.length)=False:=by simp; omega
   have q2:(9223372036854775807<X0.length+(X1.length+X2.length))=False:=by simp; omega
   have m3:X0.length+X1.length+X2.length+X3.length≤9223372036854775807:=by omega
   have n3:(9223372036854775807<X0.length+X1.length+X2.length+X3.length)=False:=by simp; omega
   have q3:(9223372036854775807<X0.length+(X1.length+(X2.length+X3.length)))=False:=by simp; omega
   have m4:X0.length+X1.length+X2.length+X3.length+tx.length≤9223372036854775807:=by omega
   have n4:(9223372036854775807<X0.length+X1.length+X2.length+X3.length+tx.length)=False:=by simp; omega
   have q4:(9223372036854775807<X0.length+(X1.length+(X2.length+(X3.length+tx.length))))=False:=by simp; omega
   have m5:X0.length+X1.length+X2.length+X3.length+tx.length+mm.length≤9223372036854775807:=by omega
   have n5:(9223372036854775807<X0.length+X1.length+X2.length+X3.length+tx.length+mm.length)=False:=by simp; omega
   have q5:(9223372036854775807<X0.length+(X1.length+(X2.length+(X3.length+(tx.length+mm.length)))))=False:=by simp; omega
   have m6:X0.length+X1.length+X2.length+X3.length+tx.length+mm.length+nx.length≤9223372036854775807:=by omega
   have n6:(9223372036854775807<X0.length+X1.length+X2.length+X3.length+tx.length+mm.length+nx.length)=False:=by simp; omega
   have q6:(9223372036854775807<X0.length+(X1.length+(X2.length+(X3.length+(tx.length+(mm.length+nx.length))))))=False:=by simp; omega
   have m7:S.length+(X0.length+X1.length+X2.length+X3.length+tx.length+mm.length+nx.length)≤9223372036854775807:=by omega
   have n7:(9223372036854775807<S.length+(X0.length+X1.length+X2.length+X3.length+tx.length+mm.length+nx.length))=False:=by simp; omega
   have q7:(9223372036854775807<S.length+(X0.length+(X1.length+(X2.length+(X3.length+(tx.length+(mm.length+nx.length)))))))=False:=by simp; omega
   have p3:(9223372036854775807<X0.length+(X1.length+X2.length)+X3.length)=False:=by simp; omega
   have p4:(9223372036854775807<X0.length+(X1.length+(X2.length+X3.length))+tx.length)=False:=by simp; omega
   have p5:(9223372036854775807<X0.length+(X1.length+(X2.length+(X3.length+tx.length)))+mm.length)=False:=by simp; omega
   have p6:(9223372036854775807<X0.length+(X1.length+(X2.length+(X3.length+(tx.length+mm.length))))+nx.length)=False:=by simp; omega
   clear l1 l2 l3 l4 l5 l6 l7 HS HY;have k0_3:=(F3.out.blk 0 rfl).d3;have k0_4:=(F3.out.blk 0 rfl).d4;have k0_5:=(F3.out.blk 0 rfl).d5;have k0_6:=(F3.out.blk 0 rfl).d6;have k0_7:=(F3.out.blk 0 rfl).d7;have k0_8:=(F3.out.blk 0 rfl).d8;have k0_9:=(F3.out.blk 0 rfl).d9;go_upto_region 11 with fail
   go_region_held3 (fun w'=>w'.cell? ⟨xb,3,none⟩=some (.bool la)∧w'.cell? ⟨xb,4,none⟩=some (pr:Value)∧w'.cell? ⟨xb,5,none⟩=some (st:Value)∧w'.cell? ⟨xb,6,none⟩=some (rc:Value)∧w'.cell? ⟨xb,7,none⟩=some (tx:Value)∧w'.cell? ⟨xb,8,none⟩=some (mm:Value)∧w'.cell? ⟨xb,9,none⟩=some (nx:Value)) (first|go_keep|(refine ⟨?_,?_,?_,?_,?_,?_,?_⟩<;>assumption)) (first|(go_at_call 54; ((with_reducible refine (HF.out _).mono ?_); (rintro e w3 ⟨rfl,rfl⟩)))|(go_at_call 55; ((first|(with_reducible refine (HT1.out _).mono ?_)|(with_reducible refine (HT2.out _).mono ?_)|(with_reducible refine (HT3.out _).mono ?_)); (rintro e w4 ⟨rfl,hb⟩; (first|have F3:=Live.hb F3 hb|have F3:=Live.hbd F3 hb); clear hb; have k0_3:=(F3.out.blk 0 rfl).d3; have k0_4:=(F3.out.blk 0 rfl).d4; have k0_5:=(F3.out.blk 0 rfl).d5; have k0_6:=(F3.out.blk 0 rfl).d6; have k0_7:=(F3.out.blk 0 rfl).d7; have k0_8:=(F3.out.blk 0 rfl).d8; have k0_9:w4.cell? ⟨xb,9,none⟩=some (nx:Value):=F3.out.cell 0 9 rfl rfl))))
   all_goals
    obtain ⟨S2,hS2⟩:∃ S2,S++(X0++(X1++(X2++(X3++(tx++(mm++nx))))))=S2:=⟨_,rfl⟩
    have HZ:Hid (({hgt:=(hg:Int),epo:=(ep:Int),vw:=(vw:Int),last:=la,par:=pr,st:=st,rc:=rc,tx:=tx,mem:=mm,nxt:=nx,sk:=sk}:Hd).enc=S2++sk.flatten∧S2.length≤327):=ι (by
     have h1:=HY2.out;have h2:=HTot.out;simp only [List.append_assoc] at h1 h2;refine ⟨by rw [h1,←hS2]; simp only [List.append_assoc],?_⟩;rw [←hS2,List.length_append];omega)
    rw [hS2];clear hS2 HY2 HTot m1 m2 m3 m4 m5 m6 m7 n1 n2 n3 n4 n5 n6 n7 q2 q3 q4 q5 q6 q7 k0_3 k0_4 k0_5 k0_6 k0_7 k0_8 k0_9 HF HT1 HT2 HT3 hS27 HL;have k0_10:=(F3.out.blk 0 rfl).d10;go_wp2_with fail
    refine wp_loop_ghost_k (fun k a wr=>∀ Φ:Act→Prop,(∀ ⦃s0 s1 s2 s3 s4 s6 s7 s8 s9 a0 a3 a4 a5 a6 a7 a8 a9 b0 b1 b2 b3 b4 b5 b6 b7 b8 b9 c0 c1 c2 c3 c4 c5 c6 c7 c8 c9 e3 e4 e5 e6 e7 e8 e9 f0 f1 f2 f3 f4 f5 f6 f7 f8 f9 g0 g1 g2 g3 g4 g5 g6 g7 g8 g9 h7 h8 h9 i0 i1 i2 i3 i4:Value⦄ (i:Nat) (S3:List UInt8),(i+k=sk.length∧S3=S2++(sk.take i).flatten∧S3.length≤327+32*i∧Below w.heap.size w wr)→Φ {tmps:=#[s0,s1,s2,s3,s4,.string ⟨S3.toArray⟩,s6,s7,s8,s9,a0,a3,a4,a5,a6,a7,a8,a9,b0,b1,b2,b3,b4,b5,b6,b7,b8,b9,c0,c1,c2,c3,c4,c5,c6,c7,c8,c9,e3,e4,e5,e6,e7,e8,e9,f0,f1,f2,f3,f4,f5,f6,f7,f8,f9,g0,g1,g2,g3,g4,g5,g6,g7,g8,g9,.slice A sk.length c,.int .i64 sk.length,.int .i64 (i:Int),h7,h8,h9,i0,i1,i2,i3,i4],defers:= []})→Φ a) (sk.length) ?_ ?_
    ·refine fun Φ hΦ=>hΦ (0) (S2) ?_;exact ⟨by omega,by simp,HZ.out.2,F3.out.b⟩
    ·intro k2 a2 wr2 hI2 J2 K2 hJ2 hK2;refine hI2 (fun a=>Code.wp _ _ _ a _) ?_;clear hI2 a2;iterate 72 (intro _)
     intro i S3 hrel
     show Code.wp _ _ _ _ _;obtain ⟨h1,h2,h3,hb⟩:=hrel;by_cases hi:i<sk.length
     ·obtain ⟨ad,off,rfl,hbl,hcell⟩:=few_cell HRR.out hi;have r0:=hcell _ hb;have hi1:(i:Int)<sk.length:=by omega
      have hi0:(0:Int)≤i:=by omega
      have hlen:=HSl.out _ (List.getElem_mem hi);have HI:=ι (And.intro h1 (And.intro hb (show S3++sk[i]=S2++(sk.take (i+1)).flatten by rw [List.take_succ_eq_append_getElem hi,h2,List.flatten_append,List.append_assoc,List.flatten_cons,List.flatten_nil,List.append_nil])));clear h1 h2 hb hcell hbl;generalize sk[i]=x at *;have m1:S3.length+x.length≤9223372036854775807:=by omega
      have HLn:Hid ((S3++x).length≤327+32*(i+1)):=ι (by rw [List.length_append]; omega);clear hlen h3;go_wp2_with fail
      refine Handed.intro (sk.length - (i+1)) ?_ (hJ2 _ _ _ (fun Φ hΦ=>hΦ (i+1) (S3++x) ?_))
      ·have:=HI.out.1; omega
      exact ⟨by have:=HI.out.1; omega,HI.out.2.2,HLn.out,HI.out.2.1⟩
     ·have hi1:((i:Int)<sk.length)=False:=by simp; omega
      have HE:Hid (({hgt:=(hg:Int),epo:=(ep:Int),vw:=(vw:Int),last:=la,par:=pr,st:=st,rc:=rc,tx:=tx,mem:=mm,nxt:=nx,sk:=sk}:Hd).enc=S3):=ι (by rw [HZ.out.1,h2,List.take_of_length_le (by omega)]);have HB:=ι hb;clear h1 h2 h3 hb hi;go_wp2_with fail
      exact HP.out _ _ _ HE.out rfl HB.out
theorem hd_Digest (w:World) (h:Hd) (o:OkH h) (A:Option Addr) (c:Nat) (HR:Reads w w.heap.size 1 A h.sk.length (strv h.sk)) (hT:Tbl w):
  Calls Tryz.prog 27 #[.agg (η h [.slice A h.sk.length c])] w (Ret w (.string ⟨(Hd.dig h).toArray⟩)):=by
 have HP:Hid (∀ (s:List UInt8) w',Hd.dig h=s→Below w.heap.size w w'→Ret w (.string ⟨(Hd.dig h).toArray⟩) (.returned (s:Value)) w'):=ι (fun b w' e h=>by rw [e]; exact ⟨rfl,h⟩);generalize Ret w (.string ⟨(Hd.dig h).toArray⟩)=P at HP ⊢;have HX:Hid (Hd.dig h=if Hd.ok h then shaW (2::Hd.enc h) else []):=ι rfl;have HE:=ι (fun W (hW:Below w.heap.size w W)=>hd_Encode W h o A c ((HR.below hW).more hW.size));unfold HEncEnd at HE;have HTb:=ι hT;have HLn:Hid (Hd.ok h=true→(Hd.enc h).length≤1000):=ι (fun e=>((Hd.ok_iff h).1 e).enc_len);generalize Hd.dig h=X at *;generalize Hd.enc h=s at *;generalize Hd.ok h=b at *;clear o HR hT;go_enter Tryz.func27,Tryz.ntmps27
 go_upto_region 1 with fail
 have F0:=Live.ha (ι (Live.start w)) (η h [.slice A h.sk.length c]) 41;generalize World.alloc w _=W0 at F0 ⊢;generalize w.heap.size=xb at F0 ⊢;have k0:=(F0.out.blk 0 rfl).c11;cases b with
 |false=>
  simp only [Bool.false_eq_true,if_false] at HE HX;go_wp2_with fail
  refine (HE.out _ F0.out.b).mono ?_;rintro e w1 ⟨rfl,hb⟩;have F1:=Live.hb F0 hb;clear hb;go_wp2_with fail
  exact HP.out [] _ HX.out F1.out.b
 |true=>
  simp only [if_true] at HE HX;have HDg:=ι (fun W (hW:Below w.heap.size w W)=>digest_Sum W 2 (by decide) (by decide) s (by have:=HLn.out rfl; omega) (HTb.out.next hW));clear HLn;have HX2:Hid (X=shaW (UInt8.ofNat 2::s)):=ι HX.out;generalize shaW (UInt8.ofNat 2::s)=d at *;go_wp2_with fail
  refine (HE.out _ F0.out.b).mono ?_;rintro e w1 ⟨rfl,hb⟩;have F1:=Live.hb F0 hb;clear hb;go_wp2_with fail
  refine (HDg.out _ F1.out.b).mono ?_;rintro e w2 ⟨rfl,hb⟩;have F2:=Live.hb F1 hb;clear hb;go_wp2_with fail
  exact HP.out _ _ HX2.out F2.out.b
def idxI (l:List Nat) (a:Int):Int:=match l.findIdx? (fun (n:Nat)=>decide ((n:Int)=a)) with
 |some k=>(k:Int)
 |none=> -1
theorem findIdx_take {l:List Nat} {a:Int} {i:Nat} (hi:i<l.length) (h:∀ n∈l.take i,(n:Int)≠a) (he:(l[i]:Int)=a):l.findIdx? (fun (n:Nat)=>decide ((n:Int)=a))=some i:=by
 rw [List.findIdx?_eq_some_iff_getElem];refine ⟨hi,by simpa using he,fun j hj=> ?_⟩
 have:=h l[j] (List.mem_take_iff_getElem.2 ⟨j,by omega,rfl⟩)
 simpa using this
theorem findIdx_no {l:List Nat} {a:Int} (h:∀ n∈l,(n:Int)≠a):l.findIdx? (fun (n:Nat)=>decide ((n:Int)=a))=none:=by
 rw [List.findIdx?_eq_none_iff];intro n hn;simpa using h n hn
theorem int_cell {w:World} {B:Nat} {A:Option Addr} {l:List Nat} (h:Reads w B 1 A l.length (ints l)) {i:Nat} (hi:i<l.length):
  ∃ ad off,A=some ⟨ad,off,none⟩∧ad<B∧∀ w',Below B w w'→w'.cell? ⟨ad,off+i,none⟩=some (.int .i64 (l[i]:Int)):=by
 obtain ⟨ad,off,rfl,hbl,hcell⟩:=h.form (by omega) (by omega);refine ⟨ad,off,rfl,hbl,fun w' hb=> ?_⟩;have q:=hcell i (by rw [ints_length]; exact hi);simp only [ints,List.getElem_map] at q;exact (hb.cell (p:=⟨ad,off+i,none⟩) hbl).trans q
theorem idx_int (w:World) (A:Option Addr) (c:Nat) (l:List Nat) (hl:l.length≤1000000) (at_:Int) (HR:Reads w w.heap.size 1 A l.length (ints l)):
  Calls Tryz.prog 114 #[.slice A l.length c,at_] w fun e w'=>e= .returned (.int .i64 (idxI l at_))∧w=w':=by
 have HP:Hid (∀ (i:Int),idxI l at_=i→(fun e w'=>e=Ending.returned (.int .i64 (idxI l at_))∧w=w') (.returned (.int .i64 i)) w):=ι (fun i h1=>⟨by rw [h1],rfl⟩);generalize (fun e w'=>e=Ending.returned (Value.int .i64 (idxI l at_))∧w=w')=P at HP ⊢;obtain ⟨X,hX⟩:∃ X,idxI l at_=X:=⟨_,rfl⟩
 rw [hX] at HP;have HX:=ι hX;have HRR:=ι HR;have HL:=ι hl;clear HR hX hl;go_enter Tryz.func114,Tryz.ntmps114
 go_wp2_with fail
 refine wp_loop_ghost_k (fun k a wr=>∀ Φ:Act→Prop,(∀ ⦃s2 s3 s4 s5 s9 s0 s1 s6 s7 s8 a0 a2 a3 a4:Value⦄ (i:Nat),(i+k=l.length∧(∀ n∈l.take i,(n:Int)≠at_)∧w=wr)→Φ {tmps:=#[.slice A l.length c,.int .i64 at_,s2,s3,s4,s5,.slice A l.length c,.int .i64 l.length,.int .i64 (i:Int),s9,s0,s1,s6,s7,s8,a0,a2,a3,a4],defers:= []})→Φ a) (l.length) ?_ ?_
 ·refine fun Φ hΦ=>hΦ (0) ?_;exact ⟨by omega,by simp,rfl⟩
 ·intro k1 a1 wr1 hI1 J1 K1 hJ1 hK1;refine hI1 (fun a=>Code.wp _ _ _ a _) ?_;clear hI1 a1;iterate 14 (intro _)
  intro i hrel
  show Code.wp _ _ _ _ _;obtain ⟨h1,h2,rfl⟩:=hrel;by_cases hi:i<l.length
  ·obtain ⟨ad,off,rfl,hbl,hcell⟩:=int_cell HRR.out hi;have r0:=hcell _ (Below.refl _ _);have hi1:(i:Int)<l.length:=by omega
   have hi0:(0:Int)≤i:=by omega
   have hw:IntKind.i64.wrap ((i:Int)+1)=(i:Int)+1:=IntWalk.i64_in _ (by have:=HL.out; omega);have HN:Hid ((l[i]:Int)=at_→X=(i:Int)):=ι (fun e=>by rw [←HX.out]; unfold idxI; rw [findIdx_take hi h2 e]);have HY:Hid (¬(l[i]:Int)=at_→∀ n∈l.take (i+1),(n:Int)≠at_):=ι (fun e n hn=>by
    rw [List.take_succ_eq_append_getElem hi,List.mem_append] at hn;rcases hn with hn|hn
    ·exact h2 n hn
    ·rw [List.mem_singleton] at hn; subst hn; exact e)
   have HI:=ι h1;clear h1 h2 hcell hbl;generalize l[i]=q at *;by_cases he:(q:Int)=at_
   ·have HN2:=ι (HN.out he);have he':(at_==(q:Int))=true:=by rw [he]; simp
    clear HN HY he;go_wp2_with fail
    exact HP.out _ HN2.out
   ·have HY2:=ι (HY.out he);have he':(at_==(q:Int))=false:=by rw [beq_eq_false_iff_ne]; exact fun h=>he h.symm
    clear HN HY he;go_wp2_with fail
    refine Handed.intro (l.length - (i+1)) ?_ (hJ1 _ _ _ (fun Φ hΦ=>hΦ (i+1) ?_))
    ·have:=HI.out; omega
    exact ⟨by have:=HI.out; omega,HY2.out,rfl⟩
  ·have hi1:((i:Int)<l.length)=False:=by simp; omega
   have HE:Hid (X= -1):=ι (by rw [←HX.out]; unfold idxI; rw [findIdx_no (by rwa [List.take_of_length_le (by omega)] at h2)]);clear h1 h2 hi;go_wp2_with fail
   exact HP.out _ HE.out
def LinkEnd (w:World) (h:Hd) (a:Int) (e:Ending) (w':World):Prop:=e= .returned (.tuple #[.string ⟨(Hd.link h a).1.toArray⟩,.int .i64 ((Hd.link h a).2:Int)])∧Below w.heap.size w w'
theorem idxI_lt {l:List Nat} {a:Int} (h:0≤idxI l a):∃ k:Nat,idxI l a=(k:Int)∧k<l.length∧l.findIdx? (fun (n:Nat)=>decide ((n:Int)=a))=some k:=by
 unfold idxI at h ⊢;cases e:l.findIdx? (fun (n:Nat)=>decide ((n:Int)=a)) with
 |none=>rw [e] at h; simp at h
 |some k=>
  have:=(List.findIdx?_eq_some_iff_getElem.1 e).1
  exact ⟨k,by simp,this,rfl⟩
theorem idxI_no {l:List Nat} {a:Int} (h:¬0≤idxI l a):l.findIdx? (fun (n:Nat)=>decide ((n:Int)=a))=none:=by
 unfold idxI at h;cases e:l.findIdx? (fun (n:Nat)=>decide ((n:Int)=a)) with
 |none=>rfl
 |some k=>rw [e] at h; simp at h
theorem z_23 {P:Prop} (h:P:=by
 go_enter Tryz.func83,Tryz.ntmps83
 go_upto_region 1 with fail
 have F0:=Live.ha (ι (Live.start w)) (η h [.slice A h.sk.length c]) 41;generalize World.alloc w _=W0 at F0 ⊢;generalize w.heap.size=xb at F0 ⊢;obtain ⟨k0_0,k0_1,k0_2,k0_3,k0_4,k0_5,k0_6,k0_7,k0_8,k0_9,k0_10⟩:=(F0.out.blk 0 rfl).c11;go_wp2_with fail
 refine (HCk.out _ F0.out.b).mono ?_;rintro e w1 ⟨rfl,hb⟩;have F1:=Live.hb F0 hb;clear hb F0 k0_0 k0_1 k0_2 k0_3 k0_4 k0_5 k0_6 k0_7 k0_8 k0_9 k0_10;have k0_0:=(F1.out.blk 0 rfl).d0;go_wp2_with fail
 refine (HLk.out _).mono ?_;rintro e w2 ⟨v2,rfl,own2,hb⟩;obtain ⟨A2,c2,rfl,hR2,_,_⟩:=own_form own2;have F2:=Live.hb F1 hb;have HR2:=ι hR2;clear hb own2 hR2 F1 k0_0;go_wp2_with fail
 refine (HIx.out _ _ _ HR2.out).mono ?_;rintro e w3 ⟨rfl,rfl⟩;have k0_10:=(F2.out.blk 0 rfl).d10;rcases HC.out with ⟨hx,hX⟩|⟨k,hk,rfl,hX⟩
 ·have hx':(ix<0)=True:=by simp; omega
  have HE:=ι hX;clear hX hx;go_wp2_with fail
  exact HP.out [] 5 _ HE.out F2.out.b
 ·have hx':((k:Int)<0)=False:=by simp
  have HE:=ι hX;obtain ⟨ad,off,rfl,hbl,hcell⟩:=few_cell HRR.out hk;have r0:=hcell _ F2.out.b;have hk1:(k:Int)<h.sk.length:=by omega
  have hk0:(0:Int)≤k:=by omega
  clear hX hcell hbl;generalize h.sk[k]=x at *;go_wp2_with fail
  exact HP.out x 0 _ HE.out F2.out.b):P:=h
theorem hd_Link (w:World) (h:Hd) (o:OkH h) (A:Option Addr) (c:Nat) (HR:Reads w w.heap.size 1 A h.sk.length (strv h.sk)) (a:Int):
  Calls Tryz.prog 83 #[.agg (η h [.slice A h.sk.length c]),a] w (LinkEnd w h a):=by
 have HP:Hid (∀ (s:List UInt8) (cd:Nat) w',Hd.link h a=(s,cd)→Below w.heap.size w w'→LinkEnd w h a (.returned (.tuple #[s,cd])) w'):=ι (fun s cd w' e hb=>by unfold LinkEnd; rw [e]; exact ⟨rfl,hb⟩);generalize LinkEnd w h a=P at HP ⊢;have HCk:=ι (fun W (hW:Below w.heap.size w W)=>hd_Check W h o A c ((HR.below hW).more hW.size));cases hk:Hd.ok h with
 |false=>
  have HE:Hid (Hd.link h a=([],190)):=ι (by unfold Hd.link; rw [if_pos hk]);rw [hk] at HCk;simp only [Bool.false_eq_true,if_false] at HCk;clear o HR hk;go_enter Tryz.func83,Tryz.ntmps83
  go_upto_region 1 with fail
  have F0:=Live.ha (ι (Live.start w)) (η h [.slice A h.sk.length c]) 41;generalize World.alloc w _=W0 at F0 ⊢;generalize w.heap.size=xb at F0 ⊢;obtain ⟨k0_0,k0_1,k0_2,k0_3,k0_4,k0_5,k0_6,k0_7,k0_8,k0_9,k0_10⟩:=(F0.out.blk 0 rfl).c11;go_wp2_with fail
  refine (HCk.out _ F0.out.b).mono ?_;rintro e w1 ⟨rfl,hb⟩;have F1:=Live.hb F0 hb;clear hb;go_wp2_with fail
  exact HP.out [] 190 _ HE.out F1.out.b
 |true=>
 rw [hk] at HCk;simp only [if_true] at HCk;have ok:=(Hd.ok_iff h).1 hk;have HLk:=ι (fun W=>skip_Links_all h.hgt W);simp only [linksV_eq] at HLk;have h0:=ok.h0;have hsk:=ok.sk;have hw:IntKind.i64.wrap (h.hgt - 1)=h.hgt - 1:=IntWalk.i64_in _ (by have:=ok.h1; omega);have hlk22:(Hd.linksH h.hgt).length≤22:=Hd.linksH_len _;have HRR:=ι HR;by_cases h1:0<h.hgt∧a=h.hgt - 1
 ·have HE:Hid (Hd.link h a=(h.par,0)):=ι (by unfold Hd.link; rw [if_neg (by rw [hk]; decide),if_pos h1]);obtain ⟨h1,h2⟩:=h1;have h1':(0<h.hgt)=True:=by simp; omega
  have h2':(a==h.hgt - 1)=true:=by rw [h2]; simp
  clear o HR hk ok h0 hsk h1 h2 HLk hlk22 HRR;go_enter Tryz.func83,Tryz.ntmps83
  go_upto_region 1 with fail
  have F0:=Live.ha (ι (Live.start w)) (η h [.slice A h.sk.length c]) 41;generalize World.alloc w _=W0 at F0 ⊢;generalize w.heap.size=xb at F0 ⊢;obtain ⟨k0_0,k0_1,k0_2,k0_3,k0_4,k0_5,k0_6,k0_7,k0_8,k0_9,k0_10⟩:=(F0.out.blk 0 rfl).c11;go_wp2_with fail
  refine (HCk.out _ F0.out.b).mono ?_;rintro e w1 ⟨rfl,hb⟩;have F1:=Live.hb F0 hb;clear hb F0 k0_0 k0_1 k0_2 k0_3 k0_4 k0_5 k0_6 k0_7 k0_8 k0_9 k0_10;have k0_0:=(F1.out.blk 0 rfl).d0;have k0_4:=(F1.out.blk 0 rfl).d4;go_wp2_with fail
  exact HP.out _ 0 _ HE.out F1.out.b
 have HX:Hid (Hd.link h a=match (Hd.linksH h.hgt).findIdx? (fun (n:Nat)=>decide ((n:Int)=a)) with
  |some k=>((h.sk[k]?).getD [],0)
  |none=>([],5)):=ι (by unfold Hd.link; rw [if_neg (by rw [hk]; decide),if_neg h1]; rfl)
 have HIx:Hid (∀ W A c,Reads W W.heap.size 1 A (Hd.linksH h.hgt).length (ints (Hd.linksH h.hgt))→Calls Tryz.prog 114 #[.slice A (Hd.linksH h.hgt).length c,a] W fun e w'=>e= .returned (.int .i64 (idxI (Hd.linksH h.hgt) a))∧W=w'):=ι (fun W A c hr=>idx_int W A c _ (by omega) a hr);have HS1:Hid (∀ k,(Hd.linksH h.hgt).findIdx? (fun (n:Nat)=>decide ((n:Int)=a))=some k→Hd.link h a=((h.sk[k]?).getD [],0)):=ι (fun k e=>by rw [HX.out,e]);have HS2:Hid ((Hd.linksH h.hgt).findIdx? (fun (n:Nat)=>decide ((n:Int)=a))=none→Hd.link h a=([],5)):=ι (fun e=>by rw [HX.out,e]);generalize Hd.link h a=X at *;generalize Hd.linksH h.hgt=lk at *;have hlt:=@idxI_lt lk a;have hno:=@idxI_no lk a;generalize lk.findIdx? (fun (n:Nat)=>decide ((n:Int)=a))=fi at *;generalize idxI lk a=ix at *;have HC:Hid ((ix<0∧X=([],5))∨∃ (k:Nat) (hk:k<h.sk.length),ix=(k:Int)∧X=(h.sk[k],0)):=ι (by
  by_cases hx:0≤ix
  ·obtain ⟨k,e1,e2,e3⟩:=hlt hx;have hkk:k<h.sk.length:=by omega
   refine .inr ⟨k,hkk,e1,?_⟩;rw [HS1.out k e3,List.getElem?_eq_getElem hkk,Option.getD_some]
  ·exact .inl ⟨by omega,HS2.out (hno hx)⟩)
 have HCn:Hid (0<h.hgt→(a==h.hgt - 1)=false):=ι (fun e=>by rw [beq_eq_false_iff_ne]; exact fun e2=>h1 ⟨e,e2⟩);clear o HR hk ok hsk HX hlt hno HS1 HS2 h1;have hsw:(0<h.hgt)=True∧(a==h.hgt - 1)=false∨(0<h.hgt)=False:=by
  by_cases e:0<h.hgt
  ·exact .inl ⟨by simp [e],HCn.out e⟩
  ·exact .inr (by simp [e])
 clear HCn h0;rcases hsw with ⟨hs1,hs2⟩|hs1
 ·skip
  exact z_23
 ·skip
  exact z_23
end
end Go.Proofs.YtdkiloganbhfkaaGreatDoor