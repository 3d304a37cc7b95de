import Derived.Test.YtnelhjfjkkdoaaaGreatDoorJ26
set_option linter.unusedSimpArgs false
set_option linter.unusedVariables false
set_option maxHeartbeats 4000000
set_option maxRecDepth 100000
namespace Go.Proofs.YtnelhjfjkkdoaaaGreatDoor
section
open Go.RowKit Go.Instr
attribute [local go_sem] ba_get ByteArray.mk_append_mk
attribute [local go_sem ↓] Go.wp_at_zero Go.wp_at_succ
def begW (t:Trie.T) (x:Ex.Tx):(List UInt8 × Nat × Nat) × Nat:=
 if Ex.fineX x=false then (([],0,0),150) else
 match Ex.acc t x.frm,Ex.accTo t x with
 |some f,some tt=>if (f.2:Int)≠x.seq∨f.2=Ex.maxA then (([],0,0),160) else ((x.frm,f.1,f.2),0)
 |_,_=>(([],0,0),3)
theorem z_28 {P:Prop} (h:P:=by
 have s0:=(F9.out.blk 1 rfl).d0;have s1:=(F9.out.blk 1 rfl).d1;have s2:=(F9.out.blk 1 rfl).d2
 (try simp only [Exit.inBlock,Exit.then])
 refine bodyPost_ret (v:= .tuple #[.agg #[ε,ζ,ζ],.int .i64 160]) (by simp [results,Tryz.results190,go_sem,s0,s1,s2]) rfl ?_;exact HP.out [] 0 0 160 _ HE.out F9.out.b):P:=h
theorem z_29 {P:Prop} (h:P:=by
 go_upto_region 10 with fail
 clear k0_0 k0_1 k0_2;obtain ⟨k1_0,k1_1,k1_2⟩:=(F4.out.blk 1 rfl).c3;have f1_0:=F4.out.frozen 1 0 rfl; have f1_1:=F4.out.frozen 1 1 rfl; have f1_2:=F4.out.frozen 1 2 rfl
 go_wp2_with fail
 have F9:=ι (((F4.out.set 1 0 (.string ⟨#[]⟩) rfl).set 1 1 (.int .i64 0) rfl).set 1 2 (.int .i64 0) rfl);simp only [List.set_cons_zero,List.setIfInBounds_toArray,List.set_cons_succ] at F9;generalize ((w4.setCell ⟨rb,0,none⟩ (.string ⟨#[]⟩)).setCell ⟨rb,1,none⟩ (.int .i64 0)).setCell ⟨rb,2,none⟩ (.int .i64 0)=W9 at F9 ⊢;exact z_28):P:=h
theorem z_30 {P:Prop} (h:P:=by
 go_upto_region 10 with fail
 clear k0_0 k0_1 k0_2;obtain ⟨k1_0,k1_1,k1_2⟩:=(F3.out.blk 1 rfl).c3;have f1_0:=F3.out.frozen 1 0 rfl; have f1_1:=F3.out.frozen 1 1 rfl; have f1_2:=F3.out.frozen 1 2 rfl
 go_wp2_with fail
 have F9:=ι (((F3.out.set 1 0 (.string ⟨#[]⟩) rfl).set 1 1 (.int .i64 0) rfl).set 1 2 (.int .i64 0) rfl);simp only [List.set_cons_zero,List.setIfInBounds_toArray,List.set_cons_succ] at F9;generalize ((w3.setCell ⟨rb,0,none⟩ (.string ⟨#[]⟩)).setCell ⟨rb,1,none⟩ (.int .i64 0)).setCell ⟨rb,2,none⟩ (.int .i64 0)=W9 at F9 ⊢;exact z_28):P:=h
theorem exec_begin (w:World) (t:Trie.T) (v:Value) (h:TrieP w t v) (kd:Int) (fr:List UInt8) (sq:Int) (dt:List UInt8) (am:Int) (ky vl:List UInt8) (mm:List Pw.Mem) (A:Option Addr) (c:Nat)
  (hfr:fr.length≤9223372036854775807) (hdt:dt.length≤9223372036854775807) (hky:ky.length≤9223372036854775807) (hvl:vl.length≤9223372036854775807) (hs:∀ x∈mm,x.1.length≤9223372036854775807) (HR:Reads w w.heap.size 2 A mm.length (mcells mm)):
  Calls Tryz.prog 190 #[v,.agg #[kd,fr,sq,dt,am,ky,vl,.slice A mm.length c]] w (AccEnd w (begW t ⟨kd,fr,sq,dt,am,ky,vl,mm⟩)):=by
 have HP:Hid (∀ m (a q c:Nat) w',begW t ⟨kd,fr,sq,dt,am,ky,vl,mm⟩=((m,a,q),c)→Below w.heap.size w w'→AccEnd w (begW t ⟨kd,fr,sq,dt,am,ky,vl,mm⟩) (.returned (.tuple #[.agg #[m,a,q],c])) w'):=ι (fun m a q c w' e h=>by rw [e]; exact ⟨rfl,h⟩);generalize AccEnd w (begW t ⟨kd,fr,sq,dt,am,ky,vl,mm⟩)=P at HP ⊢;have HX:Hid (begW t ⟨kd,fr,sq,dt,am,ky,vl,mm⟩=if Ex.fineX ⟨kd,fr,sq,dt,am,ky,vl,mm⟩=false then (([],0,0),150) else
  match Ex.acc t fr,(if kd=1 then Ex.acc t dt else some (0,0)) with
  |some f,some tt=>if (f.2:Int)≠sq∨f.2=Ex.maxA then (([],0,0),160) else ((fr,f.1,f.2),0)
  |_,_=>(([],0,0),3)):=ι rfl
 have HCk:=ι (fun W (hW:Below w.heap.size w W)=>tx_Check W kd fr sq dt am ky vl mm A c hfr hdt hky hvl hs ((HR.below hW).more hW.size));generalize begW t ⟨kd,fr,sq,dt,am,ky,vl,mm⟩=X at *;have HTr:=ι h;obtain ⟨_,vb,vx,rfl,_⟩:=id h;clear hs HR hky hvl h;cases hx:Ex.fineX ⟨kd,fr,sq,dt,am,ky,vl,mm⟩ with
 |false=>
  rw [hx] at HX HCk;have HE:Hid (X=(([],0,0),150)):=ι HX.out;simp only [Bool.false_eq_true,if_false] at HCk;clear HX hx hfr hdt;go_enter Tryz.func190,Tryz.ntmps190
  go_upto_region 1 with fail
  have F0:=Live.ha (Live.ha (ι (Live.start w)) #[kd,fr,sq,dt,am,ky,vl,.slice A mm.length c] 80) #[ε,ζ,ζ] 62;rw [show (w.alloc (.cells #[kd,fr,sq,dt,am,ky,vl,.slice A mm.length c] 80)).heap.size=w.heap.size+1 from by show (w.heap.push _).size=_; exact Array.size_push _] at F0;obtain ⟨rb,hrb⟩:∃ rb,w.heap.size+1=rb:=⟨_,rfl⟩
  obtain ⟨xb,hxb⟩:∃ xb,w.heap.size=xb:=⟨_,rfl⟩
  rw [hrb,hxb] at F0 ⊢;generalize (w.alloc (.cells #[kd,fr,sq,dt,am,ky,vl,.slice A mm.length c] 80)).alloc (.cells #[ε,ζ,ζ] 62)=W0 at F0 ⊢;clear hrb hxb;obtain ⟨k1_0,k1_1,k1_2,k1_3,k1_4,k1_5,k1_6,k1_7⟩:=(F0.out.blk 1 rfl).c8;go_wp2_with fail
  refine (HCk.out _ F0.out.b).mono ?_;rintro e w1 ⟨rfl,hb⟩;have F1:=Live.hb F0 hb;clear hb F0 k1_0 k1_1 k1_2 k1_3 k1_4 k1_5 k1_6 k1_7 HCk;go_upto_region 3 with fail
  obtain ⟨k0_0,k0_1,k0_2⟩:=(F1.out.blk 0 rfl).c3;have f0_0:=F1.out.frozen 0 0 rfl; have f0_1:=F1.out.frozen 0 1 rfl; have f0_2:=F1.out.frozen 0 2 rfl
  go_wp2_with fail
  have F9:=ι (((F1.out.set 0 0 (.string ⟨#[]⟩) rfl).set 0 1 (.int .i64 0) rfl).set 0 2 (.int .i64 0) rfl);simp only [List.set_cons_zero,List.setIfInBounds_toArray,List.set_cons_succ] at F9;generalize ((w1.setCell ⟨rb,0,none⟩ (.string ⟨#[]⟩)).setCell ⟨rb,1,none⟩ (.int .i64 0)).setCell ⟨rb,2,none⟩ (.int .i64 0)=W9 at F9 ⊢;have s0:=(F9.out.blk 0 rfl).d0;have s1:=(F9.out.blk 0 rfl).d1;have s2:=(F9.out.blk 0 rfl).d2
  (try simp only [Exit.inBlock,Exit.then])
  refine bodyPost_ret (v:= .tuple #[.agg #[ε,ζ,ζ],.int .i64 150]) (by simp [results,Tryz.results190,go_sem,s0,s1,s2]) rfl ?_;exact HP.out [] 0 0 150 _ HE.out F9.out.b
 |true=>
 rw [hx] at HX HCk;simp only [if_true] at HCk;rw [if_neg (by decide)] at HX;obtain ⟨n1,_,_,hk⟩:=Ex.fineX_spec hx;simp only at n1 hk;have HAf:=ι (fun W (hW:TrieP W t (.pointer (some ⟨vb,0,none⟩)))=>exec_Account W t (.pointer (some ⟨vb,0,none⟩)) hW fr (by have:=Ex.nameW_len n1; omega));unfold accW at HAf;rw [n1,if_pos rfl] at HAf;clear hx hfr;cases hf:Ex.acc t fr with
 |none=>
  rw [hf] at HAf HX;have HE:Hid (X=(([],0,0),3)):=ι HX.out;clear HX hf hk n1 hdt;go_enter Tryz.func190,Tryz.ntmps190
  go_upto_region 1 with fail
  have F0:=Live.ha (Live.ha (ι (Live.start w)) #[kd,fr,sq,dt,am,ky,vl,.slice A mm.length c] 80) #[ε,ζ,ζ] 62;rw [show (w.alloc (.cells #[kd,fr,sq,dt,am,ky,vl,.slice A mm.length c] 80)).heap.size=w.heap.size+1 from by show (w.heap.push _).size=_; exact Array.size_push _] at F0;obtain ⟨rb,hrb⟩:∃ rb,w.heap.size+1=rb:=⟨_,rfl⟩
  obtain ⟨xb,hxb⟩:∃ xb,w.heap.size=xb:=⟨_,rfl⟩
  rw [hrb,hxb] at F0 ⊢;generalize (w.alloc (.cells #[kd,fr,sq,dt,am,ky,vl,.slice A mm.length c] 80)).alloc (.cells #[ε,ζ,ζ] 62)=W0 at F0 ⊢;clear hrb hxb;obtain ⟨k1_0,k1_1,k1_2,k1_3,k1_4,k1_5,k1_6,k1_7⟩:=(F0.out.blk 1 rfl).c8;go_wp2_with fail
  refine (HCk.out _ F0.out.b).mono ?_;rintro e w1 ⟨rfl,hb⟩;have F1:=Live.hb F0 hb;clear hb F0 k1_0 k1_1 k1_2 k1_3 k1_4 k1_5 k1_6 k1_7 HCk;have k1_1:=(F1.out.blk 1 rfl).d1;go_wp2_with fail
  refine (HAf.out _ (HTr.out.next F1.out.b)).mono ?_;rintro e w2 ⟨rfl,hb⟩;have F2:=Live.hb F1 hb;clear hb F1 k1_1 HAf;go_upto_region 5 with fail
  have F3:=Live.ha F2 #[.string ⟨([]:List UInt8).toArray⟩,.int .i64 ((0:Nat):Int),.int .i64 ((0:Nat):Int)] 62;generalize World.alloc w2 _=w3 at F3 ⊢;generalize w2.heap.size=fb at F3 ⊢;clear F2;have k2_0:=(F3.out.blk 2 rfl).d0;go_upto_region 8 with fail
  obtain ⟨k1_0,k1_1,k1_2⟩:=(F3.out.blk 1 rfl).c3;have f1_0:=F3.out.frozen 1 0 rfl; have f1_1:=F3.out.frozen 1 1 rfl; have f1_2:=F3.out.frozen 1 2 rfl
  go_wp2_with fail
  have F9:=ι (((F3.out.set 1 0 (.string ⟨#[]⟩) rfl).set 1 1 (.int .i64 0) rfl).set 1 2 (.int .i64 0) rfl);simp only [List.set_cons_zero,List.setIfInBounds_toArray,List.set_cons_succ] at F9;generalize ((w3.setCell ⟨rb,0,none⟩ (.string ⟨#[]⟩)).setCell ⟨rb,1,none⟩ (.int .i64 0)).setCell ⟨rb,2,none⟩ (.int .i64 0)=W9 at F9 ⊢;have s0:=(F9.out.blk 1 rfl).d0;have s1:=(F9.out.blk 1 rfl).d1;have s2:=(F9.out.blk 1 rfl).d2
  (try simp only [Exit.inBlock,Exit.then])
  refine bodyPost_ret (v:= .tuple #[.agg #[ε,ζ,ζ],.int .i64 3]) (by simp [results,Tryz.results190,go_sem,s0,s1,s2]) rfl ?_;exact HP.out [] 0 0 3 _ HE.out F9.out.b
 |some f=>
 obtain ⟨f1,f2⟩:=f;rw [hf] at HAf HX;simp only at HAf HX;clear hf;by_cases k1:kd=1
 ·subst k1;rw [if_pos rfl] at HX;have hd:Ex.nameW dt=true:=by
   rcases hk with ⟨_,h,_⟩|⟨h,_⟩|⟨h,_⟩|⟨h,_⟩
   ·exact h
   ·cases h
   ·cases h
   ·cases h
  have HAd:=ι (fun W (hW:TrieP W t (.pointer (some ⟨vb,0,none⟩)))=>exec_Account W t (.pointer (some ⟨vb,0,none⟩)) hW dt (by have:=Ex.nameW_len hd; omega));unfold accW at HAd;rw [hd,if_pos rfl] at HAd;clear hk n1 hd hdt;cases ht:Ex.acc t dt with
  |none=>
   rw [ht] at HAd HX;have HE:Hid (X=(([],0,0),3)):=ι HX.out;clear HX ht;go_enter Tryz.func190,Tryz.ntmps190
   go_upto_region 1 with fail
   have F0:=Live.ha (Live.ha (ι (Live.start w)) #[.int .i64 1,fr,sq,dt,am,ky,vl,.slice A mm.length c] 80) #[ε,ζ,ζ] 62;rw [show (w.alloc (.cells #[.int .i64 1,fr,sq,dt,am,ky,vl,.slice A mm.length c] 80)).heap.size=w.heap.size+1 from by show (w.heap.push _).size=_; exact Array.size_push _] at F0;obtain ⟨rb,hrb⟩:∃ rb,w.heap.size+1=rb:=⟨_,rfl⟩
   obtain ⟨xb,hxb⟩:∃ xb,w.heap.size=xb:=⟨_,rfl⟩
   rw [hrb,hxb] at F0 ⊢;generalize (w.alloc (.cells #[.int .i64 1,fr,sq,dt,am,ky,vl,.slice A mm.length c] 80)).alloc (.cells #[ε,ζ,ζ] 62)=W0 at F0 ⊢;clear hrb hxb;obtain ⟨k1_0,k1_1,k1_2,k1_3,k1_4,k1_5,k1_6,k1_7⟩:=(F0.out.blk 1 rfl).c8;go_wp2_with fail
   refine (HCk.out _ F0.out.b).mono ?_;rintro e w1 ⟨rfl,hb⟩;have F1:=Live.hb F0 hb;clear hb F0 k1_0 k1_1 k1_2 k1_3 k1_4 k1_5 k1_6 k1_7 HCk;have k1_1:=(F1.out.blk 1 rfl).d1;go_wp2_with fail
   refine (HAf.out _ (HTr.out.next F1.out.b)).mono ?_;rintro e w2 ⟨rfl,hb⟩;have F2:=Live.hb F1 hb;clear hb F1 k1_1 HAf;go_upto_region 5 with fail
   have F3:=Live.ha F2 #[fr,f1,f2] 62;generalize World.alloc w2 _=w3 at F3 ⊢;generalize w2.heap.size=fb at F3 ⊢;clear F2;have k2_0:=(F3.out.blk 2 rfl).d0;have k2_3:=(F3.out.blk 2 rfl).d3;go_wp2_with fail
   refine (HAd.out _ (HTr.out.next F3.out.b)).mono ?_;rintro e w4 ⟨rfl,hb⟩;have F4:=Live.hb F3 hb;clear hb F3 k2_0 k2_3;go_upto_region 8 with fail
   obtain ⟨k1_0,k1_1,k1_2⟩:=(F4.out.blk 1 rfl).c3;have f1_0:=F4.out.frozen 1 0 rfl; have f1_1:=F4.out.frozen 1 1 rfl; have f1_2:=F4.out.frozen 1 2 rfl
   go_wp2_with fail
   have F9:=ι (((F4.out.set 1 0 (.string ⟨#[]⟩) rfl).set 1 1 (.int .i64 0) rfl).set 1 2 (.int .i64 0) rfl);simp only [List.set_cons_zero,List.setIfInBounds_toArray,List.set_cons_succ] at F9;generalize ((w4.setCell ⟨rb,0,none⟩ (.string ⟨#[]⟩)).setCell ⟨rb,1,none⟩ (.int .i64 0)).setCell ⟨rb,2,none⟩ (.int .i64 0)=W9 at F9 ⊢;have s0:=(F9.out.blk 1 rfl).d0;have s1:=(F9.out.blk 1 rfl).d1;have s2:=(F9.out.blk 1 rfl).d2
   (try simp only [Exit.inBlock,Exit.then])
   refine bodyPost_ret (v:= .tuple #[.agg #[ε,ζ,ζ],.int .i64 3]) (by simp [results,Tryz.results190,go_sem,s0,s1,s2]) rfl ?_;exact HP.out [] 0 0 3 _ HE.out F9.out.b
  |some tt=>
   obtain ⟨t1,t2⟩:=tt;rw [ht] at HAd HX;simp only at HAd HX;clear ht;go_enter Tryz.func190,Tryz.ntmps190
   go_upto_region 1 with fail
   have F0:=Live.ha (Live.ha (ι (Live.start w)) #[.int .i64 1,fr,sq,dt,am,ky,vl,.slice A mm.length c] 80) #[ε,ζ,ζ] 62;rw [show (w.alloc (.cells #[.int .i64 1,fr,sq,dt,am,ky,vl,.slice A mm.length c] 80)).heap.size=w.heap.size+1 from by show (w.heap.push _).size=_; exact Array.size_push _] at F0;obtain ⟨rb,hrb⟩:∃ rb,w.heap.size+1=rb:=⟨_,rfl⟩
   obtain ⟨xb,hxb⟩:∃ xb,w.heap.size=xb:=⟨_,rfl⟩
   rw [hrb,hxb] at F0 ⊢;generalize (w.alloc (.cells #[.int .i64 1,fr,sq,dt,am,ky,vl,.slice A mm.length c] 80)).alloc (.cells #[ε,ζ,ζ] 62)=W0 at F0 ⊢;clear hrb hxb;obtain ⟨k1_0,k1_1,k1_2,k1_3,k1_4,k1_5,k1_6,k1_7⟩:=(F0.out.blk 1 rfl).c8;go_wp2_with fail
   refine (HCk.out _ F0.out.b).mono ?_;rintro e w1 ⟨rfl,hb⟩;have F1:=Live.hb F0 hb;clear hb F0 k1_0 k1_1 k1_2 k1_3 k1_4 k1_5 k1_6 k1_7 HCk;have k1_1:=(F1.out.blk 1 rfl).d1;go_wp2_with fail
   refine (HAf.out _ (HTr.out.next F1.out.b)).mono ?_;rintro e w2 ⟨rfl,hb⟩;have F2:=Live.hb F1 hb;clear hb F1 k1_1 HAf;go_upto_region 5 with fail
   have F3:=Live.ha F2 #[fr,f1,f2] 62;generalize World.alloc w2 _=w3 at F3 ⊢;generalize w2.heap.size=fb at F3 ⊢;clear F2;have k2_0:=(F3.out.blk 2 rfl).d0;have k2_3:=(F3.out.blk 2 rfl).d3;go_wp2_with fail
   refine (HAd.out _ (HTr.out.next F3.out.b)).mono ?_;rintro e w4 ⟨rfl,hb⟩;have F4:=Live.hb F3 hb;clear hb F3 k2_0 k2_3 HAd;obtain ⟨k0_0,k0_1,k0_2⟩:=(F4.out.blk 0 rfl).c3;have k2_2:=(F4.out.blk 2 rfl).d2;by_cases g1:(f2:Int)=sq;rotate_left
   ·have g1':((f2:Int)==sq)=false:=by rw [beq_eq_false_iff_ne]; exact g1
    have HE:Hid (X=(([],0,0),160)):=ι (by rw [HX.out,if_pos (Or.inl g1)]);clear HX g1;exact z_29
   subst g1;have g1':((f2:Int)==(f2:Int))=true:=by simp
   by_cases g2:f2=Ex.maxA
   ·have g2':((f2:Int)==1099511627776)=true:=by rw [g2]; rfl
    have HE:Hid (X=(([],0,0),160)):=ι (by rw [HX.out,if_pos (Or.inr g2)]);clear HX g2;exact z_29
   have g2':((f2:Int)==1099511627776)=false:=by rw [beq_eq_false_iff_ne]; unfold Ex.maxA at g2; omega
   have HE:Hid (X=((fr,f1,f2),0)):=ι (by rw [HX.out,if_neg]; rintro (h|h); exact h rfl; exact g2 h);clear HX g2;obtain ⟨k1_0,k1_1,k1_2⟩:=(F4.out.blk 1 rfl).c3;have f1_0:=F4.out.frozen 1 0 rfl; have f1_1:=F4.out.frozen 1 1 rfl; have f1_2:=F4.out.frozen 1 2 rfl
   go_wp2_with fail
   have F9:=ι (((F4.out.set 1 0 (.string ⟨fr.toArray⟩) rfl).set 1 1 (.int .i64 (f1:Int)) rfl).set 1 2 (.int .i64 (f2:Int)) rfl);simp only [List.set_cons_zero,List.setIfInBounds_toArray,List.set_cons_succ] at F9;generalize ((w4.setCell ⟨rb,0,none⟩ (.string ⟨fr.toArray⟩)).setCell ⟨rb,1,none⟩ (.int .i64 (f1:Int))).setCell ⟨rb,2,none⟩ (.int .i64 (f2:Int))=W9 at F9 ⊢;have s0:=(F9.out.blk 1 rfl).d0;have s1:=(F9.out.blk 1 rfl).d1;have s2:=(F9.out.blk 1 rfl).d2
   (try simp only [Exit.inBlock,Exit.then])
   refine bodyPost_ret (v:= .tuple #[.agg #[fr,f1,f2],ζ]) (by simp [results,Tryz.results190,go_sem,s0,s1,s2]) rfl ?_;exact HP.out fr f1 f2 0 _ HE.out F9.out.b
 ·rw [if_neg k1] at HX;have kk1:(kd==1)=false:=by rw [beq_eq_false_iff_ne]; exact k1
  simp only at HX;clear hk n1 k1 hdt;go_enter Tryz.func190,Tryz.ntmps190
  go_upto_region 1 with fail
  have F0:=Live.ha (Live.ha (ι (Live.start w)) #[kd,fr,sq,dt,am,ky,vl,.slice A mm.length c] 80) #[ε,ζ,ζ] 62;rw [show (w.alloc (.cells #[kd,fr,sq,dt,am,ky,vl,.slice A mm.length c] 80)).heap.size=w.heap.size+1 from by show (w.heap.push _).size=_; exact Array.size_push _] at F0;obtain ⟨rb,hrb⟩:∃ rb,w.heap.size+1=rb:=⟨_,rfl⟩
  obtain ⟨xb,hxb⟩:∃ xb,w.heap.size=xb:=⟨_,rfl⟩
  rw [hrb,hxb] at F0 ⊢;generalize (w.alloc (.cells #[kd,fr,sq,dt,am,ky,vl,.slice A mm.length c] 80)).alloc (.cells #[ε,ζ,ζ] 62)=W0 at F0 ⊢;clear hrb hxb;obtain ⟨k1_0,k1_1,k1_2,k1_3,k1_4,k1_5,k1_6,k1_7⟩:=(F0.out.blk 1 rfl).c8;go_wp2_with fail
  refine (HCk.out _ F0.out.b).mono ?_;rintro e w1 ⟨rfl,hb⟩;have F1:=Live.hb F0 hb;clear hb F0 k1_0 k1_1 k1_2 k1_3 k1_4 k1_5 k1_6 k1_7 HCk;have k1_1:=(F1.out.blk 1 rfl).d1;go_wp2_with fail
  refine (HAf.out _ (HTr.out.next F1.out.b)).mono ?_;rintro e w2 ⟨rfl,hb⟩;have F2:=Live.hb F1 hb;clear hb F1 k1_1 HAf;go_upto_region 5 with fail
  have F3:=Live.ha F2 #[fr,f1,f2] 62;generalize World.alloc w2 _=w3 at F3 ⊢;generalize w2.heap.size=fb at F3 ⊢;clear F2;have k2_0:=(F3.out.blk 2 rfl).d0;obtain ⟨k0_0,k0_1,k0_2⟩:=(F3.out.blk 0 rfl).c3;have k2_2:=(F3.out.blk 2 rfl).d2;by_cases g1:(f2:Int)=sq;rotate_left
  ·have g1':((f2:Int)==sq)=false:=by rw [beq_eq_false_iff_ne]; exact g1
   have HE:Hid (X=(([],0,0),160)):=ι (by rw [HX.out,if_pos (Or.inl g1)]);clear HX g1;exact z_30
  subst g1;have g1':((f2:Int)==(f2:Int))=true:=by simp
  by_cases g2:f2=Ex.maxA
  ·have g2':((f2:Int)==1099511627776)=true:=by rw [g2]; rfl
   have HE:Hid (X=(([],0,0),160)):=ι (by rw [HX.out,if_pos (Or.inr g2)]);clear HX g2;exact z_30
  have g2':((f2:Int)==1099511627776)=false:=by rw [beq_eq_false_iff_ne]; unfold Ex.maxA at g2; omega
  have HE:Hid (X=((fr,f1,f2),0)):=ι (by rw [HX.out,if_neg]; rintro (h|h); exact h rfl; exact g2 h);clear HX g2;obtain ⟨k1_0,k1_1,k1_2⟩:=(F3.out.blk 1 rfl).c3;have f1_0:=F3.out.frozen 1 0 rfl; have f1_1:=F3.out.frozen 1 1 rfl; have f1_2:=F3.out.frozen 1 2 rfl
  go_wp2_with fail
  have F9:=ι (((F3.out.set 1 0 (.string ⟨fr.toArray⟩) rfl).set 1 1 (.int .i64 (f1:Int)) rfl).set 1 2 (.int .i64 (f2:Int)) rfl);simp only [List.set_cons_zero,List.setIfInBounds_toArray,List.set_cons_succ] at F9;generalize ((w3.setCell ⟨rb,0,none⟩ (.string ⟨fr.toArray⟩)).setCell ⟨rb,1,none⟩ (.int .i64 (f1:Int))).setCell ⟨rb,2,none⟩ (.int .i64 (f2:Int))=W9 at F9 ⊢;have s0:=(F9.out.blk 1 rfl).d0;have s1:=(F9.out.blk 1 rfl).d1;have s2:=(F9.out.blk 1 rfl).d2
  (try simp only [Exit.inBlock,Exit.then])
  refine bodyPost_ret (v:= .tuple #[.agg #[fr,f1,f2],ζ]) (by simp [results,Tryz.results190,go_sem,s0,s1,s2]) rfl ?_;exact HP.out fr f1 f2 0 _ HE.out F9.out.b
end
end Go.Proofs.YtnelhjfjkkdoaaaGreatDoor