import Derived.Test.YtnelhjfjkkdoaaaGreatDoorJ27
set_option linter.unusedSimpArgs false
set_option linter.unusedVariables false
set_option maxHeartbeats 4000000
set_option maxRecDepth 100000
namespace Go.Proofs.YtnelhjfjkkdoaaaGreatDoor
section
open Go.RowKit Go.Instr
attribute [local go_sem] ba_get ByteArray.mk_append_mk
attribute [local go_sem ↓] Go.wp_at_zero Go.wp_at_succ
theorem beg_cases (t:Trie.T) (x:Ex.Tx):(∃ c,c≠0∧begW t x=(([],0,0),c)∧Ex.doW t x=(t,c))∨
  (∃ f tt,Ex.fineX x=true∧Ex.acc t x.frm=some f∧Ex.accTo t x=some tt∧(f.2:Int)=x.seq∧begW t x=((x.frm,f.1,f.2),0)∧
   Ex.doW t x=if (Ex.kindW t x f tt).2.1=0 then (Trie.put (Ex.kindW t x f tt).1 (Nib.of (Ex.aKey x.frm)) (Ex.writA ((Ex.kindW t x f tt).2.2,f.2+1)),0) else (t,(Ex.kindW t x f tt).2.1)):=by
 cases hx:Ex.fineX x with
 |false=>exact .inl ⟨150,by decide,by unfold begW; rw [if_pos hx],by unfold Ex.doW; rw [if_pos hx]⟩
 |true=>
  cases hf:Ex.acc t x.frm with
  |none=>exact .inl ⟨3,by decide,by unfold begW; rw [if_neg (by rw [hx]; decide),hf],by unfold Ex.doW; rw [if_neg (by rw [hx]; decide),hf]⟩
  |some f=>
   cases ht:Ex.accTo t x with
   |none=>exact .inl ⟨3,by decide,by unfold begW; rw [if_neg (by rw [hx]; decide),hf,ht],by unfold Ex.doW; rw [if_neg (by rw [hx]; decide),hf,ht]⟩
   |some tt=>
    by_cases hs:(f.2:Int)≠x.seq∨f.2=Ex.maxA
    ·exact .inl ⟨160,by decide,by unfold begW; rw [if_neg (by rw [hx]; decide),hf,ht]; simp only; rw [if_pos hs],by unfold Ex.doW; rw [if_neg (by rw [hx]; decide),hf,ht]; simp only; rw [if_pos hs]⟩
    ·refine .inr ⟨f,tt,rfl,rfl,rfl,?_,?_,?_⟩
     ·by_cases h:(f.2:Int)=x.seq
      ·exact h
      ·exact absurd (Or.inl h) hs
     ·unfold begW; rw [if_neg (by rw [hx]; decide),hf,ht]; simp only; rw [if_neg hs]
     ·unfold Ex.doW; rw [if_neg (by rw [hx]; decide),hf,ht]; simp only; rw [if_neg hs]
theorem WorkP.other {w:World} {wb:Nat} {t:Trie.T} {c g i:Nat} {cs:Array Value} (h:WorkP w wb t c) (hg:Blk w g 62 cs) (u:Value):WorkP (w.setCell ⟨g,i,none⟩ u) wb t c:=by
 obtain ⟨v,h1,h2⟩:=h;exact ⟨v,h1.far (p:=⟨g,i,none⟩) (h1.ne_ hg (by decide)) u,h2.kept (grown_cell (World.grownBy.refl w (some g)) i u) (fun k e=>by injection e with e; subst e; exact ⟨_,_,hg,by decide,by decide⟩)⟩
theorem z_31 {P:Prop} (h:P:=by
 obtain ⟨k0_0,k0_1,k0_2⟩:=(F6.out.blk 0 rfl).c3;have fz2:=F6.out.frozen 0 2 rfl;go_upto_region 18 with fail
 have F7:=Live.hs F6 0 2 (.int .i64 ((f2:Int)+1)) rfl;have K7:=ι (K6.out.other (i:=2) (F6.out.blk 0 rfl) (.int .i64 ((f2:Int)+1)));simp only [List.set_cons_zero,List.setIfInBounds_toArray,List.set_cons_succ] at F7;generalize w6.setCell ⟨fb,2,none⟩ _=w7 at F7 K7 ⊢;rw [show (f2:Int)+1=((f2+1:Nat):Int) by omega] at F7;clear k0_0 k0_1 k0_2 fz2 F6 K6;obtain ⟨k0_0,k0_1,k0_2⟩:=(F7.out.blk 0 rfl).c3;go_wp2_with fail
 refine (HSv.out _ F7.out.b K7.out HGd.out.1 HGd.out.2).mono ?_;rintro e w8 ⟨rfl,hk8,hg8⟩;have F8:=ι (F7.out.apart hg8 (fun k e=>by injection e with e; subst e; exact ⟨HWb.out.1,by intro x hx; simp only [List.mem_cons,List.not_mem_nil,or_false] at hx; rcases hx with rfl|rfl; exact HWb.out.2.1; exact HWb.out.2.2⟩));obtain ⟨v8,hB8,hT8⟩:=hk8;obtain ⟨_,p8,x8,rfl,_⟩:=id hT8;have K8:=ι (And.intro hB8 hT8);have c80:w8.cell? ⟨wb,0,none⟩=some (.pointer (some ⟨p8,0,none⟩)):=hB8.cell 0;have c81:w8.cell? ⟨wb,1,none⟩=some (.int .i64 0):=hB8.cell 1;clear hg8 hB8 hT8 F7 K7 HSv k0_0 k0_1 k0_2;go_wp2_with fail
 exact HP.out _ 0 _ _ HE.out F8.out.b (fun _=>K8.out.2) (fun h=>absurd rfl h)):P:=h
theorem exec_Do (w:World) (t:Trie.T) (v:Value) (h:TrieP w t v) (hcn:Trie.count t≤1000) (hT:Tbl w) (kd:Int) (fr:List UInt8) (sq:Int) (dt:List UInt8) (am:Int) (ky vl:List UInt8) (mm:List Pw.Mem) (A:Option Addr) (c:Nat)
  (hfr:fr.length≤9223372036854775807) (hdt:dt.length≤9223372036854775807) (hky:ky.length≤9223372036854775807) (hvl:vl.length≤9223372036854775807) (hs:∀ x∈mm,x.1.length≤9223372036854775807) (HR:Reads w w.heap.size 2 A mm.length (mcells mm)):
  Calls Tryz.prog 162 #[v,.agg #[kd,fr,sq,dt,am,ky,vl,.slice A mm.length c]] w (TPutEnd w (Ex.doW t ⟨kd,fr,sq,dt,am,ky,vl,mm⟩).1 (Ex.doW t ⟨kd,fr,sq,dt,am,ky,vl,mm⟩).2):=by
 have HP:Hid (∀ t' (c:Nat) v' w',Ex.doW t ⟨kd,fr,sq,dt,am,ky,vl,mm⟩=(t',c)→Below w.heap.size w w'→(c=0→TrieP w' t' v')→(c≠0→v'= .pointer none)→TPutEnd w (Ex.doW t ⟨kd,fr,sq,dt,am,ky,vl,mm⟩).1 (Ex.doW t ⟨kd,fr,sq,dt,am,ky,vl,mm⟩).2 (.returned (.tuple #[v',.int .i64 (c:Int)])) w'):=ι (fun t' c v' w' e h2 h3 h4=>⟨v',by rw [e],h2,by rw [e]; exact h3,by rw [e]; exact h4⟩);generalize TPutEnd w (Ex.doW t ⟨kd,fr,sq,dt,am,ky,vl,mm⟩).1 (Ex.doW t ⟨kd,fr,sq,dt,am,ky,vl,mm⟩).2=P at HP ⊢;have HBg:=ι (fun W (hW:Below w.heap.size w W)=>exec_begin W t v (h.next hW) kd fr sq dt am ky vl mm A c hfr hdt hky hvl hs ((HR.below hW).more hW.size));have HTr:=ι h;have HTb:=ι hT;have HGo:=ι h.1;have HCn:=ι hcn;have HRd:=ι (And.intro hs HR);obtain ⟨_,vb,vx,rfl,_⟩:=id h;have hcs:=beg_cases t ⟨kd,fr,sq,dt,am,ky,vl,mm⟩;obtain ⟨X,hX⟩:∃ X,Ex.doW t ⟨kd,fr,sq,dt,am,ky,vl,mm⟩=X:=⟨_,rfl⟩
 obtain ⟨Y,hY⟩:∃ Y,begW t ⟨kd,fr,sq,dt,am,ky,vl,mm⟩=Y:=⟨_,rfl⟩
 rw [hX,hY] at hcs;rw [hX] at HP;rw [hY] at HBg;clear h hcn hT hs HR hX hY hfr hdt hvl hky;go_enter Tryz.func162,Tryz.ntmps162
 go_upto_region 1 with fail
 have F0:=Live.ha (ι (Live.start w)) #[kd,fr,sq,dt,am,ky,vl,.slice A mm.length c] 80;generalize World.alloc w _=W0 at F0 ⊢;generalize w.heap.size=xb at F0 ⊢;refine wp_scope_straight ?_;obtain ⟨k0_0,k0_1,k0_2,k0_3,k0_4,k0_5,k0_6,k0_7⟩:=(F0.out.blk 0 rfl).c8;rcases hcs with ⟨cd,hc0,hb,hd⟩|⟨f,tt,hx,hf,htt,hsq,hb,hd⟩
 ·subst hb;subst hd;have hc1:((cd:Int) !=0)=true:=by simp; exact hc0
  have HC:=ι hc0;clear hc0;go_wp2_with fail
  refine (HBg.out _ F0.out.b).mono ?_;rintro e w1 ⟨rfl,hb⟩;have F1:=Live.hb F0 hb;clear hb F0 k0_0 k0_1 k0_2 k0_3 k0_4 k0_5 k0_6 k0_7 HBg;go_upto_region 2 with fail
  have F2:=Live.ha F1 #[ε,ζ,ζ] 62;generalize World.alloc w1 _=w2 at F2 ⊢;generalize w1.heap.size=fb at F2 ⊢;clear F1;go_wp2_with fail
  exact HP.out t cd _ _ rfl F2.out.b (fun h=>absurd h HC.out) (fun _=>rfl)
 subst hb;obtain ⟨f1,f2⟩:=f;simp only at hf htt hsq HBg;have hle:=Ex.acc_le hf;obtain ⟨n1,_,_,hk⟩:=Ex.fineX_spec hx;simp only at n1 hk hle;have htl:tt.1≤Ex.maxA∧tt.2≤Ex.maxA:=by
  unfold Ex.accTo at htt
  split at htt
  ·exact Ex.acc_le htt
  ·injection htt with htt; subst htt; exact ⟨by simp,by simp⟩
 have hgd:=Ex.kindW_good HGo.out hx (f:=(f1,f2)) (tt:=tt) hle.1 htl;have HNm:=ι (Ex.nameW_len n1).2;have HF1:=ι hle.1;have HF2:=ι hle.2;have HD:=ι hd;have HKx:=ι (And.intro hx (And.intro htl (And.intro htt hgd)));have hw2:IntKind.i64.wrap ((f2:Int)+1)=(f2:Int)+1:=IntWalk.i64_in _ (by unfold Ex.maxA at hle; omega);clear hd hf htl htt hgd hsq hle n1;go_wp2_with fail
 refine (HBg.out _ F0.out.b).mono ?_;rintro e w1 ⟨rfl,hb⟩;have F1:=Live.hb F0 hb;clear hb F0 k0_0 k0_1 k0_2 k0_3 k0_4 k0_5 k0_6 k0_7 HBg;go_upto_region 2 with fail
 have F2:=Live.ha F1 #[fr,f1,f2] 62;generalize World.alloc w1 _=w2 at F2 ⊢;generalize w1.heap.size=fb at F2 ⊢;clear F1;go_wp2_with fail
 go_step3
 have F5:=Live.hb F2 ((Below.refl _ w2).alloc (Nat.le_refl _) (.cells #[.pointer (some ⟨vb,0,none⟩),ζ] 272));have K5:Hid (WorkP (w2.alloc (.cells #[.pointer (some ⟨vb,0,none⟩),ζ] 272)) w2.heap.size t 0):=ι ⟨_,Blk.new _ _ _,HTr.out.next F5.out.b⟩;have HWb:Hid (w.heap.size≤w2.heap.size∧fb≠w2.heap.size∧xb≠w2.heap.size):=ι ⟨F2.out.b.size,fun e=>by have:=F2.out.lt 0 rfl; omega,fun e=>by have:=F2.out.lt 1 rfl; omega⟩;generalize World.alloc w2 _=w5 at F5 K5 ⊢;generalize w2.heap.size=wb at F5 K5 HWb ⊢;clear F2;obtain ⟨k1_0,k1_1,k1_2,k1_3,k1_4,k1_5,k1_6,k1_7⟩:=(F5.out.blk 1 rfl).c8;rcases hk with ⟨k,hto,a1,a2,z1⟩|⟨k,z1,z2,z3,v1,v2,q1,q2⟩|⟨k,z1,z2,z3,z4,q1,q2⟩|⟨k,z1,z2,z3,z4,hm⟩
 ·subst k;clear z1;obtain ⟨amn,rfl⟩:=Int.eq_ofNat_of_zero_le (show 0≤am by omega);have hkw:=Ex.kindW_1 (t:=t) (x:=⟨1,fr,sq,dt,(amn:Int),ky,vl,mm⟩) (f:=(f1,f2)) (tt:=tt) rfl;simp only [Int.toNat_natCast] at hkw;have HMv:=ι (work_move w5 wb t K5.out (by have:=HCn.out; omega) (HTb.out.next F5.out.b) fr dt (f1,f2) tt ⟨HF1.out,HF2.out⟩ hto (by have:=HKx.out.2.2.1; unfold Ex.accTo at this; rwa [if_pos rfl] at this) 1 sq amn (by omega) (by unfold Ex.maxA; omega) ky vl mm A c rfl);simp only at HMv;obtain ⟨k0_0,k0_1,k0_2⟩:=(F5.out.blk 0 rfl).c3;by_cases g1:(f1:Int)<(amn:Int)
  ·rw [if_pos g1] at hkw;have HC:Hid (161≠0):=ι (by decide);have HE:Hid (X=(t,161)):=ι (by rw [HD.out,hkw]; rfl);rw [hkw] at HMv;clear hkw HD HKx HCn g1 a1 a2;go_wp2_with fail
   refine HMv.out.mono ?_;rintro e w6 ⟨rfl,hk6,hg6⟩;have K6:=ι hk6;have F6:=ι (F5.out.apart hg6 (fun k e=>by injection e with e; subst e; exact ⟨HWb.out.1,by intro x hx; simp only [List.mem_cons,List.not_mem_nil,or_false] at hx; rcases hx with rfl|rfl; exact HWb.out.2.1; exact HWb.out.2.2⟩));clear hk6 hg6 F5 K5;have c61:w6.cell? ⟨wb,1,none⟩=some (.int .i64 161):=by obtain ⟨v6,hB6,_⟩:=id K6.out; exact hB6.cell 1
   clear k0_0 k0_1 k0_2 k1_0 k1_1 k1_2 k1_3 k1_4 k1_5 k1_6 k1_7 HMv;have HSv:=ι (fun W (hk:WorkP W wb t 161)=>work_save_no W wb t 161 hk HC.out fr HNm.out f1 (f2+1) (by have:=HF1.out; unfold Ex.maxA at this; omega) (by have:=HF2.out; unfold Ex.maxA at this; omega));obtain ⟨k0_0,k0_1,k0_2⟩:=(F6.out.blk 0 rfl).c3;have fz2:=F6.out.frozen 0 2 rfl;go_upto_region 18 with fail
   have F7:=Live.hs F6 0 2 (.int .i64 ((f2:Int)+1)) rfl;have K7:=ι (K6.out.other (i:=2) (F6.out.blk 0 rfl) (.int .i64 ((f2:Int)+1)));simp only [List.set_cons_zero,List.setIfInBounds_toArray,List.set_cons_succ] at F7;generalize w6.setCell ⟨fb,2,none⟩ _=w7 at F7 K7 ⊢;rw [show (f2:Int)+1=((f2+1:Nat):Int) by omega] at F7;clear k0_0 k0_1 k0_2 fz2 F6 K6;obtain ⟨k0_0,k0_1,k0_2⟩:=(F7.out.blk 0 rfl).c3;go_wp2_with fail
   refine (HSv.out _ K7.out).mono ?_;rintro e w8 ⟨rfl,hk8,hg8⟩;have F8:=ι (F7.out.apart hg8 (fun k e=>by injection e with e; subst e; exact ⟨HWb.out.1,by intro x hx; simp only [List.mem_cons,List.not_mem_nil,or_false] at hx; rcases hx with rfl|rfl; exact HWb.out.2.1; exact HWb.out.2.2⟩));obtain ⟨v8,hB8,hT8⟩:=hk8;have c81:w8.cell? ⟨wb,1,none⟩=some (.int .i64 (161:Int)):=hB8.cell 1;clear hg8 hB8 hT8 F7 K7 HSv k0_0 k0_1 k0_2;go_wp2_with fail
   go_quiet (fail)
   go_wp2_with fail
   exact HP.out _ 161 _ _ HE.out (below_drewN F8.out.b _) (fun h=>absurd h HC.out) (fun _=>rfl)
  rw [if_neg g1] at hkw;by_cases g2:dt=fr
  ·rw [if_pos g2] at hkw;have HE:Hid (X=(Trie.put t (Nib.of (Ex.aKey fr)) (Ex.writA (f1,f2+1)),0)):=ι (by rw [HD.out,hkw,if_pos rfl]);have HGd:Hid (Trie.count t<1024∧f1≤Ex.maxA):=ι ⟨by have:=HCn.out; omega,HF1.out⟩;rw [hkw] at HMv;subst dt;have g2b:(fr==fr)=true:=by simp
   clear hkw HD HKx HCn g1 a1 a2;go_wp2_with fail
   refine HMv.out.mono ?_;rintro e w6 ⟨rfl,hk6,hg6⟩;have K6:=ι hk6;have F6:=ι (F5.out.apart hg6 (fun k e=>by injection e with e; subst e; exact ⟨HWb.out.1,by intro x hx; simp only [List.mem_cons,List.not_mem_nil,or_false] at hx; rcases hx with rfl|rfl; exact HWb.out.2.1; exact HWb.out.2.2⟩));clear hk6 hg6 F5 K5;have c61:w6.cell? ⟨wb,1,none⟩=some (.int .i64 0):=by obtain ⟨v6,hB6,_⟩:=id K6.out; exact hB6.cell 1
   clear k0_0 k0_1 k0_2 k1_0 k1_1 k1_2 k1_3 k1_4 k1_5 k1_6 k1_7 HMv;have k1_3:=(F6.out.blk 1 rfl).d3;have k1_1:=(F6.out.blk 1 rfl).d1;have HSv:=ι (fun W (hW:Below w.heap.size w W) (hk:WorkP W wb t 0) (hcn:Trie.count t<1024) (hA:f1≤Ex.maxA)=>work_save_ok W wb t hk hcn (HTb.out.next hW) fr HNm.out f1 (f2+1) (by unfold Ex.maxA at hA; omega) (by have:=HF2.out; unfold Ex.maxA at this; omega));exact z_31
  rw [if_neg g2] at hkw;by_cases g3:(1099511627776:Int) - (amn:Int)<tt.1
  ·rw [if_pos g3] at hkw;have HC:Hid (1≠0):=ι (by decide);have HE:Hid (X=(t,1)):=ι (by rw [HD.out,hkw]; rfl);rw [hkw] at HMv;clear hkw HD HKx HCn g1 g2 g3 a1 a2;go_wp2_with fail
   refine HMv.out.mono ?_;rintro e w6 ⟨rfl,hk6,hg6⟩;have K6:=ι hk6;have F6:=ι (F5.out.apart hg6 (fun k e=>by injection e with e; subst e; exact ⟨HWb.out.1,by intro x hx; simp only [List.mem_cons,List.not_mem_nil,or_false] at hx; rcases hx with rfl|rfl; exact HWb.out.2.1; exact HWb.out.2.2⟩));clear hk6 hg6 F5 K5;have c61:w6.cell? ⟨wb,1,none⟩=some (.int .i64 1):=by obtain ⟨v6,hB6,_⟩:=id K6.out; exact hB6.cell 1
   clear k0_0 k0_1 k0_2 k1_0 k1_1 k1_2 k1_3 k1_4 k1_5 k1_6 k1_7 HMv;have HSv:=ι (fun W (hk:WorkP W wb t 1)=>work_save_no W wb t 1 hk HC.out fr HNm.out f1 (f2+1) (by have:=HF1.out; unfold Ex.maxA at this; omega) (by have:=HF2.out; unfold Ex.maxA at this; omega));obtain ⟨k0_0,k0_1,k0_2⟩:=(F6.out.blk 0 rfl).c3;have fz2:=F6.out.frozen 0 2 rfl;go_upto_region 18 with fail
   have F7:=Live.hs F6 0 2 (.int .i64 ((f2:Int)+1)) rfl;have K7:=ι (K6.out.other (i:=2) (F6.out.blk 0 rfl) (.int .i64 ((f2:Int)+1)));simp only [List.set_cons_zero,List.setIfInBounds_toArray,List.set_cons_succ] at F7;generalize w6.setCell ⟨fb,2,none⟩ _=w7 at F7 K7 ⊢;rw [show (f2:Int)+1=((f2+1:Nat):Int) by omega] at F7;clear k0_0 k0_1 k0_2 fz2 F6 K6;obtain ⟨k0_0,k0_1,k0_2⟩:=(F7.out.blk 0 rfl).c3;go_wp2_with fail
   refine (HSv.out _ K7.out).mono ?_;rintro e w8 ⟨rfl,hk8,hg8⟩;have F8:=ι (F7.out.apart hg8 (fun k e=>by injection e with e; subst e; exact ⟨HWb.out.1,by intro x hx; simp only [List.mem_cons,List.not_mem_nil,or_false] at hx; rcases hx with rfl|rfl; exact HWb.out.2.1; exact HWb.out.2.2⟩));obtain ⟨v8,hB8,hT8⟩:=hk8;have c81:w8.cell? ⟨wb,1,none⟩=some (.int .i64 (1:Int)):=hB8.cell 1;clear hg8 hB8 hT8 F7 K7 HSv k0_0 k0_1 k0_2;go_wp2_with fail
   go_quiet (fail)
   go_wp2_with fail
   exact HP.out _ 1 _ _ HE.out (below_drewN F8.out.b _) (fun h=>absurd h HC.out) (fun _=>rfl)
  rw [if_neg g3] at hkw;have g2b:(dt==fr)=false:=by rw [beq_eq_false_iff_ne]; exact g2
  have HE:Hid (X=(Trie.put (Trie.put t (Nib.of (Ex.aKey dt)) (Ex.writA (tt.1+amn,tt.2))) (Nib.of (Ex.aKey fr)) (Ex.writA (f1 - amn,f2+1)),0)):=ι (by rw [HD.out,hkw,if_pos rfl]);have HGd:Hid (Trie.count (Trie.put t (Nib.of (Ex.aKey dt)) (Ex.writA (tt.1+amn,tt.2)))<1024∧f1 - amn≤Ex.maxA):=ι (by
   have:=HKx.out.2.2.2.2.1
   rw [hkw] at this;exact ⟨by have:=HCn.out; simp only at *; omega,by have:=HF1.out; omega⟩)
  rw [hkw] at HMv;have hws:IntKind.i64.wrap ((f1:Int) - (amn:Int))=(f1:Int) - (amn:Int):=IntWalk.i64_in _ (by have:=HF1.out; unfold Ex.maxA at this; omega);have HLe:=ι (show amn≤f1 by omega);clear hkw HD HKx HCn g1 g2 g3 a1 a2;go_wp2_with fail
  refine HMv.out.mono ?_;rintro e w6 ⟨rfl,hk6,hg6⟩;have K6:=ι hk6;have F6:=ι (F5.out.apart hg6 (fun k e=>by injection e with e; subst e; exact ⟨HWb.out.1,by intro x hx; simp only [List.mem_cons,List.not_mem_nil,or_false] at hx; rcases hx with rfl|rfl; exact HWb.out.2.1; exact HWb.out.2.2⟩));clear hk6 hg6 F5 K5;have c61:w6.cell? ⟨wb,1,none⟩=some (.int .i64 0):=by obtain ⟨v6,hB6,_⟩:=id K6.out; exact hB6.cell 1
  clear k0_0 k0_1 k0_2 k1_0 k1_1 k1_2 k1_3 k1_4 k1_5 k1_6 k1_7 HMv;have k1_1:=(F6.out.blk 1 rfl).d1;have k1_3:=(F6.out.blk 1 rfl).d3;have k1_4:=(F6.out.blk 1 rfl).d4;have k0_1:=(F6.out.blk 0 rfl).d1;have fz1:=F6.out.frozen 0 1 rfl;go_upto_region 17 with fail
  have F6b:=Live.hs F6 0 1 (.int .i64 ((f1:Int) - (amn:Int))) rfl;have K6b:=ι (K6.out.other (i:=1) (F6.out.blk 0 rfl) (.int .i64 ((f1:Int) - (amn:Int))));simp only [List.set_cons_zero,List.setIfInBounds_toArray,List.set_cons_succ] at F6b;generalize w6.setCell ⟨fb,1,none⟩ _=w6b at F6b K6b ⊢;rw [show (f1:Int) - (amn:Int)=((f1 - amn:Nat):Int) by have:=HLe.out; omega] at F6b;clear k0_1 k1_1 k1_3 k1_4 fz1 F6 K6 c61;have HSv:=ι (fun W (hW:Below w.heap.size w W) (hk:WorkP W wb (Trie.put t (Nib.of (Ex.aKey dt)) (Ex.writA (tt.1+amn,tt.2))) 0) (hcn:Trie.count (Trie.put t (Nib.of (Ex.aKey dt)) (Ex.writA (tt.1+amn,tt.2)))<1024) (hA:(f1 - amn)≤Ex.maxA)=>work_save_ok W wb (Trie.put t (Nib.of (Ex.aKey dt)) (Ex.writA (tt.1+amn,tt.2))) hk hcn (HTb.out.next hW) fr HNm.out (f1 - amn) (f2+1) (by unfold Ex.maxA at hA; omega) (by have:=HF2.out; unfold Ex.maxA at this; omega));obtain ⟨k0_0,k0_1,k0_2⟩:=(F6b.out.blk 0 rfl).c3;have fz2:=F6b.out.frozen 0 2 rfl;go_upto_region 18 with fail
  have F7:=Live.hs F6b 0 2 (.int .i64 ((f2:Int)+1)) rfl;have K7:=ι (K6b.out.other (i:=2) (F6b.out.blk 0 rfl) (.int .i64 ((f2:Int)+1)));simp only [List.set_cons_zero,List.setIfInBounds_toArray,List.set_cons_succ] at F7;generalize w6b.setCell ⟨fb,2,none⟩ _=w7 at F7 K7 ⊢;rw [show (f2:Int)+1=((f2+1:Nat):Int) by omega] at F7;clear k0_0 k0_1 k0_2 fz2 F6b K6b;obtain ⟨k0_0,k0_1,k0_2⟩:=(F7.out.blk 0 rfl).c3;go_wp2_with fail
  refine (HSv.out _ F7.out.b K7.out HGd.out.1 HGd.out.2).mono ?_;rintro e w8 ⟨rfl,hk8,hg8⟩;have F8:=ι (F7.out.apart hg8 (fun k e=>by injection e with e; subst e; exact ⟨HWb.out.1,by intro x hx; simp only [List.mem_cons,List.not_mem_nil,or_false] at hx; rcases hx with rfl|rfl; exact HWb.out.2.1; exact HWb.out.2.2⟩));obtain ⟨v8,hB8,hT8⟩:=hk8;obtain ⟨_,p8,x8,rfl,_⟩:=id hT8;have K8:=ι (And.intro hB8 hT8);have c80:w8.cell? ⟨wb,0,none⟩=some (.pointer (some ⟨p8,0,none⟩)):=hB8.cell 0;have c81:w8.cell? ⟨wb,1,none⟩=some (.int .i64 0):=hB8.cell 1;clear hg8 hB8 hT8 F7 K7 HSv k0_0 k0_1 k0_2;go_wp2_with fail
  exact HP.out _ 0 _ _ HE.out F8.out.b (fun _=>K8.out.2) (fun h=>absurd rfl h)
 ·subst k;clear z1 z2 z3;have hkw:=Ex.kindW_2 (t:=t) (x:=⟨2,fr,sq,dt,am,ky,vl,mm⟩) (f:=(f1,f2)) (tt:=tt) rfl;simp only at hkw;have HE:Hid (X=(Trie.put (Trie.put t (Nib.of (Ex.dKey ky)) vl) (Nib.of (Ex.aKey fr)) (Ex.writA (f1,f2+1)),0)):=ι (by rw [HD.out,hkw,if_pos rfl]);have HGd:Hid (Trie.count (Trie.put t (Nib.of (Ex.dKey ky)) vl)<1024∧f1≤Ex.maxA):=ι (by
   have:=HKx.out.2.2.2.2.1
   rw [hkw] at this;exact ⟨by have:=HCn.out; simp only at *; omega,HF1.out⟩)
  have HPt:=ι (work_put_ok w5 wb t K5.out (by have:=HCn.out; omega) (HTb.out.next F5.out.b) (100::58::ky) vl (Ex.putCode_v (Ex.keyed_d q2) v1 v2));have hsum:2+ky.length≤9223372036854775807:=by omega
  have hsum2:ky.length+2≤9223372036854775807:=by omega
  have hsum3:ky.length+1+1≤9223372036854775807:=by omega
  clear hkw HD HKx v1 v2 q1 q2 HCn;go_wp2_with fail
  refine HPt.out.mono ?_;rintro e w6 ⟨rfl,hk6,hg6⟩;have K6:=ι hk6;have F6:=ι (F5.out.apart hg6 (fun k e=>by injection e with e; subst e; exact ⟨HWb.out.1,by intro x hx; simp only [List.mem_cons,List.not_mem_nil,or_false] at hx; rcases hx with rfl|rfl; exact HWb.out.2.1; exact HWb.out.2.2⟩));clear hk6 hg6 F5 K5;clear k1_0 k1_1 k1_2 k1_3 k1_4 k1_5 k1_6 k1_7 HPt hsum hsum2 hsum3;have HSv:=ι (fun W (hW:Below w.heap.size w W) (hk:WorkP W wb (Trie.put t (Nib.of (100::58::ky)) vl) 0) (hcn:Trie.count (Trie.put t (Nib.of (100::58::ky)) vl)<1024) (hA:f1≤Ex.maxA)=>work_save_ok W wb (Trie.put t (Nib.of (100::58::ky)) vl) hk hcn (HTb.out.next hW) fr HNm.out f1 (f2+1) (by unfold Ex.maxA at hA; omega) (by have:=HF2.out; unfold Ex.maxA at this; omega));exact z_31
 ·subst k;clear z1 z2 z3 z4;have hkw:=Ex.kindW_3 (t:=t) (x:=⟨3,fr,sq,dt,am,ky,vl,mm⟩) (f:=(f1,f2)) (tt:=tt) rfl;simp only at hkw;have HDr:=ι (work_drop_ok w5 wb t K5.out (by have:=HCn.out; omega) (HTb.out.next F5.out.b) ky q2);by_cases g1:(Trie.getW t (Ex.dKey ky)).2=0
  ·rw [if_pos g1] at hkw;have HE:Hid (X=(Trie.put (Trie.del t (Nib.of (Ex.dKey ky))) (Nib.of (Ex.aKey fr)) (Ex.writA (f1,f2+1)),0)):=ι (by rw [HD.out,hkw,if_pos rfl]);have HGd:Hid (Trie.count (Trie.del t (Nib.of (Ex.dKey ky)))<1024∧f1≤Ex.maxA):=ι (by
    have:=HKx.out.2.2.2.2.1
    rw [hkw] at this;exact ⟨by have:=HCn.out; simp only at *; omega,HF1.out⟩)
   rw [g1,if_pos rfl] at HDr;clear hkw HD HKx g1 q1 q2 HCn;go_wp2_with fail
   refine HDr.out.mono ?_;rintro e w6 ⟨rfl,hk6,hg6⟩;have K6:=ι hk6;have F6:=ι (F5.out.apart hg6 (fun k e=>by injection e with e; subst e; exact ⟨HWb.out.1,by intro x hx; simp only [List.mem_cons,List.not_mem_nil,or_false] at hx; rcases hx with rfl|rfl; exact HWb.out.2.1; exact HWb.out.2.2⟩));clear hk6 hg6 F5 K5;clear k1_0 k1_1 k1_2 k1_3 k1_4 k1_5 k1_6 k1_7 HDr;have HSv:=ι (fun W (hW:Below w.heap.size w W) (hk:WorkP W wb (Trie.del t (Nib.of (Ex.dKey ky))) 0) (hcn:Trie.count (Trie.del t (Nib.of (Ex.dKey ky)))<1024) (hA:f1≤Ex.maxA)=>work_save_ok W wb (Trie.del t (Nib.of (Ex.dKey ky))) hk hcn (HTb.out.next hW) fr HNm.out f1 (f2+1) (by unfold Ex.maxA at hA; omega) (by have:=HF2.out; unfold Ex.maxA at this; omega));exact z_31
  ·rw [if_neg g1] at hkw;rw [if_neg g1] at HDr;have HC:=ι g1;have HE:Hid (X=(t,(Trie.getW t (Ex.dKey ky)).2)):=ι (by rw [HD.out,hkw]; exact if_neg g1);generalize (Trie.getW t (Ex.dKey ky)).2=cc at HC HE HDr g1;have hcc:((cc:Int) !=0)=true:=by simp; exact g1
   clear hkw HD HKx g1 q1 q2 HCn;go_wp2_with fail
   refine HDr.out.mono ?_;rintro e w6 ⟨rfl,hk6,hg6⟩;have K6:=ι hk6;have F6:=ι (F5.out.apart hg6 (fun k e=>by injection e with e; subst e; exact ⟨HWb.out.1,by intro x hx; simp only [List.mem_cons,List.not_mem_nil,or_false] at hx; rcases hx with rfl|rfl; exact HWb.out.2.1; exact HWb.out.2.2⟩));clear hk6 hg6 F5 K5;clear k1_0 k1_1 k1_2 k1_3 k1_4 k1_5 k1_6 k1_7 HDr;have HSv:=ι (fun W (hk:WorkP W wb t cc)=>work_save_no W wb t cc hk HC.out fr HNm.out f1 (f2+1) (by have:=HF1.out; unfold Ex.maxA at this; omega) (by have:=HF2.out; unfold Ex.maxA at this; omega));obtain ⟨k0_0,k0_1,k0_2⟩:=(F6.out.blk 0 rfl).c3;have fz2:=F6.out.frozen 0 2 rfl;go_upto_region 18 with fail
   have F7:=Live.hs F6 0 2 (.int .i64 ((f2:Int)+1)) rfl;have K7:=ι (K6.out.other (i:=2) (F6.out.blk 0 rfl) (.int .i64 ((f2:Int)+1)));simp only [List.set_cons_zero,List.setIfInBounds_toArray,List.set_cons_succ] at F7;generalize w6.setCell ⟨fb,2,none⟩ _=w7 at F7 K7 ⊢;rw [show (f2:Int)+1=((f2+1:Nat):Int) by omega] at F7;clear k0_0 k0_1 k0_2 fz2 F6 K6;obtain ⟨k0_0,k0_1,k0_2⟩:=(F7.out.blk 0 rfl).c3;go_wp2_with fail
   refine (HSv.out _ K7.out).mono ?_;rintro e w8 ⟨rfl,hk8,hg8⟩;have F8:=ι (F7.out.apart hg8 (fun k e=>by injection e with e; subst e; exact ⟨HWb.out.1,by intro x hx; simp only [List.mem_cons,List.not_mem_nil,or_false] at hx; rcases hx with rfl|rfl; exact HWb.out.2.1; exact HWb.out.2.2⟩));obtain ⟨v8,hB8,hT8⟩:=hk8;have c81:w8.cell? ⟨wb,1,none⟩=some (.int .i64 (cc:Int)):=hB8.cell 1;clear hg8 hB8 hT8 F7 K7 HSv k0_0 k0_1 k0_2;go_wp2_with fail
   go_quiet (fail)
   go_wp2_with fail
   exact HP.out _ cc _ _ HE.out (below_drewN F8.out.b _) (fun h=>absurd h HC.out) (fun _=>rfl)
 ·subst k;clear z1 z2 z3 z4;have hkw:=Ex.kindW_4 (t:=t) (x:=⟨4,fr,sq,dt,am,ky,vl,mm⟩) (f:=(f1,f2)) (tt:=tt) rfl;simp only at hkw;by_cases g1:fr=Ex.rootB
  ·rw [if_pos g1] at hkw;have HE:Hid (X=(Trie.put (Trie.put t (Nib.of Ex.sKey) (Pw.digM mm)) (Nib.of (Ex.aKey fr)) (Ex.writA (f1,f2+1)),0)):=ι (by rw [HD.out,hkw,if_pos rfl]);have HGd:Hid (Trie.count (Trie.put t (Nib.of [115]) (Pw.digM mm))<1024∧f1≤Ex.maxA):=ι (by
    have:=HKx.out.2.2.2.2.1
    rw [hkw] at this;exact ⟨by have:=HCn.out; simp only [Ex.sKey] at *; omega,HF1.out⟩)
   have HDg:=ι (power_Digest w5 mm HRd.out.1 A c ((HRd.out.2.below F5.out.b).more F5.out.b.size) (HTb.out.next F5.out.b));have HPt:=ι (fun W (hW:WorkP W wb t 0) (hb:Below w.heap.size w W)=>work_put_ok W wb t hW (by have:=HCn.out; omega) (HTb.out.next hb) [115] (Pw.digM mm) (Ex.putCode_v Ex.keyed_s (by rw [Pw.digM_len hm]; omega) (by rw [Pw.digM_len hm]; omega)));have g1b:(fr== [114,111,111,116])=true:=by rw [g1]; rfl
   clear hkw HD HKx g1 hm;generalize Pw.digM mm=dg at *;go_wp2_with fail
   refine HDg.out.mono ?_;rintro e w5b ⟨rfl,hb⟩;have F5b:=Live.hb F5 hb;have K5b:=ι (K5.out.next hb);clear hb F5 K5 k1_0 k1_1 k1_2 k1_3 k1_4 k1_5 k1_6 k1_7 HDg;go_wp2_with fail
   refine (HPt.out _ K5b.out F5b.out.b).mono ?_;rintro e w6 ⟨rfl,hk6,hg6⟩;have K6:=ι hk6;have F6:=ι (F5b.out.apart hg6 (fun k e=>by injection e with e; subst e; exact ⟨HWb.out.1,by intro x hx; simp only [List.mem_cons,List.not_mem_nil,or_false] at hx; rcases hx with rfl|rfl; exact HWb.out.2.1; exact HWb.out.2.2⟩));clear hk6 hg6 F5b K5b;clear HPt;have HSv:=ι (fun W (hW:Below w.heap.size w W) (hk:WorkP W wb (Trie.put t (Nib.of [115]) dg) 0) (hcn:Trie.count (Trie.put t (Nib.of [115]) dg)<1024) (hA:f1≤Ex.maxA)=>work_save_ok W wb (Trie.put t (Nib.of [115]) dg) hk hcn (HTb.out.next hW) fr HNm.out f1 (f2+1) (by unfold Ex.maxA at hA; omega) (by have:=HF2.out; unfold Ex.maxA at this; omega));exact z_31
  ·rw [if_neg g1] at hkw;have HC:Hid (162≠0):=ι (by decide);have HE:Hid (X=(t,162)):=ι (by rw [HD.out,hkw]; rfl);have g1b:(fr== [114,111,111,116])=false:=by rw [beq_eq_false_iff_ne]; exact g1
   obtain ⟨v5,hB5,hT5⟩:=id K5.out;have c51:w5.cell? ⟨wb,1,none⟩=some (.int .i64 0):=hB5.cell 1;have z51:w5.frozen? ⟨wb,1,none⟩=false:=hB5.frozen 1;have hk6:=WorkP.set1 (c':=162) hB5 hT5;have hg6:=grown_cell (World.grownBy.refl w5 (some wb)) 1 (.int .i64 ((162:Nat):Int));rw [show ((162:Nat):Int)=162 from rfl] at hk6 hg6;clear hkw HD HKx g1 hm HCn hB5 hT5;go_upto_region 17 with fail
   generalize w5.setCell ⟨wb,1,none⟩ _=w6 at hk6 hg6 ⊢;have K6:=ι hk6;have F6:=ι (F5.out.apart hg6 (fun k e=>by injection e with e; subst e; exact ⟨HWb.out.1,by intro x hx; simp only [List.mem_cons,List.not_mem_nil,or_false] at hx; rcases hx with rfl|rfl; exact HWb.out.2.1; exact HWb.out.2.2⟩));clear hk6 hg6 F5 K5;clear k1_0 k1_1 k1_2 k1_3 k1_4 k1_5 k1_6 k1_7 c51 z51;have HSv:=ι (fun W (hk:WorkP W wb t 162)=>work_save_no W wb t 162 hk HC.out fr HNm.out f1 (f2+1) (by have:=HF1.out; unfold Ex.maxA at this; omega) (by have:=HF2.out; unfold Ex.maxA at this; omega));obtain ⟨k0_0,k0_1,k0_2⟩:=(F6.out.blk 0 rfl).c3;have fz2:=F6.out.frozen 0 2 rfl;go_upto_region 18 with fail
   have F7:=Live.hs F6 0 2 (.int .i64 ((f2:Int)+1)) rfl;have K7:=ι (K6.out.other (i:=2) (F6.out.blk 0 rfl) (.int .i64 ((f2:Int)+1)));simp only [List.set_cons_zero,List.setIfInBounds_toArray,List.set_cons_succ] at F7;generalize w6.setCell ⟨fb,2,none⟩ _=w7 at F7 K7 ⊢;rw [show (f2:Int)+1=((f2+1:Nat):Int) by omega] at F7;clear k0_0 k0_1 k0_2 fz2 F6 K6;obtain ⟨k0_0,k0_1,k0_2⟩:=(F7.out.blk 0 rfl).c3;go_wp2_with fail
   refine (HSv.out _ K7.out).mono ?_;rintro e w8 ⟨rfl,hk8,hg8⟩;have F8:=ι (F7.out.apart hg8 (fun k e=>by injection e with e; subst e; exact ⟨HWb.out.1,by intro x hx; simp only [List.mem_cons,List.not_mem_nil,or_false] at hx; rcases hx with rfl|rfl; exact HWb.out.2.1; exact HWb.out.2.2⟩));obtain ⟨v8,hB8,hT8⟩:=hk8;have c81:w8.cell? ⟨wb,1,none⟩=some (.int .i64 (162:Int)):=hB8.cell 1;clear hg8 hB8 hT8 F7 K7 HSv k0_0 k0_1 k0_2;go_wp2_with fail
   go_quiet (fail)
   go_wp2_with fail
   exact HP.out _ 162 _ _ HE.out (below_drewN F8.out.b _) (fun h=>absurd h HC.out) (fun _=>rfl)
end
end Go.Proofs.YtnelhjfjkkdoaaaGreatDoor