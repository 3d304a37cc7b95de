import Derived.Test.YtdkiloganbhfkaaGreatDoorJ18
import Derived.Test.YtdkiloganbhfkaaGreatDoorJ17
import Derived.Test.YtdkiloganbhfkaaGreatDoorJ15
set_option linter.unusedSimpArgs false
set_option linter.unusedVariables false
set_option maxHeartbeats 4000000
set_option maxRecDepth 100000
namespace Go.Proofs.YtdkiloganbhfkaaGreatDoor
section
open Go.RowKit Go.Instr
attribute [local go_sem] ba_get ByteArray.mk_append_mk
attribute [local go_sem ↓] Go.wp_at_zero Go.wp_at_succ
theorem ref02_REnd (w:World) (g:Nat) (s:List UInt8 × Nat) (h:RRd w g s):
  Calls Tryz.prog 193 #[.pointer (some ⟨g,0,none⟩)] w (RRdEnd w g (.int .i64 (endS s:Int)) (s.1,endS s)):=by
 obtain ⟨l,c⟩:=s;obtain ⟨hB,hl⟩:=h;simp only at hB hl;have HP:Hid (∀ (n:Nat) w',endS (l,c)=n→RRd w' g (l,n)→w.grownBy w' (some g)→RRdEnd w g (.int .i64 (endS (l,c):Int)) (l,endS (l,c)) (.returned (.int .i64 (n:Int))) w'):=ι (fun n w' e h1 h2=>by rw [e]; exact ⟨rfl,h1,h2⟩);generalize RRdEnd w g (.int .i64 (endS (l,c):Int)) (l,endS (l,c))=P at HP ⊢;have HB:=ι hB;have HL:=ι hl;have c0:w.cell? ⟨g,0,none⟩=some (l:Value):=hB.cell 0;have c1:w.cell? ⟨g,1,none⟩=some (.int .i64 (c:Int)):=hB.cell 1;have f1:w.frozen? ⟨g,1,none⟩=false:=hB.frozen 1;clear hB hl;by_cases hc:c=0
 ·subst hc;by_cases h0:l= []
  ·subst h0;have HE:Hid (endS ([],0)=0):=ι rfl;go_enter Tryz.func193,Tryz.ntmps193
   go_wp2_with fail
   exact HP.out 0 _ HE.out ⟨HB.out,HL.out⟩ (World.grownBy.refl _ _)
  ·have HE:Hid (endS (l,0)=3):=ι (by unfold endS; rw [if_pos ⟨rfl,h0⟩]);have ne1:(l.toArray=#[])=False:=by simp [h0]
   have ne2:l.isEmpty=false:=by cases l<;>simp_all
   clear h0;go_enter Tryz.func193,Tryz.ntmps193
   go_upto_region 3 with fail
   have HB2:Hid (Blk (w.setCell ⟨g,1,none⟩ (.int .i64 3)) g 258 #[l,.int .i64 3]):=ι (Blk.set_ HB.out 1 (.int .i64 3));have HG2:Hid (w.grownBy (w.setCell ⟨g,1,none⟩ (.int .i64 3)) (some g)):=ι (grown_cell (World.grownBy.refl w (some g)) 1 _);generalize w.setCell ⟨g,1,none⟩ _=w1 at HB2 HG2 ⊢;clear c0 c1 f1;have c1:w1.cell? ⟨g,1,none⟩=some (.int .i64 3):=HB2.out.cell 1;go_wp2_with fail
   exact HP.out 3 _ HE.out ⟨HB2.out,HL.out⟩ HG2.out
 ·have hc1:((c:Int)==0)=false:=by rw [beq_eq_false_iff_ne]; omega
  have HE:Hid (endS (l,c)=c):=ι (by unfold endS; rw [if_neg (fun e=>hc e.1)]);clear hc;go_enter Tryz.func193,Tryz.ntmps193
  go_wp2_with fail
  exact HP.out c _ HE.out ⟨HB.out,HL.out⟩ (World.grownBy.refl _ _)
theorem ref16_within (n:Int) (w:World):
  Calls Tryz.prog 100 #[n] w fun e w'=>e= .returned (.bool (decide (0≤n) && decide (n≤1099511627776)))∧w=w':=by
 by_cases h1:0≤n
 ·have HE:Hid ((decide (0≤n) && decide (n≤1099511627776))=decide (n≤1099511627776)):=ι (by rw [decide_eq_true h1]; rfl);have h1':(0≤n)=True:=by simp; exact h1
  go_enter Tryz.func100,Tryz.ntmps100
  go_wp2
  go_ret
  exact ⟨ret_bool HE.out.symm,rfl⟩
 ·have HE:Hid ((decide (0≤n) && decide (n≤1099511627776))=false):=ι (by rw [decide_eq_false h1]; rfl);have h1':(0≤n)=False:=by simp; omega
  clear h1;go_enter Tryz.func100,Tryz.ntmps100
  go_wp2
  go_ret
  exact ⟨ret_bool HE.out.symm,rfl⟩
theorem ref16_Value (w:World) (f:List UInt8) (a q:Nat) (ha:a<9223372036854775808) (hq:q<9223372036854775808):
  Calls Tryz.prog 103 #[.agg #[f,a,q]] w (Ret w (.string ⟨(Ex.writA (a,q)).toArray⟩)):=by
 have HP:Hid (∀ w',Below w.heap.size w w'→Ret w (.string ⟨(Ex.writA (a,q)).toArray⟩) (Ending.returned (.string ⟨(numW a++numW q).toArray⟩)) w'):=ι (fun w' h2=>⟨rfl,h2⟩);generalize Ret w (.string ⟨(Ex.writA (a,q)).toArray⟩)=P at HP ⊢;have HC:Hid (∀ W,Calls Tryz.prog 150 #[a] W (Ret W (.string ⟨(numW a).toArray⟩))):=ι (fun W=>ref02_Number a ha W);have HQ:Hid (∀ W,Calls Tryz.prog 150 #[q] W (Ret W (.string ⟨(numW q).toArray⟩))):=ι (fun W=>ref02_Number q hq W);have l1:=numW_len a (by omega);have l3:=numW_len q (by omega);clear ha hq;generalize numW a=X at *;generalize numW q=Z at *;have n1:(9223372036854775807<X.length+Z.length)=False:=by simp; omega
 have m1:X.length+Z.length≤9223372036854775807:=by omega
 clear l1 l3;go_enter Tryz.func103,Tryz.ntmps103
 go_upto_region 1 with fail
 have F:=Live.ha (ι (Live.start w)) #[f,a,q] 92;generalize World.alloc w _=W1 at F ⊢;generalize w.heap.size=ab at F ⊢;have k0:=(F.out.blk 0 rfl).c3;go_region_held3 (fun w'=>w'.cell? ⟨ab,0,none⟩=some (f:Value)∧w'.cell? ⟨ab,1,none⟩=some (.int .i64 (a:Int))∧w'.cell? ⟨ab,2,none⟩=some (.int .i64 (q:Int))) (first|go_keep|(refine ⟨?_,?_,?_⟩<;>assumption)) (first|(go_at_call 150; ((with_reducible refine (HC.out _).mono ?_); (rintro e w1 ⟨rfl,hb⟩; (first|have F:=Live.hb F hb|have F:=Live.hbd F hb); clear hb; have k0:=(F.out.blk 0 rfl).c3)))|(go_at_call 150; ((with_reducible refine (HQ.out _).mono ?_); (rintro e w1 ⟨rfl,hb⟩; (first|have F:=Live.hb F hb|have F:=Live.hbd F hb); clear hb; have k0:=(F.out.blk 0 rfl).c3))))
 all_goals go_wp2
 all_goals exact HP.out _ F.out.b
theorem at_getW {t:Trie.T} (h:Trie.Good t) {k:List UInt8} (hk:Trie.keyedW k=true):
  ((Trie.atI k (Trie.itemsW t)).2=true→∃ hi:(Trie.atI k (Trie.itemsW t)).1<(Trie.itemsW t).length,Trie.getW t k=((Trie.itemsW t)[(Trie.atI k (Trie.itemsW t)).1].2,0))∧
  ((Trie.atI k (Trie.itemsW t)).2=false→Trie.getW t k=([],5)):=by
 have hr:=Trie.rget_getW h k;unfold Trie.rget at hr;rw [if_pos hk] at hr;refine ⟨fun ht=> ?_,fun ht=> ?_⟩
 ·have hi:=(Trie.atI_le k (Trie.itemsW t)).2 ht;refine ⟨hi,?_⟩;rw [if_pos ht,List.getElem?_eq_getElem hi,Option.getD_some] at hr;exact hr.symm
 ·rw [if_neg (by rw [ht]; decide)] at hr;exact hr.symm
theorem z_7 {P:Prop} (h:P:=by
 have r0:=(F8.out.blk 0 rfl).d0;have r1:=(F8.out.blk 0 rfl).d1;have r2:=(F8.out.blk 0 rfl).d2;have f0:=F8.out.frozen 0 0 rfl;have f1:=F8.out.frozen 0 1 rfl;have f2:=F8.out.frozen 0 2 rfl;go_wp2_with fail
 have F9:Hid (Live w (((w7.setCell ⟨rb,0,none⟩ (.string ⟨#[]⟩)).setCell ⟨rb,1,none⟩ (.int .i64 0)).setCell ⟨rb,2,none⟩ (.int .i64 0)) [(rb,92,#[ε,ζ,ζ])]):=ι (((F8.out.set 0 0 _ rfl).set 0 1 _ rfl).set 0 2 _ rfl);generalize ((w7.setCell ⟨rb,0,none⟩ (.string ⟨#[]⟩)).setCell ⟨rb,1,none⟩ (.int .i64 0)).setCell ⟨rb,2,none⟩ (.int .i64 0)=W9 at F9 ⊢;have s0:=(F9.out.blk 0 rfl).d0;have s1:=(F9.out.blk 0 rfl).d1;have s2:=(F9.out.blk 0 rfl).d2
 (try simp only [Exit.inBlock,Exit.then])
 refine bodyPost_ret (v:= .tuple #[.agg #[ε,ζ,ζ],.int .i64 3]) (by simp [results,Tryz.results182,go_sem,s0,s1,s2]) rfl ?_;exact HP.out [] 0 0 3 _ HE.out F9.out.b):P:=h
theorem ref16_Account (w:World) (t:Trie.T) (hg:Trie.Good t) (A:Option Addr) (c:Nat) (HR:Reads w w.heap.size 2 A (Trie.itemsW t).length (icells (Trie.itemsW t))) (hl:(Trie.itemsW t).length≤2000) (n:List UInt8) (hnl:n.length≤9223372036854775807):
  Calls Tryz.prog 182 #[.slice A (Trie.itemsW t).length c,n] w (AccEnd w (accW t n)):=by
 have HP:Hid (∀ m (a q c:Nat) w',accW t n=((m,a,q),c)→Below w.heap.size w w'→AccEnd w (accW t n) (.returned (.tuple #[.agg #[m,a,q],c])) w'):=ι (fun m a q c w' e h=>by rw [e]; exact ⟨rfl,h⟩);have HX:Hid (accW t n=if Ex.nameW n then (match (if (Trie.getW t (97::58::n)).2=0 then Ex.parseA (Trie.getW t (97::58::n)).1 else some (0,0)) with|some p=>((n,p.1,p.2),0)|none=>(([],0,0),3)) else (([],0,0),1)):=ι rfl;generalize AccEnd w (accW t n)=P at HP ⊢;generalize accW t n=X at *;have HN:=ι (fun W=>ref15_Name n hnl W);have HA:=ι (fun W (hW:Below w.heap.size w W)=>ref10_At W A c (Trie.itemsW t) ((HR.below hW).more hW.size) hl (97::58::n));have hat:=fun (h6:n.length≤6)=>at_getW hg (k:=97::58::n) (Ex.keyed_a h6);have hvl:=getW_len hg (97::58::n);have HRR:=ι HR;generalize Trie.itemsW t=l at *;generalize Trie.getW t (97::58::n)=r at *;unfold AtIEnd at HA;have HL:=ι hl;clear hg hl HR hnl;go_enter Tryz.func182,Tryz.ntmps182
 go_upto_region 1 with fail
 have F0:=Live.ha (ι (Live.start w)) #[ε,ζ,ζ] 92;generalize World.alloc w _=W0 at F0 ⊢;generalize w.heap.size=rb at F0 ⊢;cases hn:Ex.nameW n with
 |false=>
  have HE:Hid (X=(([],0,0),1)):=ι (by rw [HX.out,hn]; rfl);rw [hn] at HN;clear HX hn HA hat hvl;go_wp2_with fail
  refine (HN.out _).mono ?_;rintro e w1 ⟨rfl,rfl⟩;have r0:=(F0.out.blk 0 rfl).d0;have r1:=(F0.out.blk 0 rfl).d1;have r2:=(F0.out.blk 0 rfl).d2;have f0:=F0.out.frozen 0 0 rfl;have f1:=F0.out.frozen 0 1 rfl;have f2:=F0.out.frozen 0 2 rfl;go_wp2_with fail
  have F9:Hid (Live w (((W0.setCell ⟨rb,0,none⟩ (.string ⟨#[]⟩)).setCell ⟨rb,1,none⟩ (.int .i64 0)).setCell ⟨rb,2,none⟩ (.int .i64 0)) [(rb,92,#[ε,ζ,ζ])]):=ι (((F0.out.set 0 0 _ rfl).set 0 1 _ rfl).set 0 2 _ rfl);generalize ((W0.setCell ⟨rb,0,none⟩ (.string ⟨#[]⟩)).setCell ⟨rb,1,none⟩ (.int .i64 0)).setCell ⟨rb,2,none⟩ (.int .i64 0)=W9 at F9 ⊢;have s0:=(F9.out.blk 0 rfl).d0;have s1:=(F9.out.blk 0 rfl).d1;have s2:=(F9.out.blk 0 rfl).d2
  (try simp only [Exit.inBlock,Exit.then])
  refine bodyPost_ret (v:= .tuple #[.agg #[ε,ζ,ζ],.int .i64 1]) (by simp [results,Tryz.results182,go_sem,s0,s1,s2]) rfl ?_;exact HP.out [] 0 0 1 _ HE.out F9.out.b
 |true=>
 rw [hn] at HN HX;rw [if_pos rfl] at HX;have hn6:=(Ex.nameW_len hn).2;have hsum:2+n.length≤9223372036854775807:=by omega
 have hsum2:n.length+2≤9223372036854775807:=by omega
 have hsum3:n.length+1+1≤9223372036854775807:=by omega
 obtain ⟨hat1,hat2⟩:=hat hn6;have HA:=ι (HA.out _ F0.out.b);clear hn hn6 hat;cases hb2:(Trie.atI (97::58::n) l).2 with
 |false=>
  have HE:Hid (X=((n,0,0),0)):=ι (by rw [HX.out,hat2 hb2,if_neg (by decide)]);rw [hb2] at HA;generalize (Trie.atI (97::58::n) l).1=i at *;clear HX hat1 hat2 hvl hb2;go_wp2_with fail
  refine (HN.out _).mono ?_;rintro e w1 ⟨rfl,rfl⟩;go_wp2_with fail
  refine HA.out.mono ?_;rintro e w2 ⟨rfl,hb⟩;have F2:=Live.hb F0 hb;clear hb F0 HN HA;have r0:=(F2.out.blk 0 rfl).d0;have r1:=(F2.out.blk 0 rfl).d1;have r2:=(F2.out.blk 0 rfl).d2;have f0:=F2.out.frozen 0 0 rfl;have f1:=F2.out.frozen 0 1 rfl;have f2:=F2.out.frozen 0 2 rfl;go_wp2_with fail
  have F9:Hid (Live w (((w2.setCell ⟨rb,0,none⟩ (.string ⟨n.toArray⟩)).setCell ⟨rb,1,none⟩ (.int .i64 0)).setCell ⟨rb,2,none⟩ (.int .i64 0)) [(rb,92,#[n,ζ,ζ])]):=ι (((F2.out.set 0 0 _ rfl).set 0 1 _ rfl).set 0 2 _ rfl);generalize ((w2.setCell ⟨rb,0,none⟩ (.string ⟨n.toArray⟩)).setCell ⟨rb,1,none⟩ (.int .i64 0)).setCell ⟨rb,2,none⟩ (.int .i64 0)=W9 at F9 ⊢;have s0:=(F9.out.blk 0 rfl).d0;have s1:=(F9.out.blk 0 rfl).d1;have s2:=(F9.out.blk 0 rfl).d2
  (try simp only [Exit.inBlock,Exit.then])
  refine bodyPost_ret (v:= .tuple #[.agg #[n,ζ,ζ],ζ]) (by simp [results,Tryz.results182,go_sem,s0,s1,s2]) rfl ?_;exact HP.out n 0 0 0 _ HE.out F9.out.b
 |true=>
 obtain ⟨hi,hrv⟩:=hat1 hb2;rw [hb2] at HA;clear hat1 hat2 hb2;generalize (Trie.atI (97::58::n) l).1=i at *;obtain ⟨ad,off,rfl,hbl,hcell⟩:=item_cells HRR.out hi;have hi1:(i:Int)<l.length:=by omega
 have hi0:(0:Int)≤i:=by omega
 rw [hrv] at HX hvl;rw [if_pos rfl] at HX;have HC:=ι hcell;have HV:=ι hvl;clear hcell hvl hrv;generalize l[i]=x at *;obtain ⟨xk,vl⟩:=x;simp only at HX HV HC;go_wp2_with fail
 refine (HN.out _).mono ?_;rintro e w1 ⟨rfl,rfl⟩;go_wp2_with fail
 refine HA.out.mono ?_;rintro e w2 ⟨rfl,hb⟩;have F2:=Live.hb F0 hb;clear hb F0 HN HA;obtain ⟨q0,q1⟩:=HC.out _ F2.out.b;go_upto_region 7 with fail
 obtain ⟨R,hR⟩:∃ R,w2.heap.size=R:=⟨_,rfl⟩
 have D3:Hid (RRd (w2.alloc (.cells #[vl,ζ] 258)) R (vl,0)∧w.heap.size≤R∧rb≠R):=ι (by
  subst hR;exact ⟨⟨Blk.new _ _ _,by have:=HV.out; simp only at this ⊢; omega⟩,F2.out.b.size,fun e=>by have:=F2.out.lt 0 rfl; omega⟩)
 have F3:Hid (Live w (w2.alloc (.cells #[vl,ζ] 258)) [(rb,92,#[ε,ζ,ζ])]):=Live.hb F2 ((Below.refl _ w2).alloc (Nat.le_refl _) _);rw [hR];generalize World.alloc w2 _=W3 at D3 F3 ⊢;clear hR F2 q0 q1;obtain ⟨a,s1,hA⟩:∃ a s1,numS (vl,0)=(a,s1):=⟨_,_,rfl⟩
 obtain ⟨q,s2,hQ⟩:∃ q s2,numS s1=(q,s2):=⟨_,_,rfl⟩
 have HX2:Hid (X=match (if endS s2=0∧a≤Ex.maxA∧q≤Ex.maxA then some (a,q) else none) with|some p=>((n,p.1,p.2),0)|none=>(([],0,0),3)):=ι (by
  rw [HX.out];unfold Ex.parseA;rw [hA];simp only
  rw [hQ])
 have HA:=ι hA;have HQ:=ι hQ;clear hA hQ HX;go_wp2_with fail
 refine (ref02_Num _ R _ D3.out.1).mono ?_;rw [HA.out];rintro e w4 ⟨rfl,hd,hg⟩;have D4:Hid (RRd w4 R s1∧w.heap.size≤R∧rb≠R):=ι ⟨hd,D3.out.2⟩;have F4:=ι (F3.out.apart hg (fun k e=>by injection e with e; subst e; exact ⟨D3.out.2.1,by intro x hx; rw [List.mem_singleton] at hx; subst hx; exact D3.out.2.2⟩));clear hd hg D3 F3 HA;go_wp2_with fail
 refine (ref02_Num _ R _ D4.out.1).mono ?_;rw [HQ.out];rintro e w5 ⟨rfl,hd,hg⟩;have D5:Hid (RRd w5 R s2∧w.heap.size≤R∧rb≠R):=ι ⟨hd,D4.out.2⟩;have F5:=ι (F4.out.apart hg (fun k e=>by injection e with e; subst e; exact ⟨D4.out.2.1,by intro x hx; rw [List.mem_singleton] at hx; subst hx; exact D4.out.2.2⟩));clear hd hg D4 F4 HQ;go_wp2_with fail
 refine (ref02_REnd _ R _ D5.out.1).mono ?_;rintro e w7 ⟨rfl,hd,hg⟩;have F8:=ι (F5.out.apart hg (fun k e=>by injection e with e; subst e; exact ⟨D5.out.2.1,by intro x hx; rw [List.mem_singleton] at hx; subst hx; exact D5.out.2.2⟩));clear hd hg D5 F5;generalize endS s2=ec at *;by_cases he:ec=0;rotate_left
 ·have hc1:((ec:Int) !=0)=true:=by simp; exact he
  have HE:Hid (X=(([],0,0),3)):=ι (by rw [HX2.out,if_neg (fun e=>he e.1)]);clear HX2 he;exact z_7
 subst he;have WA:=ι (ref16_within (a:Int) w7);have WQ:=ι (ref16_within (q:Int) w7);rw [decide_eq_true (show (0:Int)≤(a:Int) by omega),Bool.true_and] at WA;rw [decide_eq_true (show (0:Int)≤(q:Int) by omega),Bool.true_and] at WQ;by_cases ha:a≤Ex.maxA;rotate_left
 ·have HE:Hid (X=(([],0,0),3)):=ι (by rw [HX2.out,if_neg (fun e=>ha e.2.1)]);rw [decide_eq_false (show ¬(a:Int)≤1099511627776 by unfold Ex.maxA at ha; omega)] at WA;clear HX2 ha;go_wp2_with fail
  refine WA.out.mono ?_;rintro e w8 ⟨rfl,rfl⟩;exact z_7
 rw [decide_eq_true (show (a:Int)≤1099511627776 by unfold Ex.maxA at ha; omega)] at WA;by_cases hq:q≤Ex.maxA;rotate_left
 ·have HE:Hid (X=(([],0,0),3)):=ι (by rw [HX2.out,if_neg (fun e=>hq e.2.2)]);rw [decide_eq_false (show ¬(q:Int)≤1099511627776 by unfold Ex.maxA at hq; omega)] at WQ;clear HX2 ha hq;go_wp2_with fail
  refine WA.out.mono ?_;rintro e w8 ⟨rfl,rfl⟩;go_wp2_with fail
  refine WQ.out.mono ?_;rintro e w8 ⟨rfl,rfl⟩;exact z_7
 have HE:Hid (X=((n,a,q),0)):=ι (by rw [HX2.out,if_pos ⟨rfl,ha,hq⟩]);rw [decide_eq_true (show (q:Int)≤1099511627776 by unfold Ex.maxA at hq; omega)] at WQ;clear HX2 ha hq;go_wp2_with fail
 refine WA.out.mono ?_;rintro e w8 ⟨rfl,rfl⟩;go_wp2_with fail
 refine WQ.out.mono ?_;rintro e w8 ⟨rfl,rfl⟩;have r0:=(F8.out.blk 0 rfl).d0;have r1:=(F8.out.blk 0 rfl).d1;have r2:=(F8.out.blk 0 rfl).d2;have f0:=F8.out.frozen 0 0 rfl;have f1:=F8.out.frozen 0 1 rfl;have f2:=F8.out.frozen 0 2 rfl;go_wp2_with fail
 have F9:Hid (Live w (((w7.setCell ⟨rb,0,none⟩ (.string ⟨n.toArray⟩)).setCell ⟨rb,1,none⟩ (.int .i64 (a:Int))).setCell ⟨rb,2,none⟩ (.int .i64 (q:Int))) [(rb,92,#[n,a,q])]):=ι (((F8.out.set 0 0 _ rfl).set 0 1 _ rfl).set 0 2 _ rfl);generalize ((w7.setCell ⟨rb,0,none⟩ (.string ⟨n.toArray⟩)).setCell ⟨rb,1,none⟩ (.int .i64 (a:Int))).setCell ⟨rb,2,none⟩ (.int .i64 (q:Int))=W9 at F9 ⊢;have s0:=(F9.out.blk 0 rfl).d0;have s1:=(F9.out.blk 0 rfl).d1;have s2:=(F9.out.blk 0 rfl).d2
 (try simp only [Exit.inBlock,Exit.then])
 refine bodyPost_ret (v:= .tuple #[.agg #[n,a,q],ζ]) (by simp [results,Tryz.results182,go_sem,s0,s1,s2]) rfl ?_;exact HP.out n a q 0 _ HE.out F9.out.b
theorem live_drew {w W:World} {L:List (Nat × Nat × Array Value)} (h:Hid (Live w W L)):Hid (Live w W.drew L):=ι ⟨⟨h.out.b.os,h.out.b.tape,h.out.b.output,h.out.b.size,h.out.b.block⟩,h.out.l,h.out.d⟩
theorem z_13 {P:Prop} (h:P:=by
 try go_frame
 refine tk 8 14 rfl ?_;try go_frame
 refine rd1 11 rfl (fun K hK=> ?_);go_simp
 refine (HNs.out _).mono ?_;rintro e Wn ⟨rfl,hb⟩;have F:=Live.hb F hb;clear hb;go_simp
 refine hK.out _ _ ⟨F.out.cell 1 0 rfl rfl,F.out.cell 1 1 rfl rfl,F.out.cell 1 2 rfl rfl⟩ (fun hHeld=> ?_);clear hK K;try go_frame
 refine tk 12 18 rfl ?_;try go_frame
 refine tk 13 3 rfl ?_;try go_frame
 refine wpAnyH_done (by kernel_rfl) ?_ _;go_wp2_with fail
 go_meet
 exact ⟨rfl,F.out.drop 1⟩):P:=h
theorem z_12 {P:Prop} (h:P:=by
 refine rd2 4 11 rfl rfl (fun K hK=> ?_) (fun K hK=> ?_)
 ·skip
  have cv:=conv1b (F.out.blk 0 rfl) b0 b1;go_simp
  refine hK.out _ _ ⟨F.out.cell 1 0 rfl rfl,F.out.cell 1 1 rfl rfl,F.out.cell 1 2 rfl rfl⟩ (fun hHeld=> ?_);clear hK K cv;exact z_13
 ·skip
  go_simp
  refine (HNs.out _).mono ?_;rintro e Wn ⟨rfl,hb⟩;have F:=Live.hb F hb;clear hb;go_simp
  refine hK.out _ _ ⟨F.out.cell 1 0 rfl rfl,F.out.cell 1 1 rfl rfl,F.out.cell 1 2 rfl rfl⟩ (fun hHeld=> ?_);clear hK K;try go_frame
  refine rd1 4 rfl (fun K hK=> ?_);have cv:=conv1b (F.out.blk 0 rfl) b0 b1;go_simp
  refine hK.out _ _ ⟨F.out.cell 1 0 rfl rfl,F.out.cell 1 1 rfl rfl,F.out.cell 1 2 rfl rfl⟩ (fun hHeld=> ?_);clear hK K cv;try go_frame
  refine tk 8 14 rfl ?_;try go_frame
  refine tk 12 18 rfl ?_;try go_frame
  refine tk 13 3 rfl ?_;try go_frame
  refine wpAnyH_done (by kernel_rfl) ?_ _;go_wp2_with fail
  go_meet
  exact ⟨rfl,F.out.drop 1⟩):P:=h
theorem ref15_Written (w:World) (kd:Int) (fr:List UInt8) (sq:Int) (dt:List UInt8) (am:Int) (ky vl:List UInt8) (mm:List Pw.Mem) (hx:Ex.fineX ⟨kd,fr,sq,dt,am,ky,vl,mm⟩=true)
  (A:Option Addr) (c:Nat) (HR:Reads w w.heap.size 2 A mm.length (mcells mm)):
  Calls Tryz.prog 152 #[.agg #[kd,fr,sq,dt,am,ky,vl,.slice A mm.length c]] w (Ret w (.string ⟨(Ex.writX ⟨kd,fr,sq,dt,am,ky,vl,mm⟩).toArray⟩)):=by
 have HP:Hid (∀ (s:List UInt8) w',Ex.writX ⟨kd,fr,sq,dt,am,ky,vl,mm⟩=s→Below w.heap.size w w'→Ret w (.string ⟨(Ex.writX ⟨kd,fr,sq,dt,am,ky,vl,mm⟩).toArray⟩) (.returned (s:Value)) w'):=ι (fun s w' e h=>by rw [e]; exact ⟨rfl,h⟩);generalize Ret w (.string ⟨(Ex.writX ⟨kd,fr,sq,dt,am,ky,vl,mm⟩).toArray⟩)=P at HP ⊢;have hsp:=Ex.fineX_spec hx;simp only at hsp;obtain ⟨s1,s2,s3,s4⟩:=hsp;have hfr:=(Ex.nameW_len s1).2;have hkd:1≤kd∧kd≤4:=by rcases s4 with ⟨k,_⟩|⟨k,_⟩|⟨k,_⟩|⟨k,_⟩<;>omega
 have b0:(0:Int)≤kd:=by omega
 have b1:kd<256:=by omega
 have hw8:IntKind.u8.wrap kd=kd:=IntWalk.u8_in _ (by omega);obtain ⟨q,rfl⟩:=Int.eq_ofNat_of_zero_le s2;have HTf:=ι (fun W=>ref02_Text fr (by omega) W);have HNs:=ι (fun W=>ref02_Number q (by omega) W);have HX:Hid (Ex.writX ⟨kd,fr,(q:Int),dt,am,ky,vl,mm⟩=(UInt8.ofNat kd.toNat::(textW fr++numW q))++Ex.bodyX ⟨kd,fr,(q:Int),dt,am,ky,vl,mm⟩):=ι rfl;have HB:Hid (Ex.bodyX ⟨kd,fr,(q:Int),dt,am,ky,vl,mm⟩=if kd=1 then textW dt++numW am.toNat else if kd=2 then textW ky++textW vl else if kd=3 then textW ky else textW (Pw.encM mm)):=ι rfl;have l1:=Ex.text_le hfr (by omega);have l2:=numW_len q (by omega);have HS4:=ι s4;have HRR:=ι HR;generalize Ex.writX ⟨kd,fr,(q:Int),dt,am,ky,vl,mm⟩=X at *;generalize Ex.bodyX ⟨kd,fr,(q:Int),dt,am,ky,vl,mm⟩=Y at *;generalize textW fr=F1 at *;generalize numW q=N2 at *;have m1:1+F1.length≤9223372036854775807:=by omega
 have m2:F1.length+1≤9223372036854775807:=by omega
 have m3:F1.length+1+N2.length≤9223372036854775807:=by omega
 have n1:(9223372036854775807<1+F1.length)=False:=by simp; omega
 have n2:(9223372036854775807<F1.length+1)=False:=by simp; omega
 have n3:(9223372036854775807<F1.length+1+N2.length)=False:=by simp; omega
 have n4:(9223372036854775807<1+F1.length+N2.length)=False:=by simp; omega
 have n5:(9223372036854775807<1+(F1.length+N2.length))=False:=by simp; omega
 have n6:(9223372036854775807<F1.length+(N2.length+1))=False:=by simp; omega
 have n7:(9223372036854775807<F1.length+N2.length+1)=False:=by simp; omega
 have HL1:Hid ((UInt8.ofNat kd.toNat::(F1++N2)).length≤30):=ι (by simp only [List.length_cons,List.length_append]; omega);clear hx HR s1 s3 s4 l1 l2 hfr s2;go_enter Tryz.func152,Tryz.ntmps152
 go_upto_region 1 with fail
 have F:=Live.ha (ι (Live.start w)) #[kd,fr,q,dt,am,ky,vl,.slice A mm.length c] 101;generalize World.alloc w _=W0 at F ⊢;generalize w.heap.size=xb at F ⊢;go_cut [3] (fun s wx=>s= .string ⟨(UInt8.ofNat kd.toNat::(F1++N2)).toArray⟩∧Live w wx [(xb,101,#[kd,fr,q,dt,am,ky,vl,.slice A mm.length c])])
 case first=>
  refine wp_region_held_drew (S:=fun w'=>w'.cell? ⟨xb,0,none⟩=some (.int .i64 kd)∧w'.cell? ⟨xb,1,none⟩=some (fr:Value)∧w'.cell? ⟨xb,2,none⟩=some (.int .i64 (q:Int))) (by kernel_rfl) ⟨F.out.cell 0 0 rfl rfl,F.out.cell 0 1 rfl rfl,F.out.cell 0 2 rfl rfl⟩ (fun hHeld=> ?_);have F:=live_drew F;generalize W0.drew=Wd at F hHeld ⊢;refine tk 0 6 rfl ?_;try go_frame
  refine tk 1 7 rfl ?_;try go_frame
  refine tk 2 8 rfl ?_;try go_frame
  refine tk 5 11 rfl ?_;try go_frame
  refine tk 6 12 rfl ?_;try go_frame
  refine tk 9 15 rfl ?_;try go_frame
  refine tk 10 16 rfl ?_;try go_frame
  refine rd2 3 7 rfl rfl (fun K hK=> ?_) (fun K hK=> ?_)
  ·skip
   go_simp
   have F:=Live.ha F #[.int .u8 kd] 5;refine hK.out _ _ ⟨F.out.cell 1 0 rfl rfl,F.out.cell 1 1 rfl rfl,F.out.cell 1 2 rfl rfl⟩ (fun hHeld=> ?_);clear hK K;try go_frame
   generalize World.alloc _ (.cells #[.int .u8 kd] 5)=Wa at F hHeld ⊢;refine rd2 4 7 rfl rfl (fun K hK=> ?_) (fun K hK=> ?_)
   ·skip
    have cv:=conv1b (F.out.blk 0 rfl) b0 b1;go_simp
    refine hK.out _ _ ⟨F.out.cell 1 0 rfl rfl,F.out.cell 1 1 rfl rfl,F.out.cell 1 2 rfl rfl⟩ (fun hHeld=> ?_);clear hK K cv;try go_frame
    refine rd1 7 rfl (fun K hK=> ?_);go_simp
    refine (HTf.out _).mono ?_;rintro e Wt ⟨rfl,hb⟩;have F:=Live.hb F hb;clear hb;go_simp
    refine hK.out _ _ ⟨F.out.cell 1 0 rfl rfl,F.out.cell 1 1 rfl rfl,F.out.cell 1 2 rfl rfl⟩ (fun hHeld=> ?_);clear hK K;exact z_13
   ·skip
    go_simp
    refine (HTf.out _).mono ?_;rintro e Wt ⟨rfl,hb⟩;have F:=Live.hb F hb;clear hb;go_simp
    refine hK.out _ _ ⟨F.out.cell 1 0 rfl rfl,F.out.cell 1 1 rfl rfl,F.out.cell 1 2 rfl rfl⟩ (fun hHeld=> ?_);clear hK K;try go_frame
    exact z_12
  ·skip
   go_simp
   refine (HTf.out _).mono ?_;rintro e Wt ⟨rfl,hb⟩;have F:=Live.hb F hb;clear hb;go_simp
   refine hK.out _ _ ⟨F.out.cell 0 0 rfl rfl,F.out.cell 0 1 rfl rfl,F.out.cell 0 2 rfl rfl⟩ (fun hHeld=> ?_);clear hK K;try go_frame
   refine rd2 3 11 rfl rfl (fun K hK=> ?_) (fun K hK=> ?_)
   ·skip
    go_simp
    have F:=Live.ha F #[.int .u8 kd] 5;refine hK.out _ _ ⟨F.out.cell 1 0 rfl rfl,F.out.cell 1 1 rfl rfl,F.out.cell 1 2 rfl rfl⟩ (fun hHeld=> ?_);clear hK K;try go_frame
    generalize World.alloc _ (.cells #[.int .u8 kd] 5)=Wa at F hHeld ⊢;exact z_12
   ·skip
    go_simp
    refine (HNs.out _).mono ?_;rintro e Wn ⟨rfl,hb⟩;have F:=Live.hb F hb;clear hb;go_simp
    refine hK.out _ _ ⟨F.out.cell 0 0 rfl rfl,F.out.cell 0 1 rfl rfl,F.out.cell 0 2 rfl rfl⟩ (fun hHeld=> ?_);clear hK K;try go_frame
    refine rd1 3 rfl (fun K hK=> ?_);go_simp
    have F:=Live.ha F #[.int .u8 kd] 5;refine hK.out _ _ ⟨F.out.cell 1 0 rfl rfl,F.out.cell 1 1 rfl rfl,F.out.cell 1 2 rfl rfl⟩ (fun hHeld=> ?_);clear hK K;try go_frame
    generalize World.alloc _ (.cells #[.int .u8 kd] 5)=Wa at F hHeld ⊢;refine rd1 4 rfl (fun K hK=> ?_);have cv:=conv1b (F.out.blk 0 rfl) b0 b1;go_simp
    refine hK.out _ _ ⟨F.out.cell 1 0 rfl rfl,F.out.cell 1 1 rfl rfl,F.out.cell 1 2 rfl rfl⟩ (fun hHeld=> ?_);clear hK K cv;try go_frame
    refine tk 8 14 rfl ?_;try go_frame
    refine tk 12 18 rfl ?_;try go_frame
    refine tk 13 3 rfl ?_;try go_frame
    refine wpAnyH_done (by kernel_rfl) ?_ _;go_wp2_with fail
    go_meet
    exact ⟨rfl,F.out.drop 1⟩
 case rest=>
 obtain ⟨rfl,hF⟩:=hcut;have F1h:=ι hF;clear hF F m1 m2 m3 n1 n2 n3 n4 n5 n6 n7 HTf HNs hkd hw8 b0 b1;generalize UInt8.ofNat kd.toNat::(F1++N2)=S1 at *;have s30:=HL1.out;rcases HS4.out with ⟨rfl,hn,a1,a2,_⟩|⟨rfl,_,_,_,v1,v2,q1,q2⟩|⟨rfl,_,_,_,_,q1,q2⟩|⟨rfl,_,_,_,_,hm⟩
 ·obtain ⟨am,rfl⟩:=Int.eq_ofNat_of_zero_le (show 0≤am by omega);have hd6:=(Ex.nameW_len hn).2;have HT:=ι (fun W=>ref02_Text dt (by omega) W);have HN:=ι (fun W=>ref02_Number am (by omega) W);have HE:Hid (X=S1++(textW dt++numW am)):=ι (by rw [HX.out,HB.out,if_pos rfl]; rfl);have l1:=Ex.text_le hd6 (by omega);have l2:=numW_len am (by omega);clear HS4 HX HB hn a1 a2 hd6;generalize textW dt=T1 at *;generalize numW am=N1 at *;have n1:(9223372036854775807<S1.length+T1.length)=False:=by simp; omega
  have n2:(9223372036854775807<S1.length+T1.length+N1.length)=False:=by simp; omega
  have n3:(9223372036854775807<S1.length+(T1.length+N1.length))=False:=by simp; omega
  obtain ⟨k0_0,k0_1,k0_2,k0_3,k0_4,k0_5,k0_6,k0_7⟩:=(F1h.out.blk 0 rfl).c8;go_upto_region 6 with fail
  go_region_held3 (fun w'=>w'.cell? ⟨xb,3,none⟩=some (dt:Value)∧w'.cell? ⟨xb,4,none⟩=some (.int .i64 (am:Int))) (first|go_keep|(refine ⟨?_,?_⟩<;>assumption)) (first|(go_at_call 154; ((with_reducible refine (HT.out _).mono ?_); (rintro e w2 ⟨rfl,hb⟩; (first|have F1h:=Live.hb F1h hb|have F1h:=Live.hbd F1h hb); clear hb; have k0_3:=(F1h.out.blk 0 rfl).d3; have k0_4:w2.cell? ⟨xb,4,none⟩=some (.int .i64 (am:Int)):=F1h.out.cell 0 4 rfl rfl)))|(go_at_call 150; ((with_reducible refine (HN.out _).mono ?_); (rintro e w3 ⟨rfl,hb⟩; (first|have F1h:=Live.hb F1h hb|have F1h:=Live.hbd F1h hb); clear hb; have k0_3:=(F1h.out.blk 0 rfl).d3; have k0_4:w3.cell? ⟨xb,4,none⟩=some (.int .i64 (am:Int)):=F1h.out.cell 0 4 rfl rfl))))
  all_goals go_wp2_with fail
  all_goals exact HP.out _ _ HE.out F1h.out.b
 ·have HT:=ι (fun W=>ref02_Text ky (by omega) W);have HN:=ι (fun W=>ref02_Text vl (by omega) W);have HE:Hid (X=S1++(textW ky++textW vl)):=ι (by rw [HX.out,HB.out,if_neg (by decide),if_pos rfl]);have l1:=Ex.text_le q2 (by omega);have l2:=Ex.text_le v2 (by omega);clear HS4 HX HB;generalize textW ky=T1 at *;generalize textW vl=N1 at *;have n1:(9223372036854775807<S1.length+T1.length)=False:=by simp; omega
  have n2:(9223372036854775807<S1.length+T1.length+N1.length)=False:=by simp; omega
  have n3:(9223372036854775807<S1.length+(T1.length+N1.length))=False:=by simp; omega
  obtain ⟨k0_0,k0_1,k0_2,k0_3,k0_4,k0_5,k0_6,k0_7⟩:=(F1h.out.blk 0 rfl).c8;go_upto_region 8 with fail
  go_region_held3 (fun w'=>w'.cell? ⟨xb,5,none⟩=some (ky:Value)∧w'.cell? ⟨xb,6,none⟩=some (vl:Value)) (first|go_keep|(refine ⟨?_,?_⟩<;>assumption)) (first|(go_at_call 154; ((first|(with_reducible refine (HT.out _).mono ?_)|(with_reducible refine (HN.out _).mono ?_)); (rintro e w2 ⟨rfl,hb⟩; (first|have F1h:=Live.hb F1h hb|have F1h:=Live.hbd F1h hb); clear hb; have k0_5:=(F1h.out.blk 0 rfl).d5; have k0_6:w2.cell? ⟨xb,6,none⟩=some (vl:Value):=F1h.out.cell 0 6 rfl rfl))))
  all_goals go_wp2_with fail
  all_goals exact HP.out _ _ HE.out F1h.out.b
 ·have HT:=ι (fun W=>ref02_Text ky (by omega) W);have HE:Hid (X=S1++textW ky):=ι (by rw [HX.out,HB.out,if_neg (by decide),if_neg (by decide),if_pos rfl]);have l1:=Ex.text_le q2 (by omega);clear HS4 HX HB;generalize textW ky=T1 at *;have m1:S1.length+T1.length≤9223372036854775807:=by omega
  have n1:(9223372036854775807<S1.length+T1.length)=False:=by simp; omega
  obtain ⟨k0_0,k0_1,k0_2,k0_3,k0_4,k0_5,k0_6,k0_7⟩:=(F1h.out.blk 0 rfl).c8;go_wp2_with fail
  refine (HT.out _).mono ?_;rintro e w2 ⟨rfl,hb⟩;have F2:=Live.hb F1h hb;clear hb;go_wp2_with fail
  exact HP.out _ _ HE.out F2.out.b
 ·have HEn:=ι (fun W (hW:Below w.heap.size w W)=>ref05_Encode W mm (fun x hx=>by have:=(Pw.okM_all hm x hx).1; omega) A c ((HRR.out.below hW).more hW.size));have hl:=Pw.encM_len hm;unfold MEncEnd encMo at HEn;simp only [hm,codeM,if_true] at HEn;have HT:=ι (fun W=>ref02_Text (Pw.encM mm) (by omega) W);have HE:Hid (X=S1++textW (Pw.encM mm)):=ι (by rw [HX.out,HB.out,if_neg (by decide),if_neg (by decide),if_neg (by decide)]);have l1:=Ex.text_le hl (by omega);clear HS4 HX HB hl hm;generalize Pw.encM mm=eb at *;generalize textW eb=T1 at *;have m1:S1.length+T1.length≤9223372036854775807:=by omega
  have n1:(9223372036854775807<S1.length+T1.length)=False:=by simp; omega
  obtain ⟨k0_0,k0_1,k0_2,k0_3,k0_4,k0_5,k0_6,k0_7⟩:=(F1h.out.blk 0 rfl).c8;go_wp2_with fail
  refine (HEn.out _ F1h.out.b).mono ?_;rintro e w2 ⟨rfl,hb⟩;have F2:=Live.hb F1h hb;clear hb;go_wp2_with fail
  refine (HT.out _).mono ?_;rintro e w3 ⟨rfl,hb⟩;have F3:=Live.hb F2 hb;clear hb;go_wp2_with fail
  exact HP.out _ _ HE.out F3.out.b
end
namespace Trie
theorem byte_ne {a b:Nat} (ha:a<256) (hb:b<256) (h:a≠b):Nib.of [UInt8.ofNat a]≠Nib.of [UInt8.ofNat b]:=fun e=>by
 have:=Nib.of_inj e
 injection this with this _
 have:=congrArg UInt8.toNat this
 simp at this
 omega
theorem keyed_one (b:UInt8):keyedW [b]=true:=by simp [keyedW]
theorem treeW_look:∀ (l:List (Int × List UInt8 × Int)) (t:T) (k:Nat),Good t→k+l.length≤256→(treeW t k l).2=0→
  Good (treeW t k l).1∧(∀ x∈l,rcOk x.1 x.2.1 x.2.2)∧(∀ i (hi:i<l.length),look (treeW t k l).1 (Nib.of [UInt8.ofNat (k+i)])=(encW l[i].1 l[i].2.1 l[i].2.2).1)∧
  ∀ r,Nib.fit r=true→(∀ i,i<l.length→r≠Nib.of [UInt8.ofNat (k+i)])→look (treeW t k l).1 r=look t r
 | [],t,k,hg,_,_=>⟨hg,(fun x hx=>by cases hx),(fun i hi=>absurd hi (Nat.not_lt_zero i)),fun r _ _=>rfl⟩
 |x::l,t,k,hg,hk,h=>by
  rw [List.length_cons] at hk;rw [treeW] at h ⊢;by_cases hx:rcOk x.1 x.2.1 x.2.2;rotate_left
  ·rw [if_neg hx] at h; cases h
  rw [if_pos hx] at h ⊢;have hen:=encW_len hx;have hg1:=hg.put (keyed_one (UInt8.ofNat k)) hen.1 hen.2;have hps:=(put_spec t (Nib.of [UInt8.ofNat k]) (encW x.1 x.2.1 x.2.2).1 hg.wf (Nib.fit_of _) hen.1).2.1;obtain ⟨a1,a2,a3,a4⟩:=treeW_look l (put t (Nib.of [UInt8.ofNat k]) (encW x.1 x.2.1 x.2.2).1) (k+1) hg1 (by omega) h;refine ⟨a1,fun y hy=> ?_,fun i hi=> ?_,fun r hr hne=> ?_⟩
  ·rcases List.mem_cons.1 hy with rfl|hy
   ·exact hx
   ·exact a2 y hy
  ·cases i with
   |zero=>
    rw [Nat.add_zero,a4 _ (Nib.fit_of _) (fun i hi=>byte_ne (by omega) (by omega) (by omega)),hps _ (Nib.fit_of _),Nat.add_zero,if_pos rfl];rfl
   |succ i=>
    have:=a3 i (by simpa using hi)
    rw [show k+1+i=k+(i+1) by omega] at this;rw [this];rfl
  ·rw [a4 r hr (fun i hi=>by
    have:=hne (i+1) (by rw [List.length_cons]; omega)
    rwa [show k+(i+1)=k+1+i by omega] at this),hps r hr,if_neg]
   have:=hne 0 (by rw [List.length_cons]; omega)
   rwa [Nat.add_zero] at this
theorem treeF_look {l:List (Int × List UInt8 × Int)} (h:(treeF l).2=0):l.length≤8∧Good (treeF l).1∧(∀ x∈l,rcOk x.1 x.2.1 x.2.2)∧(∀ i (hi:i<l.length),look (treeF l).1 (Nib.of [UInt8.ofNat i])=(encW l[i].1 l[i].2.1 l[i].2.2).1)∧
  ∀ r,Nib.fit r=true→(∀ i,i<l.length→r≠Nib.of [UInt8.ofNat i])→look (treeF l).1 r= []:=by
 unfold treeF at h ⊢
 split at h
 ·cases h
 ·rename_i hl;rw [if_neg hl]
  have:=treeW_look l .nil 0 Good.nil (by omega) h
  simp only [Nat.zero_add] at this;exact ⟨by omega,this⟩
theorem treeF_good (l:List (Int × List UInt8 × Int)):Good (treeF l).1:=by
 by_cases h:(treeF l).2=0
 ·exact (treeF_look h).2.1
 ·have:∀ (l:List (Int × List UInt8 × Int)) t k,(treeW t k l).2≠0→(treeW t k l).1= .nil:=by
   intro l
   induction l with
   |nil=>intro t k h; exact absurd rfl h
   |cons x l ih=>
    intro t k h;rw [treeW] at h ⊢
    split
    ·rename_i hx;rw [if_pos hx] at h;exact ih _ _ h
    ·rfl
  have e:(treeF l).1= .nil:=by
   unfold treeF at h ⊢
   split
   ·rfl
   ·rename_i hl;rw [if_neg hl] at h;exact this _ _ _ h
  rw [e];exact Good.nil
end Trie
namespace Trie
def rcItems:Nat→List (Int × List UInt8 × Int)→List KV
 |_,[]=> []
 |k,x::l=>([UInt8.ofNat k],(encW x.1 x.2.1 x.2.2).1)::rcItems (k+1) l
theorem rcItems_mem:∀ (l:List (Int × List UInt8 × Int)) (k:Nat) (x:KV),x∈rcItems k l↔∃ i,∃ h:i<l.length,x=([UInt8.ofNat (k+i)],(encW l[i].1 l[i].2.1 l[i].2.2).1)
 | [],k,x=>by simp [rcItems]
 |y::l,k,x=>by
  rw [rcItems,List.mem_cons,rcItems_mem l (k+1) x]
  constructor
  ·rintro (h|⟨i,hi,h⟩)
   ·exact ⟨0,by simp,by simpa using h⟩
   ·refine ⟨i+1,by simpa using hi,?_⟩;rw [h];simp only [List.getElem_cons_succ];rw [show k+1+i=k+(i+1) by omega]
  ·rintro ⟨i,hi,h⟩;cases i with
   |zero=>left; simpa using h
   |succ i=>
    right
    refine ⟨i,by simpa using hi,?_⟩;rw [h];simp only [List.getElem_cons_succ];rw [show k+(i+1)=k+1+i by omega]
theorem rcItems_len:∀ (l:List (Int × List UInt8 × Int)) (k:Nat),(rcItems k l).length=l.length
 | [],_=>rfl
 |x::l,k=>by rw [rcItems,List.length_cons,List.length_cons,rcItems_len l]
theorem less_one {a b:Nat} (hb:b<256) (h:a<b):Op.bytesLess [UInt8.ofNat a] [UInt8.ofNat b]=true:=by
 have h1:(UInt8.ofNat a)<(UInt8.ofNat b):=by
  rw [UInt8.lt_iff_toNat_lt];simp
  omega
 simp [Op.bytesLess,h1]
theorem rcItems_rises:∀ (l:List (Int × List UInt8 × Int)) (k:Nat),k+l.length≤256→rises (rcItems k l)
 | [],_,_=>List.Pairwise.nil
 |x::l,k,h=>by
  rw [List.length_cons] at h;rw [rcItems];refine List.Pairwise.cons (fun y hy=> ?_) (rcItems_rises l (k+1) (by omega));obtain ⟨i,hi,rfl⟩:=(rcItems_mem l (k+1) y).1 hy;exact less_one (by omega) (by omega)
theorem itemsF_eq {l:List (Int × List UInt8 × Int)} (h:(treeF l).2=0):itemsW (treeF l).1=rcItems 0 l:=by
 obtain ⟨h8,hg,hok,hat,hno⟩:=treeF_look h;refine rises_ext _ _ (rises_itemsW hg) (rcItems_rises l 0 (by omega)) fun x=> ?_;obtain ⟨k,v⟩:=x;rw [mem_itemsW hg,rcItems_mem];simp only [Nat.zero_add]
 constructor
 ·rintro ⟨h1,h2⟩
  have:∃ i,i<l.length∧Nib.of k=Nib.of [UInt8.ofNat i]:=Classical.byContradiction fun hc=>h2 (by
   rw [←h1];exact hno _ (Nib.fit_of k) (fun i hi e=>hc ⟨i,hi,e⟩))
  obtain ⟨i,hi,e⟩:=this;refine ⟨i,hi,?_⟩;rw [←h1,e,hat i hi,Nib.of_inj e]
 ·rintro ⟨i,hi,e⟩;injection e with e1 e2
  subst e1;subst e2;exact ⟨hat i hi,(encW_len (hok _ (List.getElem_mem hi))).1⟩
def itemsF (l:List (Int × List UInt8 × Int)):List KV × Nat:=if (treeF l).2=0 then (rcItems 0 l,0) else ([],(treeF l).2)
theorem treeW_bad:∀ (l:List (Int × List UInt8 × Int)) (t:T) (k:Nat),(treeW t k l).2=if ∀ x∈l,rcOk x.1 x.2.1 x.2.2 then 0 else 3
 | [],t,k=>by simp [treeW]
 |x::l,t,k=>by
  rw [treeW];by_cases hx:rcOk x.1 x.2.1 x.2.2
  ·rw [if_pos hx,treeW_bad l];by_cases hl:∀ y∈l,rcOk y.1 y.2.1 y.2.2
   ·rw [if_pos hl,if_pos (fun y hy=>by rcases List.mem_cons.1 hy with rfl|hy; exact hx; exact hl y hy)]
   ·rw [if_neg hl,if_neg (fun h=>hl fun y hy=>h y (List.mem_cons_of_mem _ hy))]
  ·rw [if_neg hx,if_neg (fun h=>hx (h x (List.mem_cons_self ..)))]
end Trie
namespace Ex
open Pw Trie
def wA:List Ac:= [([97],9,0)]
def wM:List Mem:= [([118],1)]
def wX:Tx:=⟨1,[97],0,[98],5,[],[],[]⟩
theorem wM_ok:okM wM=true:=by decide+kernel
theorem wX_fine:fineX wX=true:=by decide+kernel
theorem works_plain:∃ t u,genW wA wM=(t,0)∧doW t wX=(u,0)∧doW u wX=(u,160)∧acc u [97]=some (4,1)∧acc u [98]=some (5,0):=by
 have hg0:genW wA wM=(put (put .nil (Nib.of (aKey [97])) (writA (9,0))) (Nib.of sKey) (digM wM),0):=by
  have h1:genA .nil wA=(put .nil (Nib.of (aKey [97])) (writA (9,0)),0):=by
   unfold wA;rw [genA,if_neg (by decide+kernel),if_neg (by decide+kernel),genA];rfl
  unfold genW;rw [if_neg (by decide),h1,if_neg (by simp),wM_ok,if_neg (by simp)]
 have hl:=digM_len wM_ok;have g1:Trie.Good (put .nil (Nib.of (aKey [97])) (writA (9,0))):=good_putA Trie.Good.nil (n:= [97]) (by simp) (p:=(9,0)) (by simp) (by simp);have hA:∀ m,acc (put .nil (Nib.of (aKey [97])) (writA (9,0))) m=if m= [97] then some (9,0) else acc .nil m:=fun m=>acc_putA Trie.Good.nil (by simp) (p:=(9,0)) (by unfold maxA; simp) (by unfold maxA; simp) m;have hB:∀ m,acc (put (put .nil (Nib.of (aKey [97])) (writA (9,0))) (Nib.of sKey) (digM wM)) m=if m= [97] then some (9,0) else acc .nil m:=fun m=>by
  rw [acc_put g1 keyed_s (ne_nil_of (by omega)) m (aKey_sKey m),hA]
 have hg:Trie.Good (put (put .nil (Nib.of (aKey [97])) (writA (9,0))) (Nib.of sKey) (digM wM)):=Trie.Good.put g1 keyed_s (ne_nil_of (by omega)) (by omega);generalize put (put .nil (Nib.of (aKey [97])) (writA (9,0))) (Nib.of sKey) (digM wM)=t at *;have h97:acc t [97]=some (9,0):=by rw [hB,if_pos rfl]
 have h98:acc t [98]=some (0,0):=by rw [hB,if_neg (by decide)]; rfl
 have hk:kindW t wX (9,0) (0,0)=(put t (Nib.of (aKey [98])) (writA (5,0)),0,4):=by
  rw [kindW_1 (by rfl),if_neg (by decide),if_neg (by decide),if_neg (by decide)];rfl
 have hd:doW t wX=(put (put t (Nib.of (aKey [98])) (writA (5,0))) (Nib.of (aKey [97])) (writA (4,1)),0):=by
  have e1:acc t wX.frm=some (9,0):=h97;have e2:accTo t wX=some (0,0):=by unfold accTo; rw [if_pos (by rfl)]; exact h98
  unfold doW;rw [if_neg (by rw [wX_fine]; decide),e1,e2];simp only
  rw [if_neg (by decide),hk,if_pos rfl];rfl
 have hd2:(doW t wX).2=0:=by rw [hd]
 obtain ⟨hx,⟨dn⟩⟩:=doW_done hd2;have e1:dn.f=(9,0):=by
  have:=dn.hf
  rw [show wX.frm= [97] from rfl,h97] at this;exact (Option.some.inj this).symm
 have e2:dn.tt=(0,0):=by
  have:=dn.ht
  unfold accTo at this;rw [if_pos (show wX.kind=1 from rfl),show wX.dst= [98] from rfl,h98] at this;exact (Option.some.inj this).symm
 have a1:=do_accF dn hg hx;have a2:=do_accT dn hg hx rfl (by decide);have a3:=do_once hg hd2;rw [e1,e2,hk] at a1;rw [e2] at a2;refine ⟨t,(doW t wX).1,hg0,?_,a3,a1,a2⟩;rw [hd]
end Ex
section
open Go.RowKit Go.Instr
attribute [local go_sem] ba_get ByteArray.mk_append_mk
attribute [local go_sem ↓] Go.wp_at_zero Go.wp_at_succ
def okBig (p:TxM):Prop:=p.1.frm.length≤100∧p.1.dst.length≤100∧p.1.key.length≤100∧p.1.val.length≤100∧p.1.mem.length≤100
theorem take_all {α:Type} {Q:α→Prop} {l:List α} {i:Nat} (hi:i<l.length) (h:∀ x∈l.take i,Q x) (hx:Q l[i]):∀ x∈l.take (i+1),Q x:=fun x hm=>by
 rw [List.take_succ_eq_append_getElem hi] at hm;rcases List.mem_append.1 hm with hm|hm
 ·exact h x hm
 ·rw [List.mem_singleton] at hm; subst hm; exact hx
theorem book_Below16 (x:Int) (n:Nat) (w:World) (hn:1≤n) (hn2:n≤1048576):
  Calls Tryz.prog 10 #[x,n] w fun e w'=>∃ k:Nat,k<n∧e= .returned (.int .i64 k)∧w=w':=by
 have hb1:x.tmod n<n:=Int.tmod_lt_of_pos x (by omega);have hb2: -(n:Int)<x.tmod n:=by
  have:=Int.tmod_lt_of_pos (-x) (show (0:Int)<n by omega)
  rw [Int.neg_tmod] at this;omega
 have q2:wrap64 (x.tmod n+n)=x.tmod n+n:=IntWalk.wrap64_in _ (by omega);obtain ⟨k,hk,hkeq⟩:∃ k:Nat,k<n∧(wrap64 (x.tmod n+n)).tmod n=(k:Int):=by
  rw [q2];have b1:=Int.tmod_lt_of_pos (x.tmod n+n) (show (0:Int)<n by omega);have b2:=Int.tmod_nonneg (n:Int) (show 0≤x.tmod n+n by omega);exact ⟨((x.tmod n+n).tmod n).toNat,by omega,by omega⟩
 have HK:=ι hkeq;have hq:((n:Int)==0)=false:=by rw [beq_eq_false_iff_ne]; omega
 clear hkeq q2 hb1 hb2;go_enter Tryz.func10,Tryz.ntmps10
 go_wp2
 go_ret
 exact ⟨k,hk,ret_int HK.out,rfl⟩
end
end Go.Proofs.YtdkiloganbhfkaaGreatDoor