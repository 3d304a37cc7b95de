import Derived.Test.YtnelhjfjkkdoaaaGreatDoorJ20
set_option linter.unusedSimpArgs false
set_option linter.unusedVariables false
set_option maxHeartbeats 4000000
set_option maxRecDepth 100000
namespace Go.Proofs.YtnelhjfjkkdoaaaGreatDoor
section
open Go.RowKit Go.Instr
attribute [local go_sem] ba_get ByteArray.mk_append_mk
attribute [local go_sem ↓] Go.wp_at_zero Go.wp_at_succ
theorem Rdr.lower {w w':World} {B g:Nat} {s:List UInt8 × Nat} (h:Rdr w g s) (hb:Below B w w') (hg:g<B):Rdr w' g s:=by
 obtain ⟨all,a,h1,h2⟩:=h;exact ⟨all,a,Blk.below h1 hb hg,h2⟩
def accW (t:Trie.T) (n:List UInt8):(List UInt8 × Nat × Nat) × Nat:=
 if Ex.nameW n then (match Ex.acc t n with|some p=>((n,p.1,p.2),0)|none=>(([],0,0),3)) else (([],0,0),1)
def AccEnd (w:World) (r:(List UInt8 × Nat × Nat) × Nat) (e:Ending) (w':World):Prop:=
 e= .returned (.tuple #[.agg #[r.1.1,r.1.2.1,r.1.2.2],r.2])∧Below w.heap.size w w'
theorem look_len {t:Trie.T} (h:Trie.Good t) (k:List UInt8):(Trie.look t (Nib.of k)).length≤32:=by
 by_cases e:Trie.look t (Nib.of k)= []
 ·rw [e]; simp
 ·exact (h.small _ (Nib.fit_of k) e).2
theorem getW_len {t:Trie.T} (h:Trie.Good t) (k:List UInt8):(Trie.getW t k).1.length≤32:=by
 unfold Trie.getW
 split
 ·split
  ·simp
  ·exact look_len h k
 ·simp
theorem z_22 {P:Prop} (h:P:=by
 have r0:=(F8.out.blk 0 rfl).d0;have r1:=(F8.out.blk 0 rfl).d1;have r2:=(F8.out.blk 0 rfl).d2;have f0:=F8.out.frozen 0 0 rfl;have f1:=F8.out.frozen 0 1 rfl;have f2:=F8.out.frozen 0 2 rfl;go_wp2_with fail
 have F9:Hid (Live w (((w7.setCell ⟨rb,0,none⟩ (.string ⟨#[]⟩)).setCell ⟨rb,1,none⟩ (.int .i64 0)).setCell ⟨rb,2,none⟩ (.int .i64 0)) [(rb,62,#[ε,ζ,ζ])]):=ι (((F8.out.set 0 0 _ rfl).set 0 1 _ rfl).set 0 2 _ rfl);generalize ((w7.setCell ⟨rb,0,none⟩ (.string ⟨#[]⟩)).setCell ⟨rb,1,none⟩ (.int .i64 0)).setCell ⟨rb,2,none⟩ (.int .i64 0)=W9 at F9 ⊢;have s0:=(F9.out.blk 0 rfl).d0;have s1:=(F9.out.blk 0 rfl).d1;have s2:=(F9.out.blk 0 rfl).d2
 (try simp only [Exit.inBlock,Exit.then])
 refine bodyPost_ret (v:= .tuple #[.agg #[ε,ζ,ζ],.int .i64 3]) (by simp [results,Tryz.results33,go_sem,s0,s1,s2]) rfl ?_;exact HP.out [] 0 0 3 _ HE.out F9.out.b):P:=h
theorem exec_Account (w:World) (t:Trie.T) (v:Value) (h:TrieP w t v) (n:List UInt8) (hl:n.length≤9223372036854775807):
  Calls Tryz.prog 33 #[v,.string ⟨n.toArray⟩] w (AccEnd w (accW t n)):=by
 have HP:Hid (∀ m (a q c:Nat) w',accW t n=((m,a,q),c)→Below w.heap.size w w'→AccEnd w (accW t n) (.returned (.tuple #[.agg #[m,a,q],c])) w'):=ι (fun m a q c w' e h=>by rw [e]; exact ⟨rfl,h⟩);have HX:Hid (accW t n=if Ex.nameW n then (match (if (Trie.getW t (97::58::n)).2=0 then Ex.parseA (Trie.getW t (97::58::n)).1 else some (0,0)) with|some p=>((n,p.1,p.2),0)|none=>(([],0,0),3)) else (([],0,0),1)):=ι rfl;generalize AccEnd w (accW t n)=P at HP ⊢;generalize accW t n=X at *;have HN:=ι (fun W=>exec_name n (by omega) W);have HGt:=ι (fun W (h6:n.length≤6) (hW:Below w.heap.size w W)=>trie_Get W t v (h.next hW) (97::58::n) (by simp only [List.length_cons]; omega));have hvl:=getW_len h.1 (97::58::n);generalize Trie.getW t (97::58::n)=r at *;obtain ⟨vl,cd⟩:=r;simp only at HX hvl;unfold TGetEnd at HGt;simp only at HGt;clear h hl;go_enter Tryz.func33,Tryz.ntmps33
 go_upto_region 1 with fail
 have F0:=Live.ha (ι (Live.start w)) #[ε,ζ,ζ] 62;generalize World.alloc w _=W0 at F0 ⊢;generalize w.heap.size=rb at F0 ⊢;cases hn:Ex.nameW n with
 |false=>
  have HE:Hid (X=(([],0,0),1)):=ι (by rw [HX.out,hn]; rfl);rw [hn] at HN;clear HX hn;go_wp2_with fail
  refine (HN.out _).mono ?_;rintro e w1 ⟨rfl,rfl⟩;have r0:=(F0.out.blk 0 rfl).d0;have r1:=(F0.out.blk 0 rfl).d1;have r2:=(F0.out.blk 0 rfl).d2;have f0:=F0.out.frozen 0 0 rfl;have f1:=F0.out.frozen 0 1 rfl;have f2:=F0.out.frozen 0 2 rfl;go_wp2_with fail
  have F9:Hid (Live w (((W0.setCell ⟨rb,0,none⟩ (.string ⟨#[]⟩)).setCell ⟨rb,1,none⟩ (.int .i64 0)).setCell ⟨rb,2,none⟩ (.int .i64 0)) [(rb,62,#[ε,ζ,ζ])]):=ι (((F0.out.set 0 0 _ rfl).set 0 1 _ rfl).set 0 2 _ rfl);generalize ((W0.setCell ⟨rb,0,none⟩ (.string ⟨#[]⟩)).setCell ⟨rb,1,none⟩ (.int .i64 0)).setCell ⟨rb,2,none⟩ (.int .i64 0)=W9 at F9 ⊢;have s0:=(F9.out.blk 0 rfl).d0;have s1:=(F9.out.blk 0 rfl).d1;have s2:=(F9.out.blk 0 rfl).d2
  (try simp only [Exit.inBlock,Exit.then])
  refine bodyPost_ret (v:= .tuple #[.agg #[ε,ζ,ζ],.int .i64 1]) (by simp [results,Tryz.results33,go_sem,s0,s1,s2]) rfl ?_;exact HP.out [] 0 0 1 _ HE.out F9.out.b
 |true=>
 rw [hn] at HN HX;rw [if_pos rfl] at HX;have hn6:=(Ex.nameW_len hn).2;have HN6:=ι hn6;have hsum:2+n.length≤9223372036854775807:=by omega
 have hsum2:n.length+2≤9223372036854775807:=by omega
 have hsum3:n.length+1+1≤9223372036854775807:=by omega
 clear hn hn6;go_wp2_with fail
 refine (HN.out _).mono ?_;rintro e w1 ⟨rfl,rfl⟩;go_wp2_with fail
 refine (HGt.out _ HN6.out F0.out.b).mono ?_;rintro e w2 ⟨rfl,hb⟩;have F2:=Live.hb F0 hb;clear hb F0 HN HGt;by_cases hc:cd=0;rotate_left
 ·have hc1:((cd:Int) !=0)=true:=by simp; exact hc
  have HE:Hid (X=((n,0,0),0)):=ι (by rw [HX.out,if_neg hc]);clear HX hc;have r0:=(F2.out.blk 0 rfl).d0;have r1:=(F2.out.blk 0 rfl).d1;have r2:=(F2.out.blk 0 rfl).d2;have f0:=F2.out.frozen 0 0 rfl;have f1:=F2.out.frozen 0 1 rfl;have f2:=F2.out.frozen 0 2 rfl;go_wp2_with fail
  have F9:Hid (Live w (((w2.setCell ⟨rb,0,none⟩ (.string ⟨n.toArray⟩)).setCell ⟨rb,1,none⟩ (.int .i64 0)).setCell ⟨rb,2,none⟩ (.int .i64 0)) [(rb,62,#[n,ζ,ζ])]):=ι (((F2.out.set 0 0 _ rfl).set 0 1 _ rfl).set 0 2 _ rfl);generalize ((w2.setCell ⟨rb,0,none⟩ (.string ⟨n.toArray⟩)).setCell ⟨rb,1,none⟩ (.int .i64 0)).setCell ⟨rb,2,none⟩ (.int .i64 0)=W9 at F9 ⊢;have s0:=(F9.out.blk 0 rfl).d0;have s1:=(F9.out.blk 0 rfl).d1;have s2:=(F9.out.blk 0 rfl).d2
  (try simp only [Exit.inBlock,Exit.then])
  refine bodyPost_ret (v:= .tuple #[.agg #[n,ζ,ζ],ζ]) (by simp [results,Tryz.results33,go_sem,s0,s1,s2]) rfl ?_;exact HP.out n 0 0 0 _ HE.out F9.out.b
 subst hc;rw [if_pos rfl] at HX;have HV:=ι hvl;clear hvl;go_wp2_with fail
 refine (code_Read vl _).mono ?_;rintro e w3 ⟨rfl,rfl⟩;obtain ⟨R,hR⟩:∃ R,w2.heap.size=R:=⟨_,rfl⟩
 have D3:Hid (Rdr (w2.alloc (.cells #[vl,ζ,ζ] 200)) R (vl,0)∧w.heap.size≤R∧rb≠R):=ι (by
  subst hR;exact ⟨⟨vl,0,Blk.new _ _ _,Nat.zero_le _,by have:=HV.out; omega,rfl⟩,F2.out.b.size,fun e=>by have:=F2.out.lt 0 rfl; omega⟩)
 have F3:Hid (Live w (w2.alloc (.cells #[vl,ζ,ζ] 200)) [(rb,62,#[ε,ζ,ζ])]):=Live.hb F2 ((Below.refl _ w2).alloc (Nat.le_refl _) _);rw [hR];generalize World.alloc w2 _=W3 at D3 F3 ⊢;clear hR F2;obtain ⟨a,s1,hA⟩:∃ a s1,numS (vl,0)=(a,s1):=⟨_,_,rfl⟩
 obtain ⟨q,s2,hQ⟩:∃ q s2,numS s1=(q,s2):=⟨_,_,rfl⟩
 have HX2:Hid (X=match (if endS s2=0∧a≤Ex.maxA∧q≤Ex.maxA then some (a,q) else none) with|some p=>((n,p.1,p.2),0)|none=>(([],0,0),3)):=ι (by
  rw [HX.out];unfold Ex.parseA;rw [hA];simp only
  rw [hQ])
 have HA:=ι hA;have HQ:=ι hQ;clear hA hQ HX;go_upto_region 7 with fail
 go_wp2_with fail
 refine (code_RNum _ R _ D3.out.1).mono ?_;rw [HA.out];rintro e w4 ⟨rfl,hd,hg⟩;have D4:Hid (Rdr w4 R s1∧w.heap.size≤R∧rb≠R):=ι ⟨hd,D3.out.2⟩;have F4:=ι (F3.out.apart hg (fun k e=>by injection e with e; subst e; exact ⟨D3.out.2.1,by intro x hx; rw [List.mem_singleton] at hx; subst hx; exact D3.out.2.2⟩));clear hd hg D3 F3 HA;go_wp2_with fail
 refine (code_RNum _ R _ D4.out.1).mono ?_;rw [HQ.out];rintro e w5 ⟨rfl,hd,hg⟩;have D5:Hid (Rdr w5 R s2∧w.heap.size≤R∧rb≠R):=ι ⟨hd,D4.out.2⟩;have F5:=ι (F4.out.apart hg (fun k e=>by injection e with e; subst e; exact ⟨D4.out.2.1,by intro x hx; rw [List.mem_singleton] at hx; subst hx; exact D4.out.2.2⟩));clear hd hg D4 F4 HQ;go_upto_region 8 with fail
 obtain ⟨ab,hab⟩:∃ ab,w5.heap.size=ab:=⟨_,rfl⟩
 have D6:Hid (Rdr (w5.alloc (.cells #[n,a,q] 62)) R s2∧w.heap.size≤R∧rb≠R∧ab≠R):=ι (by
  subst hab;exact ⟨D5.out.1.lower ((Below.refl _ w5).alloc (Nat.le_refl _) _) D5.out.1.lt,D5.out.2.1,D5.out.2.2,fun e=>by have:=D5.out.1.lt; omega⟩)
 have F6:=Live.ha F5 #[n,a,q] 62;rw [hab] at F6 ⊢;generalize World.alloc w5 _=W6 at D6 F6 ⊢;clear hab D5 F5;go_wp2_with fail
 refine (code_REnd _ R _ D6.out.1).mono ?_;rintro e w7 ⟨rfl,hd,hg⟩;have F7:=ι (F6.out.apart hg (fun k e=>by injection e with e; subst e; exact ⟨D6.out.2.1,by intro x hx; simp only [List.mem_cons,List.not_mem_nil,or_false] at hx; rcases hx with rfl|rfl; exact D6.out.2.2.2; exact D6.out.2.2.1⟩));have F8:=ι (F7.out.drop 1);simp only [List.drop_succ_cons,List.drop_zero] at F8;clear hd hg D6 F6;have k0:=(F7.out.blk 0 rfl).c3;generalize endS s2=ec at *;by_cases he:ec=0;rotate_left
 ·have hc1:((ec:Int) !=0)=true:=by simp; exact he
  have HE:Hid (X=(([],0,0),3)):=ι (by rw [HX2.out,if_neg (fun e=>he e.1)]);clear HX2 he;exact z_22
 subst he;have WA:=ι (exec_within (a:Int) w7);have WQ:=ι (exec_within (q:Int) w7);rw [decide_eq_true (show (0:Int)≤(a:Int) by omega),Bool.true_and] at WA;rw [decide_eq_true (show (0:Int)≤(q:Int) by omega),Bool.true_and] at WQ;by_cases ha:a≤Ex.maxA;rotate_left
 ·have HE:Hid (X=(([],0,0),3)):=ι (by rw [HX2.out,if_neg (fun e=>ha e.2.1)]);rw [decide_eq_false (show ¬(a:Int)≤1099511627776 by unfold Ex.maxA at ha; omega)] at WA;clear HX2 ha;go_wp2_with fail
  refine WA.out.mono ?_;rintro e w8 ⟨rfl,rfl⟩;exact z_22
 rw [decide_eq_true (show (a:Int)≤1099511627776 by unfold Ex.maxA at ha; omega)] at WA;by_cases hq:q≤Ex.maxA;rotate_left
 ·have HE:Hid (X=(([],0,0),3)):=ι (by rw [HX2.out,if_neg (fun e=>hq e.2.2)]);rw [decide_eq_false (show ¬(q:Int)≤1099511627776 by unfold Ex.maxA at hq; omega)] at WQ;clear HX2 ha hq;go_wp2_with fail
  refine WA.out.mono ?_;rintro e w8 ⟨rfl,rfl⟩;go_wp2_with fail
  refine WQ.out.mono ?_;rintro e w8 ⟨rfl,rfl⟩;exact z_22
 have HE:Hid (X=((n,a,q),0)):=ι (by rw [HX2.out,if_pos ⟨rfl,ha,hq⟩]);rw [decide_eq_true (show (q:Int)≤1099511627776 by unfold Ex.maxA at hq; omega)] at WQ;clear HX2 ha hq;go_wp2_with fail
 refine WA.out.mono ?_;rintro e w8 ⟨rfl,rfl⟩;go_wp2_with fail
 refine WQ.out.mono ?_;rintro e w8 ⟨rfl,rfl⟩;have r0:=(F8.out.blk 0 rfl).d0;have r1:=(F8.out.blk 0 rfl).d1;have r2:=(F8.out.blk 0 rfl).d2;have f0:=F8.out.frozen 0 0 rfl;have f1:=F8.out.frozen 0 1 rfl;have f2:=F8.out.frozen 0 2 rfl;go_wp2_with fail
 have F9:Hid (Live w (((w7.setCell ⟨rb,0,none⟩ (.string ⟨n.toArray⟩)).setCell ⟨rb,1,none⟩ (.int .i64 (a:Int))).setCell ⟨rb,2,none⟩ (.int .i64 (q:Int))) [(rb,62,#[n,a,q])]):=ι (((F8.out.set 0 0 _ rfl).set 0 1 _ rfl).set 0 2 _ rfl);generalize ((w7.setCell ⟨rb,0,none⟩ (.string ⟨n.toArray⟩)).setCell ⟨rb,1,none⟩ (.int .i64 (a:Int))).setCell ⟨rb,2,none⟩ (.int .i64 (q:Int))=W9 at F9 ⊢;have s0:=(F9.out.blk 0 rfl).d0;have s1:=(F9.out.blk 0 rfl).d1;have s2:=(F9.out.blk 0 rfl).d2
 (try simp only [Exit.inBlock,Exit.then])
 refine bodyPost_ret (v:= .tuple #[.agg #[n,a,q],ζ]) (by simp [results,Tryz.results33,go_sem,s0,s1,s2]) rfl ?_;exact HP.out n a q 0 _ HE.out F9.out.b
theorem TrieP.kept {w w':World} {row:Option Nat} {t:Trie.T} {v:Value} (h:TrieP w t v) (hg:w.grownBy w' row) (hk:∀ k,row=some k→∃ ty cs,Blk w k ty cs∧ty≠115∧ty≠136):TrieP w' t v:=by
 obtain ⟨h1,b,x,rfl,h2,h3⟩:=h;refine ⟨h1,b,x,rfl,h2.grown hg (fun e=> ?_),KnotP.far (fun b' cs hb=>hb.grown hg (fun e=> ?_)) h3⟩
 ·obtain ⟨ty,cs,a1,a2,a3⟩:=hk b e.symm;exact a1.ne_ h2 a2 rfl
 ·obtain ⟨ty,cs',a1,a2,a3⟩:=hk b' e.symm;exact a1.ne_ hb a3 rfl
theorem grown_cell {a w:World} {g:Nat} (h:a.grownBy w (some g)) (i:Nat) (u:Value):a.grownBy (w.setCell ⟨g,i,none⟩ u) (some g):=grown_setAll [u] i w h
def WorkP (w:World) (wb:Nat) (t:Trie.T) (c:Nat):Prop:=∃ v,Blk w wb 272 #[v,.int .i64 (c:Int)]∧TrieP w t v
theorem WorkP.lt {w:World} {wb:Nat} {t:Trie.T} {c:Nat} (h:WorkP w wb t c):wb<w.heap.size:=by obtain ⟨v,h,_⟩:=h; exact h.lt
theorem WorkP.next {w w':World} {wb:Nat} {t:Trie.T} {c:Nat} (h:WorkP w wb t c) (hb:Below w.heap.size w w'):WorkP w' wb t c:=by
 obtain ⟨v,h1,h2⟩:=h;exact ⟨v,h1.below hb h1.lt,h2.next hb⟩
def WkEnd (w:World) (wb:Nat) (t:Trie.T) (c:Nat) (e:Ending) (w':World):Prop:=e= .returned (.tuple #[])∧WorkP w' wb t c∧w.grownBy w' (some wb)
theorem WorkP.set0 {w:World} {wb:Nat} {t:Trie.T} {c:Nat} {v v':Value} (h:Blk w wb 272 #[v,.int .i64 (c:Int)]) (h':TrieP w t v'):WorkP (w.setCell ⟨wb,0,none⟩ v') wb t c:=
 ⟨v',h.set_ 0 v',h'.kept (grown_cell (World.grownBy.refl w _) 0 v') (fun k e=>by injection e with e; subst e; exact ⟨_,_,h,by decide,by decide⟩)⟩
theorem WorkP.set1 {w:World} {wb:Nat} {t:Trie.T} {c c':Nat} {v:Value} (h:Blk w wb 272 #[v,.int .i64 (c:Int)]) (h':TrieP w t v):WorkP (w.setCell ⟨wb,1,none⟩ (.int .i64 (c':Int))) wb t c':=
 ⟨v,h.set_ 1 _,h'.kept (grown_cell (World.grownBy.refl w _) 1 _) (fun k e=>by injection e with e; subst e; exact ⟨_,_,h,by decide,by decide⟩)⟩
theorem work_put_no (w:World) (wb:Nat) (t:Trie.T) (c:Nat) (h:WorkP w wb t c) (hc:c≠0) (x y:Value):
  Calls Tryz.prog 192 #[.pointer (some ⟨wb,0,none⟩),x,y] w (WkEnd w wb t c):=by
 have HP:Hid (WkEnd w wb t c (.returned (.tuple #[])) w):=ι ⟨rfl,h,World.grownBy.refl w _⟩;generalize WkEnd w wb t c=P at HP ⊢;obtain ⟨v,hB,_⟩:=h;have k1:w.cell? ⟨wb,1,none⟩=some (.int .i64 (c:Int)):=hB.cell 1;have hc1:((c:Int) !=0)=true:=by simp; exact hc
 clear hB hc;go_enter Tryz.func192,Tryz.ntmps192
 go_wp2
 go_end0
 exact HP.out
theorem work_put_ok (w:World) (wb:Nat) (t:Trie.T) (h:WorkP w wb t 0) (hn:Trie.count t<1024) (hT:Tbl w) (key value:List UInt8) (hp:Trie.putCode key value=0):
  Calls Tryz.prog 192 #[.pointer (some ⟨wb,0,none⟩),key,value] w (WkEnd w wb (Trie.put t (Nib.of key) value) 0):=by
 have hl:key.length≤8∧value.length≤32:=by
  unfold Trie.putCode at hp
  split at hp
  ·rename_i hk
   split at hp
   ·cases hp
   ·rename_i hv;simp only [Bool.or_eq_true,decide_eq_true_eq,not_or] at hv;exact ⟨(Trie.keyed_len hk).1,by omega⟩
  ·cases hp
 obtain ⟨v,hB,hK⟩:=h;have HP:Hid (∀ w',WorkP w' wb (Trie.put t (Nib.of key) value) 0→w.grownBy w' (some wb)→WkEnd w wb (Trie.put t (Nib.of key) value) 0 (.returned (.tuple #[])) w'):=ι (fun w' h1 h2=>⟨rfl,h1,h2⟩);generalize WkEnd w wb (Trie.put t (Nib.of key) value) 0=P at HP ⊢;have HPt:=ι (trie_Put w t v hK hn hT key value (by omega) (by omega));rw [hp] at HPt;have HB:=ι hB;have k0:w.cell? ⟨wb,0,none⟩=some v:=hB.cell 0;have k1:w.cell? ⟨wb,1,none⟩=some (.int .i64 0):=hB.cell 1;clear hB hK hn hT hp hl;go_enter Tryz.func192,Tryz.ntmps192
 go_wp2_with fail
 refine HPt.out.mono ?_;rintro e w1 ⟨v1,rfl,hb,hk,_⟩;obtain ⟨_,p1,x1,rfl,_⟩:=id (hk (by first|exact trivial|rfl));have B1:Hid (Blk w1 wb 272 #[v,.int .i64 ((0:Nat):Int)]∧TrieP w1 (Trie.put t (Nib.of key) value) (.pointer (some ⟨p1,0,none⟩))∧w.grownBy w1 (some wb)):=ι ⟨HB.out.below hb HB.out.lt,hk (by first|exact trivial|rfl),only_of_below hb (some wb)⟩;have f0:w1.frozen? ⟨wb,0,none⟩=false:=B1.out.1.frozen 0;have c0:w1.cell? ⟨wb,0,none⟩=some v:=B1.out.1.cell 0;clear hb hk k0 k1;go_wp2_with fail
 go_end0
 exact HP.out _ (WorkP.set0 B1.out.1 B1.out.2.1) (grown_cell B1.out.2.2 0 _)
theorem work_drop_ok (w:World) (wb:Nat) (t:Trie.T) (h:WorkP w wb t 0) (hn:Trie.count t<1024) (hT:Tbl w) (key:List UInt8) (hl:key.length≤6):
  Calls Tryz.prog 193 #[.pointer (some ⟨wb,0,none⟩),key] w (WkEnd w wb (if (Trie.getW t (Ex.dKey key)).2=0 then Trie.del t (Nib.of (Ex.dKey key)) else t) (Trie.getW t (Ex.dKey key)).2):=by
 obtain ⟨v,hB,hK⟩:=h;have HP:Hid (∀ t' (c:Nat) w',(Trie.getW t (Ex.dKey key)).2=c→(if c=0 then Trie.del t (Nib.of (Ex.dKey key)) else t)=t'→WorkP w' wb t' c→w.grownBy w' (some wb)→WkEnd w wb (if (Trie.getW t (Ex.dKey key)).2=0 then Trie.del t (Nib.of (Ex.dKey key)) else t) (Trie.getW t (Ex.dKey key)).2 (.returned (.tuple #[])) w'):=ι (fun t' c w' e1 e2 h1 h2=>by rw [e1,e2]; exact ⟨rfl,h1,h2⟩);generalize WkEnd w wb (if (Trie.getW t (Ex.dKey key)).2=0 then Trie.del t (Nib.of (Ex.dKey key)) else t) (Trie.getW t (Ex.dKey key)).2=P at HP ⊢;have HDl:=ι (trie_Del w t v hK hn hT (100::58::key) (by simp only [List.length_cons]; omega));have HP:=ι (show ∀ t' (c:Nat) w',(Trie.getW t (100::58::key)).2=c→(if c=0 then Trie.del t (Nib.of (100::58::key)) else t)=t'→WorkP w' wb t' c→w.grownBy w' (some wb)→P (.returned (.tuple #[])) w' from HP.out);have HB:=ι (And.intro hB hK);have k0:w.cell? ⟨wb,0,none⟩=some v:=hB.cell 0;have k1:w.cell? ⟨wb,1,none⟩=some (.int .i64 0):=hB.cell 1;have hsum:2+key.length≤9223372036854775807:=by omega
 have hsum2:key.length+2≤9223372036854775807:=by omega
 have hsum3:key.length+1+1≤9223372036854775807:=by omega
 generalize (Trie.getW t (100::58::key)).2=c at *;generalize Trie.del t (Nib.of (100::58::key))=t' at *;clear hB hK hn hT hl;by_cases hc:c=0
 ·subst hc;go_enter Tryz.func193,Tryz.ntmps193
  go_wp2_with fail
  refine HDl.out.mono ?_;rintro e w1 ⟨v1,rfl,hb,hk,_⟩;obtain ⟨_,p1,x1,rfl,_⟩:=id (hk (by first|exact trivial|rfl));have B1:Hid (Blk w1 wb 272 #[v,.int .i64 ((0:Nat):Int)]∧TrieP w1 t' (.pointer (some ⟨p1,0,none⟩))∧w.grownBy w1 (some wb)):=ι ⟨HB.out.1.below hb HB.out.1.lt,hk (by first|exact trivial|rfl),only_of_below hb (some wb)⟩;have f0:w1.frozen? ⟨wb,0,none⟩=false:=B1.out.1.frozen 0;have c0:w1.cell? ⟨wb,0,none⟩=some v:=B1.out.1.cell 0;clear hb hk k0 k1;go_wp2_with fail
  go_end0
  exact HP.out t' 0 _ (by first|trivial|rfl) (by simp) (WorkP.set0 B1.out.1 B1.out.2.1) (grown_cell B1.out.2.2 0 _)
 ·have hc1:((c:Int) !=0)=true:=by simp; exact hc
  have HC:=ι hc;clear hc;go_enter Tryz.func193,Tryz.ntmps193
  go_wp2_with fail
  refine HDl.out.mono ?_;rintro e w1 ⟨v1,rfl,hb,_,hz⟩;obtain rfl:=hz HC.out;have B1:Hid (Blk w1 wb 272 #[v,.int .i64 ((0:Nat):Int)]∧TrieP w1 t v∧w.grownBy w1 (some wb)):=ι ⟨HB.out.1.below hb HB.out.1.lt,HB.out.2.next hb,only_of_below hb (some wb)⟩;have f1:w1.frozen? ⟨wb,1,none⟩=false:=B1.out.1.frozen 1;have c1:w1.cell? ⟨wb,1,none⟩=some (.int .i64 0):=B1.out.1.cell 1;clear hb k0 k1;go_wp2_with fail
  go_end0
  exact HP.out t c _ (by first|trivial|rfl) (if_neg HC.out) (WorkP.set1 B1.out.1 B1.out.2.1) (grown_cell B1.out.2.2 1 _)
theorem Live.grownAt {w W W':World} {g t wb:Nat} {cs:Array Value} (h:Live w W [(g,t,cs)]) (hg:W.grownBy W' (some wb)) (hw:wb<w.heap.size):Blk W' g t cs∧w.grownBy W' (some wb):=
 ⟨(h.blk 0 rfl).grown hg (fun e=>by injection e with e; have:=h.own 0 rfl; omega),(only_of_below h.b (some wb)).trans hg⟩
theorem z_23 {P:Prop} (h:P:=by
 have HWr:=ι (fun W=>exec_written n a q (by omega) (by omega) W);have hsum:2+n.length≤9223372036854775807:=by omega
 have hsum2:n.length+2≤9223372036854775807:=by omega
 have hsum3:n.length+1+1≤9223372036854775807:=by omega
 have hnl1:(9223372036854775807<2+n.length)=False:=by simp; omega
 have hnl2:(9223372036854775807<n.length+2)=False:=by simp; omega
 have hnl3:(9223372036854775807<n.length+1+1)=False:=by simp; omega
 generalize Ex.writA (a,q)=wr at *;go_enter Tryz.func194,Tryz.ntmps194
 go_upto_region 1 with fail
 have F0:=Live.ha (ι (Live.start w)) #[n,a,q] 62;have HLt:=ι HW.out.lt;have HNe:Hid (wb<w.heap.size):=ι HLt.out;generalize World.alloc w _=W0 at F0 ⊢;obtain ⟨ab,hab⟩:∃ ab,w.heap.size=ab:=⟨_,rfl⟩
 rw [hab] at F0 ⊢;have HAb:=ι hab;clear hab;have d0:W0.cell? ⟨ab,0,none⟩=some (n:Value)∧W0.cell? ⟨ab,1,none⟩=some (.int .i64 (a:Int))∧W0.cell? ⟨ab,2,none⟩=some (.int .i64 (q:Int)):=⟨F0.out.cell 0 0 rfl rfl,F0.out.cell 0 1 rfl rfl,F0.out.cell 0 2 rfl rfl⟩
 go_region_held3 (fun w'=>w'.cell? ⟨ab,0,none⟩=some (n:Value)∧w'.cell? ⟨ab,1,none⟩=some (.int .i64 (a:Int))∧w'.cell? ⟨ab,2,none⟩=some (.int .i64 (q:Int))) (first|go_keep|assumption) (first|(go_at_call 153; refine (HWr.out _).mono ?_; rintro e w2 ⟨rfl,hb⟩; have hb2:Below W0.heap.size W0 w2:=(by first|exact hb|exact hb.start); clear hb; have F2:=Live.hb F0 hb2; have d1:w2.cell? ⟨ab,0,none⟩=some (n:Value)∧w2.cell? ⟨ab,1,none⟩=some (.int .i64 (a:Int))∧w2.cell? ⟨ab,2,none⟩=some (.int .i64 (q:Int)):=⟨F2.out.cell 0 0 rfl rfl,F2.out.cell 0 1 rfl rfl,F2.out.cell 0 2 rfl rfl⟩)|(go_at_call 192; refine ((HPt.out _ (by first|exact F2.out.b|exact F2.out.b.drew))).mono ?_; rintro e w3 ⟨rfl,hk3,hg3⟩; have hg:w2.grownBy w3 (some wb):=⟨hg3.os,hg3.tape,hg3.output,hg3.size,hg3.block⟩; have F3:=ι (F2.out.grownAt hg HNe.out); have K3:=ι hk3; clear hg3 hk3; have d2:w3.cell? ⟨ab,0,none⟩=some (n:Value)∧w3.cell? ⟨ab,1,none⟩=some (.int .i64 (a:Int))∧w3.cell? ⟨ab,2,none⟩=some (.int .i64 (q:Int)):=⟨F3.out.1.cell 0,F3.out.1.cell 1,F3.out.1.cell 2⟩))
 go_wp2_with fail
 go_end0
 exact HP.out _ K3.out F3.out.2):P:=h
theorem work_save_ok (w:World) (wb:Nat) (t:Trie.T) (h:WorkP w wb t 0) (hn:Trie.count t<1024) (hT:Tbl w) (n:List UInt8) (hl:n.length≤6) (a q:Nat) (ha:a≤2000000000000) (hq:q≤2000000000000):
  Calls Tryz.prog 194 #[.pointer (some ⟨wb,0,none⟩),.agg #[n,a,q]] w (WkEnd w wb (Trie.put t (Nib.of (Ex.aKey n)) (Ex.writA (a,q))) 0):=by
 have HW:=ι h;have HP:Hid (∀ w',WorkP w' wb (Trie.put t (Nib.of (Ex.aKey n)) (Ex.writA (a,q))) 0→w.grownBy w' (some wb)→WkEnd w wb (Trie.put t (Nib.of (Ex.aKey n)) (Ex.writA (a,q))) 0 (.returned (.tuple #[])) w'):=ι (fun w' h1 h2=>⟨rfl,h1,h2⟩);generalize WkEnd w wb (Trie.put t (Nib.of (Ex.aKey n)) (Ex.writA (a,q))) 0=P at HP ⊢;have HPt:=ι (fun W (hW:Below w.heap.size w W)=>work_put_ok W wb t (h.next hW) hn (hT.next hW) (97::58::n) (Ex.writA (a,q)) (Ex.putCode_a (n:=n) hl ha hq));have HP:=ι (show ∀ w',WorkP w' wb (Trie.put t (Nib.of (97::58::n)) (Ex.writA (a,q))) 0→w.grownBy w' (some wb)→P (.returned (.tuple #[])) w' from HP.out);clear h hn hT;exact z_23
theorem work_save_no (w:World) (wb:Nat) (t:Trie.T) (c:Nat) (h:WorkP w wb t c) (hc:c≠0) (n:List UInt8) (hl:n.length≤6) (a q:Nat) (ha:a≤2000000000000) (hq:q≤2000000000000):
  Calls Tryz.prog 194 #[.pointer (some ⟨wb,0,none⟩),.agg #[n,a,q]] w (WkEnd w wb t c):=by
 have HW:=ι h;have HP:Hid (∀ w',WorkP w' wb t c→w.grownBy w' (some wb)→WkEnd w wb t c (.returned (.tuple #[])) w'):=ι (fun w' h1 h2=>⟨rfl,h1,h2⟩);generalize WkEnd w wb t c=P at HP ⊢;have HPt:=ι (fun W (hW:Below w.heap.size w W)=>work_put_no W wb t c (h.next hW) hc (.string ⟨(97::58::n).toArray⟩) (.string ⟨(Ex.writA (a,q)).toArray⟩));clear h hc;exact z_23
end
namespace Ex
open Pw Trie
def isAK (k:List UInt8):Bool:=decide (3≤k.length) && decide (k.take 2= [97,58])
def amtI (x:KV):Nat:=if isAK x.1 then ((parseA x.2).getD (0,0)).1 else 0
def sumI (l:List KV):Nat:=(l.map amtI).sum
theorem isAK_a {n:List UInt8} (h:1≤n.length):isAK (aKey n)=true:=by simp [isAK,aKey]; omega
theorem isAK_d (n:List UInt8):isAK (dKey n)=false:=by simp [isAK,dKey]
theorem isAK_s:isAK sKey=false:=rfl
theorem sumI_perm {a b:List KV} (h:a.Perm b):sumI a=sumI b:=(h.map amtI).sum_nat
def oldI (t:T) (k:List UInt8):Nat:=if Trie.look t (Nib.of k)= [] then 0 else amtI (k,Trie.look t (Nib.of k))
def restI (t:T) (k:List UInt8):List KV:=(itemsW t).filter fun x=>decide (x.1≠k)
theorem nodup_of_keys:∀ {l:List KV},(l.map (·.1)).Nodup→l.Nodup
 | [],_=>List.nodup_nil
 |x::l,h=>by
  rw [List.map_cons,List.nodup_cons] at h;exact List.nodup_cons.2 ⟨fun hx=>h.1 (List.mem_map.2 ⟨x,hx,rfl⟩),nodup_of_keys h.2⟩
theorem nodupW {t:T} (h:Trie.Good t):(itemsW t).Nodup:=nodup_of_keys (keys_nodup h)
theorem amtI_no {k:List UInt8} (hn:isAK k=false) (v:List UInt8):amtI (k,v)=0:=by unfold amtI; rw [if_neg (by simp [hn])]
theorem oldI_no {k:List UInt8} (hn:isAK k=false) (t:T):oldI t k=0:=by unfold oldI; rw [amtI_no hn]; split<;>rfl
theorem mem_restI {t:T} (h:Trie.Good t) (k a b:List UInt8):(a,b)∈restI t k↔(Trie.look t (Nib.of a)=b∧b≠ [])∧a≠k:=by
 unfold restI;rw [List.mem_filter,mem_itemsW h];simp
theorem nodup_rest {t:T} (h:Trie.Good t) (k:List UInt8):(restI t k).Nodup:=(nodupW h).sublist List.filter_sublist
theorem sum_split {t:T} (h:Trie.Good t) (k:List UInt8):sumI (itemsW t)=oldI t k+sumI (restI t k):=by
 unfold oldI;by_cases hl:Trie.look t (Nib.of k)= []
 ·rw [if_pos hl,Nat.zero_add];refine sumI_perm ((List.perm_ext_iff_of_nodup (nodupW h) (nodup_rest h k)).2 fun x=> ?_);obtain ⟨a,b⟩:=x;rw [mem_itemsW h,mem_restI h];refine ⟨fun e=>⟨e,fun e2=> ?_⟩,fun e=>e.1⟩;subst e2;exact e.2 (e.1.symm.trans hl)
 ·rw [if_neg hl]
  have:(itemsW t).Perm ((k,Trie.look t (Nib.of k))::restI t k):=by
   refine (List.perm_ext_iff_of_nodup (nodupW h) (List.nodup_cons.2 ⟨fun hx=> ?_,nodup_rest h k⟩)).2 fun x=> ?_
   ·exact ((mem_restI h k _ _).1 hx).2 rfl
   ·obtain ⟨a,b⟩:=x;rw [mem_itemsW h,List.mem_cons,mem_restI h];refine ⟨fun e=> ?_,?_⟩
    ·by_cases e2:a=k
     ·subst e2; left; rw [←e.1]
     ·exact .inr ⟨e,e2⟩
    ·rintro (e|e)
     ·injection e with e1 e2; subst e1; subst e2; exact ⟨rfl,hl⟩
     ·exact e.1
  rw [sumI_perm this];rfl
theorem rest_put {t:T} (h:Trie.Good t) {k v:List UInt8} (hk:keyedW k=true) (hv:v≠ []) (hl:v.length≤32):sumI (restI (put t (Nib.of k) v) k)=sumI (restI t k):=by
 have g:=Trie.Good.put h hk hv hl;refine sumI_perm ((List.perm_ext_iff_of_nodup (nodup_rest g k) (nodup_rest h k)).2 fun x=> ?_);obtain ⟨a,b⟩:=x;rw [mem_restI g,mem_restI h,(put_spec t (Nib.of k) v h.wf (Nib.fit_of k) hv).2.1 _ (Nib.fit_of a)]
 constructor
 ·rintro ⟨e,e2⟩;rw [if_neg (fun e3=>e2 (Nib.of_inj e3))] at e;exact ⟨e,e2⟩
 ·rintro ⟨e,e2⟩;rw [if_neg (fun e3=>e2 (Nib.of_inj e3))];exact ⟨e,e2⟩
theorem rest_del {t:T} (h:Trie.Good t) {k:List UInt8} (hk:Trie.look t (Nib.of k)≠ []):sumI (restI (del t (Nib.of k)) k)=sumI (restI t k):=by
 have g:=Trie.Good.del h hk;refine sumI_perm ((List.perm_ext_iff_of_nodup (nodup_rest g k) (nodup_rest h k)).2 fun x=> ?_);obtain ⟨a,b⟩:=x;rw [mem_restI g,mem_restI h,(del_spec t (Nib.of k) h.wf (Nib.fit_of k) hk).2.1 _ (Nib.fit_of a)]
 constructor
 ·rintro ⟨e,e2⟩;rw [if_neg (fun e3=>e2 (Nib.of_inj e3))] at e;exact ⟨e,e2⟩
 ·rintro ⟨e,e2⟩;rw [if_neg (fun e3=>e2 (Nib.of_inj e3))];exact ⟨e,e2⟩
theorem sum_put {t:T} (h:Trie.Good t) {k v:List UInt8} (hk:keyedW k=true) (hv:v≠ []) (hl:v.length≤32):sumI (itemsW (put t (Nib.of k) v))+oldI t k=sumI (itemsW t)+amtI (k,v):=by
 have e:oldI (put t (Nib.of k) v) k=amtI (k,v):=by
  unfold oldI;rw [(put_spec t (Nib.of k) v h.wf (Nib.fit_of k) hv).2.1 _ (Nib.fit_of k),if_pos rfl,if_neg hv]
 rw [sum_split (Trie.Good.put h hk hv hl) k,sum_split h k,rest_put h hk hv hl,e];omega
theorem sum_put_no {t:T} (h:Trie.Good t) {k v:List UInt8} (hk:keyedW k=true) (hv:v≠ []) (hl:v.length≤32) (hn:isAK k=false):sumI (itemsW (put t (Nib.of k) v))=sumI (itemsW t):=by
 have:=sum_put h hk hv hl
 have e1:=oldI_no hn t;have e2:=amtI_no hn v;omega
theorem sum_del_no {t:T} (h:Trie.Good t) {k:List UInt8} (hk:Trie.look t (Nib.of k)≠ []) (hn:isAK k=false):sumI (itemsW (del t (Nib.of k)))=sumI (itemsW t):=by
 rw [sum_split (Trie.Good.del h hk) k,sum_split h k,rest_del h hk,oldI_no hn,oldI_no hn]
theorem old_acc {t:T} {n:List UInt8} (h1:nameW n=true) {p:Nat × Nat} (h:acc t n=some p):oldI t (aKey n)=p.1:=by
 have hn:=nameW_len h1;unfold oldI amtI;unfold acc getW at h;rw [if_pos (keyed_a hn.2)] at h;by_cases hl:Trie.look t (Nib.of (aKey n))= []
 ·rw [if_pos hl];rw [hl] at h;injection h with h
  rw [←h]
 ·rw [if_neg hl,if_pos (isAK_a hn.1)];rw [if_neg (show ¬(Trie.look t (Nib.of (aKey n))).isEmpty=true by simpa using hl)] at h;have h2:parseA (Trie.look t (Nib.of (aKey n)))=some p:=h;simp only [h2];rfl
theorem sum_putA {t:T} (h:Trie.Good t) {n:List UInt8} (h1:nameW n=true) {p q:Nat × Nat} (hp:acc t n=some p) (q1:q.1≤maxA) (q2:q.2≤maxA):sumI (itemsW (put t (Nib.of (aKey n)) (writA q)))+p.1=sumI (itemsW t)+q.1:=by
 have hn:=nameW_len h1;have hw:=writA_len (p:=q) (by unfold maxA at q1; omega) (by unfold maxA at q2; omega)
 have:=sum_put h (keyed_a hn.2) (ne_nil_of hw.1) (by omega)
 rw [old_acc h1 hp] at this;have e:amtI (aKey n,writA q)=q.1:=by
  unfold amtI;rw [if_pos (isAK_a hn.1)]
  have:=parseA_writA (a:=q.1) (b:=q.2) q1 q2
  have e2:parseA (writA q)=some q:=this;simp only [e2];rfl
 omega
theorem do_sum {t : T} (h : Trie.Good t) (hw : WfS t) (x : Tx) : sumI (itemsW (doW t x).1) = sumI (itemsW t) := by
  by_cases hd : (doW t x).2 = 0
  · obtain ⟨hx, ⟨d⟩⟩ := doW_done hd
    obtain ⟨g1, g2⟩ := d.good h hx
    have hm := d.hm
    have hfr := (fineX_spec hx).1
    have hz := d.hk
    have hle := d.to_le
    -- the account in the state between
    have hacc : ∀ n, acc (kindW t x d.f d.tt).1 n = if x.kind = 1 ∧ x.dst ≠ x.frm ∧ n = x.dst then some (d.tt.1 + x.amt.toNat, d.tt.2) else acc t n := by
      intro n
      by_cases hc : x.kind = 1 ∧ x.dst ≠ x.frm ∧ n = x.dst
      · obtain ⟨k1, hne, rfl⟩ := hc
        rw [if_pos ⟨k1, hne, rfl⟩]
        have := do_accT d h hx k1 hne
        unfold acc at this ⊢
        rwa [do_get d h hx, if_neg (fun e => hne (aKey_inj e))] at this
      · rw [if_neg hc]
        refine acc_cong ?_
        rw [kindW_get d h hx]
        split
        · rename_i k1; rw [if_neg (fun e => hc ⟨k1, e.1, aKey_inj e.2⟩)]
        split
        · rw [if_neg (aKey_dKey _ _)]
        split
        · rw [if_neg (aKey_dKey _ _)]
        · rw [if_neg (aKey_sKey _)]
    have hF : acc (kindW t x d.f d.tt).1 x.frm = some d.f := by
      rw [hacc, if_neg (fun e => e.2.1 e.2.2.symm)]; exact d.hf
    have h2 := sum_putA g1 hfr hF (q := ((kindW t x d.f d.tt).2.2, d.f.2 + 1)) g2 (by have : d.f.2 + 1 ≤ maxA := hm; exact this)
    rw [d.hd]
    rw [kindW_amt d hx] at h2
    have h3 : sumI (itemsW (kindW t x d.f d.tt).1) = sumI (itemsW t) + (if x.kind = 1 ∧ x.dst ≠ x.frm then x.amt.toNat else 0) := by
      rcases (fineX_spec hx).2.2.2 with ⟨k, hto, a1, a2, _⟩ | ⟨k, _, _, _, v1, v2, q1, q2⟩ | ⟨k, _, _, _, _, q1, q2⟩ | ⟨k, _, _, _, _, hmm⟩
      · rw [kindW_1 k] at hz ⊢
        split at hz
        · cases hz
        rename_i c1
        rw [if_neg c1]
        by_cases c2 : x.dst = x.frm
        · rw [if_pos c2, if_neg (fun e => e.2 c2)]; rfl
        · rw [if_neg c2] at hz ⊢
          split at hz
          · cases hz
          rename_i c3
          rw [if_neg c3, if_pos ⟨k, c2⟩]
          have ht := d.ht
          unfold accTo at ht
          rw [if_pos k] at ht
          have := sum_putA h hto ht (q := (d.tt.1 + x.amt.toNat, d.tt.2)) (by unfold maxA; simp only; omega) hle.2
          have e : sumI (itemsW (put t (Nib.of (aKey x.dst)) (writA (d.tt.1 + x.amt.toNat, d.tt.2)))) = sumI (itemsW t) + x.amt.toNat := by
            have := this; simp only at this; omega
          exact e
      · rw [kindW_2 k, if_neg (fun e => by omega)]
        exact sum_put_no h (keyed_d q2) (ne_nil_of v1) v2 (isAK_d _)
      · rw [kindW_3 k] at hz ⊢
        rw [if_neg (show ¬ (x.kind = 1 ∧ x.dst ≠ x.frm) from fun e => by omega)]
        split at hz
        · rename_i hg
          rw [if_pos hg]
          exact sum_del_no h (look_get hg) (isAK_d _)
        · rename_i hg; exact absurd hz hg
      · rw [kindW_4 k] at hz ⊢
        rw [if_neg (show ¬ (x.kind = 1 ∧ x.dst ≠ x.frm) from fun e => by omega)]
        split at hz
        · rename_i hr
          rw [if_pos hr]
          exact sum_put_no h keyed_s (ne_nil_of (by rw [digM_len hmm]; omega)) (by rw [digM_len hmm]; omega) isAK_s
        · cases hz
    have h4 : x.kind = 1 ∧ x.dst ≠ x.frm → x.amt.toNat ≤ d.f.1 := by
      rintro ⟨k, c2⟩
      rw [kindW_1 k] at hz
      split at hz
      · cases hz
      omega
    show sumI (itemsW (put (kindW t x d.f d.tt).1 (Nib.of (aKey x.frm)) (writA ((kindW t x d.f d.tt).2.2, d.f.2 + 1)))) = _
    rw [kindW_amt d hx]
    by_cases hc : x.kind = 1 ∧ x.dst ≠ x.frm
    · have := h4 hc
      rw [if_pos hc] at h2 h3 ⊢
      simp only at h2
      omega
    · rw [if_neg hc] at h2 h3 ⊢
      simp only at h2
      omega
  · rw [doW_same hd]
theorem all_sum:∀ (l:List Tx) (t:T) (m:List Mem),Trie.Good t→WfS t→sumI (itemsW (allGo t l m).1)=sumI (itemsW t)∧WfS (allGo t l m).1
 | [],t,m,h,hw=>⟨rfl,hw⟩
 |x::r,t,m,h,hw=>by
  obtain ⟨h1,h2⟩:=all_sum r (doW t x).1 (if (doW t x).2=0∧x.kind=4 then x.mem else m) (doW_good h x).1 (do_wfs h hw x);exact ⟨by simp only [allGo]; rw [h1,do_sum h hw],h2⟩
theorem wfs_nil:WfS .nil:=fun n hn=>⟨(0,0),by
 unfold acc getW;rw [if_pos (keyed_a (nameW_len hn).2)];rfl⟩
theorem genA_wfs:∀ (l:List Ac) (t:T),Trie.Good t→WfS t→WfS (genA t l).1
 | [],t,h,hw=>hw
 |a::r,t,h,hw=>by
  simp only [genA]
  split
  ·exact hw
  rename_i ha;obtain ⟨a1,a2,a3,a4,a5⟩:=okA_spec (a:=a) (by simpa using ha)
  split
  ·exact hw
  refine genA_wfs r _ (good_putA (t:=t) h (nameW_len a1).2 (p:=(a.2.1.toNat,a.2.2.toNat)) (by simp only; omega) (by simp only; omega)) fun n hn=> ?_;rw [acc_putA h (nameW_len a1).2 (by unfold maxA; simp only; omega) (by unfold maxA; simp only; omega)];by_cases e:n=a.1
  ·exact ⟨_,if_pos e⟩
  ·rw [if_neg e]; exact hw n hn
theorem genW_wfs (l:List Ac) (set:List Mem):WfS (genW l set).1:=by
 unfold genW
 split
 ·exact wfs_nil
 split
 ·exact wfs_nil
 split
 ·exact wfs_nil
 rename_i h1 _ hm;have hm:okM set=true:=by simpa using hm
 have g1:=(genA_good l .nil Trie.Good.nil).1;intro n hn;rw [acc_put g1 keyed_s (ne_nil_of (by rw [digM_len hm]; omega)) n (aKey_sKey n)];exact genA_wfs l .nil Trie.Good.nil wfs_nil n hn
end Ex
namespace Ex
open Pw Trie
def seqOf (t:T) (n:List UInt8):Nat:=match acc t n with|some p=>p.2|none=>0
theorem seqOf_of {t:T} {n:List UInt8} {p:Nat × Nat} (h:acc t n=some p):seqOf t n=p.2:=by unfold seqOf; rw [h]
theorem do_seq {t:T} (h:Trie.Good t) {x:Tx} (hd:(doW t x).2=0) (n:List UInt8):seqOf (doW t x).1 n=seqOf t n+(if n=x.frm then 1 else 0)∧(n=x.frm→(seqOf t n:Int)=x.seq):=by
 obtain ⟨hx,⟨d⟩⟩:=doW_done hd;by_cases h1:n=x.frm
 ·subst h1;rw [if_pos rfl,seqOf_of (do_accF d h hx),seqOf_of d.hf];exact ⟨rfl,fun _=>d.hs⟩
 rw [if_neg h1];refine ⟨?_,fun e=>absurd e h1⟩;by_cases h2:n=x.dst
 ·by_cases k1:x.kind=1
  ·have ht:=d.ht;unfold accTo at ht;rw [if_pos k1,←h2] at ht
   have:=do_accT d h hx k1 (by rw [←h2]; exact h1)
   rw [←h2] at this;rw [seqOf_of this,seqOf_of ht];rfl
  ·have:acc (doW t x).1 n=acc t n:=acc_cong (by
    rw [do_get d h hx,if_neg (fun e=>h1 (aKey_inj e)),kindW_get d h hx,if_neg k1]
    split
    ·rw [if_neg (aKey_dKey _ _)]
    split
    ·rw [if_neg (aKey_dKey _ _)]
    ·rw [if_neg (aKey_sKey _)])
   unfold seqOf;rw [this];rfl
 ·unfold seqOf;rw [acc_cong (do_accO d h hx n h1 h2)];rfl
def bump (D:List UInt8→Int) (r:Rc):List UInt8→Int:=fun n=>if r.1=0∧n=r.2.1 then D n+1 else D n
theorem seqs_go:∀ (l:List Tx) (t:T) (m:List Mem) (D:List UInt8→Int),Trie.Good t→(∀ n,D n=(seqOf t n:Int))→
  (∀ i (hi:i<(allGo t l m).2.1.length),(allGo t l m).2.1[i].1=0→(allGo t l m).2.1[i].2.2=(((allGo t l m).2.1.take i).foldl bump D) (allGo t l m).2.1[i].2.1)∧
  ∀ n,((allGo t l m).2.1.foldl bump D) n=(seqOf (allGo t l m).1 n:Int)
 | [],t,m,D,h,hD=>⟨fun i hi=>by simp [allGo] at hi,hD⟩
 |x::r,t,m,D,h,hD=>by
  have hg:=(doW_good h x).1;have hD2:∀ n,bump D (((doW t x).2:Int),x.frm,x.seq) n=(seqOf (doW t x).1 n:Int):=by
   intro n;unfold bump;by_cases hd:(doW t x).2=0
   ·obtain ⟨h1,_⟩:=do_seq h hd n;rw [h1,hD n];by_cases hn:n=x.frm
    ·rw [if_pos ⟨by simp [hd],hn⟩,if_pos hn]; omega
    ·rw [if_neg (fun e=>hn e.2),if_neg hn]; omega
   ·rw [if_neg (fun e=>hd (by have:=e.1; simpa using this)),doW_same hd,hD n]
  obtain ⟨ih1,ih2⟩:=seqs_go r (doW t x).1 (if (doW t x).2=0∧x.kind=4 then x.mem else m) _ hg hD2;refine ⟨fun i hi hc=> ?_,fun n=>ih2 n⟩;rcases i with _|i
  ·have hd:(doW t x).2=0:=by have:(((doW t x).2:Nat):Int)=0:=hc; omega
   show x.seq=D x.frm;rw [hD,(do_seq h hd x.frm).2 rfl]
  ·exact ih1 i (by simpa [allGo] using hi) hc
end Ex
namespace Trie
theorem byte_ne {a b:Nat} (ha:a<256) (hb:b<256) (h:a≠b):Nib.of [UInt8.ofNat a]≠Nib.of [UInt8.ofNat b]:=fun e=>by
 have:=Nib.of_inj e
 injection this with this _
 have:=congrArg UInt8.toNat this
 simp at this
 omega
theorem keyed_one (b:UInt8):keyedW [b]=true:=by simp [keyedW]
theorem treeW_look:∀ (l:List (Int × List UInt8 × Int)) (t:T) (k:Nat),Good t→k+l.length≤256→(treeW t k l).2=0→
  Good (treeW t k l).1∧(∀ x∈l,rcOk x.1 x.2.1 x.2.2)∧(∀ i (hi:i<l.length),look (treeW t k l).1 (Nib.of [UInt8.ofNat (k+i)])=(encW l[i].1 l[i].2.1 l[i].2.2).1)∧
  ∀ r,Nib.fit r=true→(∀ i,i<l.length→r≠Nib.of [UInt8.ofNat (k+i)])→look (treeW t k l).1 r=look t r
 | [],t,k,hg,_,_=>⟨hg,(fun x hx=>by cases hx),(fun i hi=>absurd hi (Nat.not_lt_zero i)),fun r _ _=>rfl⟩
 |x::l,t,k,hg,hk,h=>by
  rw [List.length_cons] at hk;rw [treeW] at h ⊢;by_cases hx:rcOk x.1 x.2.1 x.2.2;rotate_left
  ·rw [if_neg hx] at h; cases h
  rw [if_pos hx] at h ⊢;have hen:=encW_len hx;have hg1:=hg.put (keyed_one (UInt8.ofNat k)) hen.1 hen.2;have hps:=(put_spec t (Nib.of [UInt8.ofNat k]) (encW x.1 x.2.1 x.2.2).1 hg.wf (Nib.fit_of _) hen.1).2.1;obtain ⟨a1,a2,a3,a4⟩:=treeW_look l (put t (Nib.of [UInt8.ofNat k]) (encW x.1 x.2.1 x.2.2).1) (k+1) hg1 (by omega) h;refine ⟨a1,fun y hy=> ?_,fun i hi=> ?_,fun r hr hne=> ?_⟩
  ·rcases List.mem_cons.1 hy with rfl|hy
   ·exact hx
   ·exact a2 y hy
  ·cases i with
   |zero=>
    rw [Nat.add_zero,a4 _ (Nib.fit_of _) (fun i hi=>byte_ne (by omega) (by omega) (by omega)),hps _ (Nib.fit_of _),Nat.add_zero,if_pos rfl];rfl
   |succ i=>
    have:=a3 i (by simpa using hi)
    rw [show k+1+i=k+(i+1) by omega] at this;rw [this];rfl
  ·rw [a4 r hr (fun i hi=>by
    have:=hne (i+1) (by rw [List.length_cons]; omega)
    rwa [show k+(i+1)=k+1+i by omega] at this),hps r hr,if_neg]
   have:=hne 0 (by rw [List.length_cons]; omega)
   rwa [Nat.add_zero] at this
theorem treeF_look {l:List (Int × List UInt8 × Int)} (h:(treeF l).2=0):l.length≤8∧Good (treeF l).1∧(∀ x∈l,rcOk x.1 x.2.1 x.2.2)∧(∀ i (hi:i<l.length),look (treeF l).1 (Nib.of [UInt8.ofNat i])=(encW l[i].1 l[i].2.1 l[i].2.2).1)∧
  ∀ r,Nib.fit r=true→(∀ i,i<l.length→r≠Nib.of [UInt8.ofNat i])→look (treeF l).1 r= []:=by
 unfold treeF at h ⊢
 split at h
 ·cases h
 ·rename_i hl;rw [if_neg hl]
  have:=treeW_look l .nil 0 Good.nil (by omega) h
  simp only [Nat.zero_add] at this;exact ⟨by omega,this⟩
theorem shown_at {l:List (Int × List UInt8 × Int)} (h:(treeF l).2=0) (k:Nat) (hk:k<256):(proveF l (k:Int)).2=0∧(proveF l (k:Int)).1.length≤17∧
  verifyF (sumT (treeF l).1) (k:Int) (proveF l (k:Int)).1=(if hi:k<l.length then ((l[k].1.toNat,l[k].2.1,l[k].2.2.toNat),true,0) else ((0,[],0),false,0)):=by
 obtain ⟨h8,hg,hok,hat,hno⟩:=treeF_look h;have hp:proveF l (k:Int)=(toldW (trailW (Nib.of [UInt8.ofNat k])) (treeF l).1,0):=by
  unfold proveF;rw [if_neg (by simp [h]),if_neg (by omega),Int.toNat_natCast,proveW,if_pos (keyed_one _)]
 have hv:=verify_whole hg (keyed_one (UInt8.ofNat k));refine ⟨by rw [hp],?_,?_⟩
 ·rw [hp];simp only
  rw [told_trail hg.wf (Nib.fit_of _),List.length_map]
  have:∀ (t:T) q,wf t→(trailT t q).length≤q.length+1:=by
   intro t
   induction t with
   |nil=>intro q _; exact Nat.zero_le _
   |leaf p v=>intro q _; simp [trailT]
   |ext p t ih=>
    intro q hw;simp only [trailT,List.length_cons]
    split
    ·rename_i hc;have h1:=ih (q.drop p.length) hw.2.2.2;have h2:0<p.length:=List.length_pos_iff.2 hw.2.1;have h3:=(Nib.common_le p q).2;rw [List.length_drop] at h1;omega
    ·simp
   |branch v kids ih=>
    intro q hw;cases q with
    |nil=>simp [trailT]
    |cons b r=>
     have:=ih (ix b) r (hw.1 _)
     simp only [trailT,List.length_cons];omega
  have h1:=this (treeF l).1 (Nib.of [UInt8.ofNat k]) hg.wf;rw [Nib.of_length] at h1;simp at h1
  omega
 ·rw [hp];unfold verifyF;rw [if_neg (by omega),Int.toNat_natCast,hv];simp only
  by_cases hi:k<l.length
  ·rw [dif_pos hi,hat k hi];have hx:=hok _ (List.getElem_mem hi);rw [if_neg (by simp [(encW_len hx).1]),decW_encW hx,if_neg (by simp)]
  ·rw [dif_neg hi,hno _ (Nib.fit_of _) (fun i hi2=>byte_ne hk (by omega) (by omega))];rfl
end Trie
end Go.Proofs.YtnelhjfjkkdoaaaGreatDoor