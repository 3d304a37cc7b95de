import Derived.Test.YtomnlhbioijfhaaGreatDoorJ29
import Derived.Test.YtomnlhbioijfhaaGreatDoorJ33
import Derived.Test.YtomnlhbioijfhaaGreatDoorJ23
set_option linter.unusedSimpArgs false
set_option linter.unusedVariables false
namespace Go.Proofs.YtomnlhbioijfhaaGreatDoor
open Go.RowKit Go.Instr
attribute [local go_sem] ba_get ByteArray.mk_append_mk
attribute [local go_sem ↓] Go.wp_at_zero Go.wp_at_succ
set_option maxHeartbeats 1000000 in
theorem ref02_REnd (w : World) (g : Nat) (s : List UInt8 × Nat) (h : RRd w g s) :
  Calls Tryz.prog 70 #[.pointer (some ⟨g,0,none⟩)] w (RRdEnd w g (.int .i64 (endS s : Int)) (s.1,endS s)):=by
 obtain ⟨l,c⟩:=s
 obtain ⟨hB,hl⟩:=h
 simp only at hB hl
 have HP : Hid (∀ (n : Nat) w',endS (l,c) = n → RRd w' g (l,n) → w.grownBy w' (some g) → RRdEnd w g (.int .i64 (endS (l,c) : Int)) (l,endS (l,c)) (.returned (.int .i64 (n : Int))) w'):=Lib.hid (fun n w' e h1 h2=>by rw [e]; exact ⟨rfl,h1,h2⟩)
 generalize RRdEnd w g (.int .i64 (endS (l,c) : Int)) (l,endS (l,c)) = P at HP ⊢
 have HB:=Lib.hid hB
 have HL:=Lib.hid hl
 have c0 : w.cell? ⟨g,0,none⟩ = some (.string ⟨l.toArray⟩):=hB.cell 0
 have c1 : w.cell? ⟨g,1,none⟩ = some (.int .i64 (c : Int)):=hB.cell 1
 have f1 : w.frozen? ⟨g,1,none⟩ = false:=hB.frozen 1
 clear hB hl
 by_cases hc : c = 0
 ·subst hc
  by_cases h0 : l = []
  ·subst h0
   have HE : Hid (endS ([],0) = 0):=Lib.hid rfl
   go_enter Tryz.func70,Tryz.ntmps70
   go_wp2_with fail
   exact HP.out 0 _ HE.out ⟨HB.out,HL.out⟩ (World.grownBy.refl _ _)
  ·have HE : Hid (endS (l,0) = 3):=Lib.hid (by unfold endS; rw [if_pos ⟨rfl,h0⟩])
   have ne1 : (l.toArray = #[]) = False:=by simp [h0]
   have ne2 : l.isEmpty = false:=by cases l <;> simp_all
   clear h0
   go_enter Tryz.func70,Tryz.ntmps70
   go_upto_region 3 with fail
   have HB2 : Hid (Blk (w.setCell ⟨g,1,none⟩ (.int .i64 3)) g 133 #[.string ⟨l.toArray⟩,.int .i64 3]):=Lib.hid (Blk.set_ HB.out 1 (.int .i64 3))
   have HG2 : Hid (w.grownBy (w.setCell ⟨g,1,none⟩ (.int .i64 3)) (some g)):=Lib.hid (grown_cell (World.grownBy.refl w (some g)) 1 _)
   generalize w.setCell ⟨g,1,none⟩ _ = w1 at HB2 HG2 ⊢
   clear c0 c1 f1
   have c1 : w1.cell? ⟨g,1,none⟩ = some (.int .i64 3):=HB2.out.cell 1
   go_wp2_with fail
   exact HP.out 3 _ HE.out ⟨HB2.out,HL.out⟩ HG2.out
 ·have hc1 : ((c : Int) == 0) = false:=by rw [beq_eq_false_iff_ne]; omega
  have HE : Hid (endS (l,c) = c):=Lib.hid (by unfold endS; rw [if_neg (fun e=>hc e.1)])
  clear hc
  go_enter Tryz.func70,Tryz.ntmps70
  go_wp2_with fail
  exact HP.out c _ HE.out ⟨HB.out,HL.out⟩ (World.grownBy.refl _ _)
theorem ref16_within (n : Int) (w : World) :
  Calls Tryz.prog 71 #[.int .i64 n] w fun e w'=>e = .returned (.bool (decide (0 ≤ n) && decide (n ≤ 1099511627776))) ∧ w = w':=by
 by_cases h1 : 0 ≤ n
 ·have HE : Hid ((decide (0 ≤ n) && decide (n ≤ 1099511627776)) = decide (n ≤ 1099511627776)):=Lib.hid (by rw [decide_eq_true h1]; rfl)
  have h1' : (0 ≤ n) = True:=by simp; exact h1
  go_enter Tryz.func71,Tryz.ntmps71
  go_wp2
  go_ret
  exact ⟨ret_bool HE.out.symm,rfl⟩
 ·have HE : Hid ((decide (0 ≤ n) && decide (n ≤ 1099511627776)) = false):=Lib.hid (by rw [decide_eq_false h1]; rfl)
  have h1' : (0 ≤ n) = False:=by simp; omega
  clear h1
  go_enter Tryz.func71,Tryz.ntmps71
  go_wp2
  go_ret
  exact ⟨ret_bool HE.out.symm,rfl⟩
set_option maxRecDepth 100000 in
set_option maxHeartbeats 1000000 in
theorem ref16_Value (w : World) (f : List UInt8) (a q : Nat) (ha : a < 9223372036854775808) (hq : q < 9223372036854775808) :
  Calls Tryz.prog 55 #[.agg #[.string ⟨f.toArray⟩,.int .i64 (a : Int),.int .i64 (q : Int)]] w (Ret w (.string ⟨(Ex.writA (a,q)).toArray⟩)):=by
 have HP : Hid (∀ w',Below w.heap.size w w' → Ret w (.string ⟨(Ex.writA (a,q)).toArray⟩) (Ending.returned (.string ⟨(numW a ++ numW q).toArray⟩)) w'):=Lib.hid (fun w' h2=>⟨rfl,h2⟩)
 generalize Ret w (.string ⟨(Ex.writA (a,q)).toArray⟩) = P at HP ⊢
 have HC : Hid (∀ W,Calls Tryz.prog 97 #[.int .i64 (a : Int)] W (Ret W (.string ⟨(numW a).toArray⟩))):=Lib.hid (fun W=>ref02_Number a ha W)
 have HQ : Hid (∀ W,Calls Tryz.prog 97 #[.int .i64 (q : Int)] W (Ret W (.string ⟨(numW q).toArray⟩))):=Lib.hid (fun W=>ref02_Number q hq W)
 have l1:=numW_len a (by omega)
 have l3:=numW_len q (by omega)
 clear ha hq
 generalize numW a = X at *
 generalize numW q = Z at *
 have n1 : (9223372036854775807 < X.length + Z.length) = False:=by simp; omega
 have m1 : X.length + Z.length ≤ 9223372036854775807:=by omega
 clear l1 l3
 go_enter Tryz.func55,Tryz.ntmps55
 go_upto_region 1 with fail
 have F:=Live.ha (Lib.hid (Live.start w)) #[.string ⟨f.toArray⟩,.int .i64 (a : Int),.int .i64 (q : Int)] 56
 generalize w.alloc (.cells #[.string ⟨f.toArray⟩,.int .i64 (a : Int),.int .i64 (q : Int)] 56) = W1 at F ⊢
 generalize w.heap.size = ab at F ⊢
 have k0_0 : W1.cell? ⟨ab,0,none⟩ = some (.string ⟨f.toArray⟩):=F.out.cell 0 0 rfl rfl; have k0_1 : W1.cell? ⟨ab,1,none⟩ = some (.int .i64 (a : Int)):=F.out.cell 0 1 rfl rfl; have k0_2 : W1.cell? ⟨ab,2,none⟩ = some (.int .i64 (q : Int)):=F.out.cell 0 2 rfl rfl
 go_region_held3 (fun w'=>w'.cell? ⟨ab,0,none⟩ = some (.string ⟨f.toArray⟩) ∧ w'.cell? ⟨ab,1,none⟩ = some (.int .i64 (a : Int)) ∧ w'.cell? ⟨ab,2,none⟩ = some (.int .i64 (q : Int))) (first | go_keep | (refine ⟨?_, ?_, ?_⟩ <;> assumption)) (first | (go_at_call 97; ((with_reducible refine (HC.out _).mono ?_); (rintro e w1 ⟨rfl,hb⟩; (first | have F:=Live.hb F hb | have F:=Live.hbd F hb); clear hb; have k0_0 : w1.cell? ⟨ab,0,none⟩ = some (.string ⟨f.toArray⟩):=F.out.cell 0 0 rfl rfl; have k0_1 : w1.cell? ⟨ab,1,none⟩ = some (.int .i64 (a : Int)):=F.out.cell 0 1 rfl rfl; have k0_2 : w1.cell? ⟨ab,2,none⟩ = some (.int .i64 (q : Int)):=F.out.cell 0 2 rfl rfl))) | (go_at_call 97; ((with_reducible refine (HQ.out _).mono ?_); (rintro e w1 ⟨rfl,hb⟩; (first | have F:=Live.hb F hb | have F:=Live.hbd F hb); clear hb; have k0_0 : w1.cell? ⟨ab,0,none⟩ = some (.string ⟨f.toArray⟩):=F.out.cell 0 0 rfl rfl; have k0_1 : w1.cell? ⟨ab,1,none⟩ = some (.int .i64 (a : Int)):=F.out.cell 0 1 rfl rfl; have k0_2 : w1.cell? ⟨ab,2,none⟩ = some (.int .i64 (q : Int)):=F.out.cell 0 2 rfl rfl))))
 all_goals go_wp2
 all_goals exact HP.out _ F.out.b
theorem at_getW {t : Trie.T} (h : Trie.Good t) {k : List UInt8} (hk : Trie.keyedW k = true) :
  ((Trie.atI k (Trie.itemsW t)).2 = true → ∃ hi : (Trie.atI k (Trie.itemsW t)).1 < (Trie.itemsW t).length,Trie.getW t k = ((Trie.itemsW t)[(Trie.atI k (Trie.itemsW t)).1].2,0)) ∧
  ((Trie.atI k (Trie.itemsW t)).2 = false → Trie.getW t k = ([],5)):=by
 have hr:=Trie.rget_getW h k
 unfold Trie.rget at hr
 rw [if_pos hk] at hr
 refine ⟨fun ht => ?_,fun ht => ?_⟩
 ·have hi:=(Trie.atI_le k (Trie.itemsW t)).2 ht
  refine ⟨hi, ?_⟩
  rw [if_pos ht,List.getElem?_eq_getElem hi,Option.getD_some] at hr
  exact hr.symm
 ·rw [if_neg (by rw [ht]; decide)] at hr
  exact hr.symm
set_option maxRecDepth 100000 in
set_option maxHeartbeats 2000000 in
theorem ref16_Account (w : World) (t : Trie.T) (hg : Trie.Good t) (A : Option Addr) (c : Nat) (HR : Reads w w.heap.size 2 A (Trie.itemsW t).length (icells (Trie.itemsW t))) (hl : (Trie.itemsW t).length ≤ 2000) (n : List UInt8) (hnl : n.length ≤ 9223372036854775807) :
  Calls Tryz.prog 21 #[.slice A (Trie.itemsW t).length c,.string ⟨n.toArray⟩] w (AccEnd w (accW t n)):=by
 have HP : Hid (∀ m (a q c : Nat) w',accW t n = ((m,a,q),c) → Below w.heap.size w w' → AccEnd w (accW t n) (.returned (.tuple #[.agg #[.string ⟨m.toArray⟩,.int .i64 (a : Int),.int .i64 (q : Int)],.int .i64 (c : Int)])) w'):=Lib.hid (fun m a q c w' e h=>by rw [e]; exact ⟨rfl,h⟩)
 have HX : Hid (accW t n = if Ex.nameW n then (match (if (Trie.getW t (97 :: 58 :: n)).2 = 0 then Ex.parseA (Trie.getW t (97 :: 58 :: n)).1 else some (0,0)) with | some p=>((n,p.1,p.2),0) | none=>(([],0,0),3)) else (([],0,0),1)):=Lib.hid rfl
 generalize AccEnd w (accW t n) = P at HP ⊢
 generalize accW t n = X at *
 have HN:=Lib.hid (fun W=>ref15_Name n hnl W)
 have HA:=Lib.hid (fun W (hW : Below w.heap.size w W)=>ref10_At W A c (Trie.itemsW t) ((HR.below hW).more hW.size) hl (97 :: 58 :: n))
 have hat:=fun (h6 : n.length ≤ 6)=>at_getW hg (k:=97 :: 58 :: n) (Ex.keyed_a h6)
 have hvl:=getW_len hg (97 :: 58 :: n)
 have HRR:=Lib.hid HR
 generalize Trie.itemsW t = l at *
 generalize Trie.getW t (97 :: 58 :: n) = r at *
 unfold AtIEnd at HA
 have HL:=Lib.hid hl
 clear hg hl HR hnl
 go_enter Tryz.func21,Tryz.ntmps21
 go_upto_region 1 with fail
 have F0:=Live.ha (Lib.hid (Live.start w)) #[.string ⟨#[]⟩,.int .i64 0,.int .i64 0] 56
 generalize w.alloc (.cells #[.string ⟨#[]⟩,.int .i64 0,.int .i64 0] 56) = W0 at F0 ⊢
 generalize w.heap.size = rb at F0 ⊢
 cases hn : Ex.nameW n with
 | false =>
  have HE : Hid (X = (([],0,0),1)):=Lib.hid (by rw [HX.out,hn]; rfl)
  rw [hn] at HN
  clear HX hn HA hat hvl
  go_wp2_with fail
  refine (HN.out _).mono ?_
  rintro e w1 ⟨rfl,rfl⟩
  have r0 : W0.cell? ⟨rb,0,none⟩ = some (.string ⟨#[]⟩):=F0.out.cell 0 0 rfl rfl
  have r1 : W0.cell? ⟨rb,1,none⟩ = some (.int .i64 0):=F0.out.cell 0 1 rfl rfl
  have r2 : W0.cell? ⟨rb,2,none⟩ = some (.int .i64 0):=F0.out.cell 0 2 rfl rfl
  have f0 : W0.frozen? ⟨rb,0,none⟩ = false:=F0.out.frozen 0 0 rfl
  have f1 : W0.frozen? ⟨rb,1,none⟩ = false:=F0.out.frozen 0 1 rfl
  have f2 : W0.frozen? ⟨rb,2,none⟩ = false:=F0.out.frozen 0 2 rfl
  go_wp2_with fail
  have F9 : Hid (Live w (((W0.setCell ⟨rb,0,none⟩ (.string ⟨#[]⟩)).setCell ⟨rb,1,none⟩ (.int .i64 0)).setCell ⟨rb,2,none⟩ (.int .i64 0)) [(rb,56,#[.string ⟨#[]⟩,.int .i64 0,.int .i64 0])]):=Lib.hid (((F0.out.set 0 0 _ rfl).set 0 1 _ rfl).set 0 2 _ rfl)
  generalize ((W0.setCell ⟨rb,0,none⟩ (.string ⟨#[]⟩)).setCell ⟨rb,1,none⟩ (.int .i64 0)).setCell ⟨rb,2,none⟩ (.int .i64 0) = W9 at F9 ⊢
  have s0 : W9.cell? ⟨rb,0,none⟩ = some (.string ⟨#[]⟩):=F9.out.cell 0 0 rfl rfl
  have s1 : W9.cell? ⟨rb,1,none⟩ = some (.int .i64 0):=F9.out.cell 0 1 rfl rfl
  have s2 : W9.cell? ⟨rb,2,none⟩ = some (.int .i64 0):=F9.out.cell 0 2 rfl rfl
  (try simp only [Exit.inBlock,Exit.then])
  refine bodyPost_ret (v:=.tuple #[.agg #[.string ⟨#[]⟩,.int .i64 0,.int .i64 0],.int .i64 1]) (by simp [results,Tryz.results21,go_sem,s0,s1,s2]) rfl ?_
  exact HP.out [] 0 0 1 _ HE.out F9.out.b
 | true =>
 rw [hn] at HN HX
 rw [if_pos rfl] at HX
 have hn6:=(Ex.nameW_len hn).2
 have hsum : 2 + n.length ≤ 9223372036854775807:=by omega
 have hsum2 : n.length + 2 ≤ 9223372036854775807:=by omega
 have hsum3 : n.length + 1 + 1 ≤ 9223372036854775807:=by omega
 obtain ⟨hat1,hat2⟩:=hat hn6
 have HA:=Lib.hid (HA.out _ F0.out.b)
 clear hn hn6 hat
 cases hb2 : (Trie.atI (97 :: 58 :: n) l).2 with
 | false =>
  have HE : Hid (X = ((n,0,0),0)):=Lib.hid (by rw [HX.out,hat2 hb2,if_neg (by decide)])
  rw [hb2] at HA
  generalize (Trie.atI (97 :: 58 :: n) l).1 = i at *
  clear HX hat1 hat2 hvl hb2
  go_wp2_with fail
  refine (HN.out _).mono ?_
  rintro e w1 ⟨rfl,rfl⟩
  go_wp2_with fail
  refine HA.out.mono ?_
  rintro e w2 ⟨rfl,hb⟩
  have F2:=Live.hb F0 hb
  clear hb F0 HN HA
  have r0 : w2.cell? ⟨rb,0,none⟩ = some (.string ⟨#[]⟩):=F2.out.cell 0 0 rfl rfl
  have r1 : w2.cell? ⟨rb,1,none⟩ = some (.int .i64 0):=F2.out.cell 0 1 rfl rfl
  have r2 : w2.cell? ⟨rb,2,none⟩ = some (.int .i64 0):=F2.out.cell 0 2 rfl rfl
  have f0 : w2.frozen? ⟨rb,0,none⟩ = false:=F2.out.frozen 0 0 rfl
  have f1 : w2.frozen? ⟨rb,1,none⟩ = false:=F2.out.frozen 0 1 rfl
  have f2 : w2.frozen? ⟨rb,2,none⟩ = false:=F2.out.frozen 0 2 rfl
  go_wp2_with fail
  have F9 : Hid (Live w (((w2.setCell ⟨rb,0,none⟩ (.string ⟨n.toArray⟩)).setCell ⟨rb,1,none⟩ (.int .i64 0)).setCell ⟨rb,2,none⟩ (.int .i64 0)) [(rb,56,#[.string ⟨n.toArray⟩,.int .i64 0,.int .i64 0])]):=Lib.hid (((F2.out.set 0 0 _ rfl).set 0 1 _ rfl).set 0 2 _ rfl)
  generalize ((w2.setCell ⟨rb,0,none⟩ (.string ⟨n.toArray⟩)).setCell ⟨rb,1,none⟩ (.int .i64 0)).setCell ⟨rb,2,none⟩ (.int .i64 0) = W9 at F9 ⊢
  have s0 : W9.cell? ⟨rb,0,none⟩ = some (.string ⟨n.toArray⟩):=F9.out.cell 0 0 rfl rfl
  have s1 : W9.cell? ⟨rb,1,none⟩ = some (.int .i64 0):=F9.out.cell 0 1 rfl rfl
  have s2 : W9.cell? ⟨rb,2,none⟩ = some (.int .i64 0):=F9.out.cell 0 2 rfl rfl
  (try simp only [Exit.inBlock,Exit.then])
  refine bodyPost_ret (v:=.tuple #[.agg #[.string ⟨n.toArray⟩,.int .i64 0,.int .i64 0],.int .i64 0]) (by simp [results,Tryz.results21,go_sem,s0,s1,s2]) rfl ?_
  exact HP.out n 0 0 0 _ HE.out F9.out.b
 | true =>
 obtain ⟨hi,hrv⟩:=hat1 hb2
 rw [hb2] at HA
 clear hat1 hat2 hb2
 generalize (Trie.atI (97 :: 58 :: n) l).1 = i at *
 obtain ⟨ad,off,rfl,hbl,hcell⟩:=item_cells HRR.out hi
 have hi1 : (i : Int) < l.length:=by omega
 have hi0 : (0 : Int) ≤ i:=by omega
 rw [hrv] at HX hvl
 rw [if_pos rfl] at HX
 have HC:=Lib.hid hcell
 have HV:=Lib.hid hvl
 clear hcell hvl hrv
 generalize l[i] = x at *
 obtain ⟨xk,vl⟩:=x
 simp only at HX HV HC
 go_wp2_with fail
 refine (HN.out _).mono ?_
 rintro e w1 ⟨rfl,rfl⟩
 go_wp2_with fail
 refine HA.out.mono ?_
 rintro e w2 ⟨rfl,hb⟩
 have F2:=Live.hb F0 hb
 clear hb F0 HN HA
 obtain ⟨q0,q1⟩:=HC.out _ F2.out.b
 go_upto_region 7 with fail
 obtain ⟨R,hR⟩ : ∃ R,w2.heap.size = R:=⟨_,rfl⟩
 have D3 : Hid (RRd (w2.alloc (.cells #[.string ⟨vl.toArray⟩,.int .i64 0] 133)) R (vl,0) ∧ w.heap.size ≤ R ∧ rb ≠ R):=Lib.hid (by
  subst hR
  exact ⟨⟨Blk.new _ _ _,by have:=HV.out; simp only at this ⊢; omega⟩,F2.out.b.size,fun e=>by have:=F2.out.lt 0 rfl; omega⟩)
 have F3 : Hid (Live w (w2.alloc (.cells #[.string ⟨vl.toArray⟩,.int .i64 0] 133)) [(rb,56,#[.string ⟨#[]⟩,.int .i64 0,.int .i64 0])]):=Live.hb F2 ((Below.refl _ w2).alloc (Nat.le_refl _) _)
 rw [hR]
 generalize w2.alloc (.cells #[.string ⟨vl.toArray⟩,.int .i64 0] 133) = W3 at D3 F3 ⊢
 clear hR F2 q0 q1
 obtain ⟨a,s1,hA⟩ : ∃ a s1,numS (vl,0) = (a,s1):=⟨_,_,rfl⟩
 obtain ⟨q,s2,hQ⟩ : ∃ q s2,numS s1 = (q,s2):=⟨_,_,rfl⟩
 have HX2 : Hid (X = match (if endS s2 = 0 ∧ a ≤ Ex.maxA ∧ q ≤ Ex.maxA then some (a,q) else none) with | some p=>((n,p.1,p.2),0) | none=>(([],0,0),3)):=Lib.hid (by
  rw [HX.out]
  unfold Ex.parseA
  rw [hA]
  simp only
  rw [hQ])
 have HA:=Lib.hid hA
 have HQ:=Lib.hid hQ
 clear hA hQ HX
 go_wp2_with fail
 refine (ref02_Num _ R _ D3.out.1).mono ?_
 rw [HA.out]
 rintro e w4 ⟨rfl,hd,hg⟩
 have D4 : Hid (RRd w4 R s1 ∧ w.heap.size ≤ R ∧ rb ≠ R):=Lib.hid ⟨hd,D3.out.2⟩
 have F4:=Lib.hid (F3.out.apart hg (fun k e=>by injection e with e; subst e; exact ⟨D3.out.2.1,by intro x hx; rw [List.mem_singleton] at hx; subst hx; exact D3.out.2.2⟩))
 clear hd hg D3 F3 HA
 go_wp2_with fail
 refine (ref02_Num _ R _ D4.out.1).mono ?_
 rw [HQ.out]
 rintro e w5 ⟨rfl,hd,hg⟩
 have D5 : Hid (RRd w5 R s2 ∧ w.heap.size ≤ R ∧ rb ≠ R):=Lib.hid ⟨hd,D4.out.2⟩
 have F5:=Lib.hid (F4.out.apart hg (fun k e=>by injection e with e; subst e; exact ⟨D4.out.2.1,by intro x hx; rw [List.mem_singleton] at hx; subst hx; exact D4.out.2.2⟩))
 clear hd hg D4 F4 HQ
 go_wp2_with fail
 refine (ref02_REnd _ R _ D5.out.1).mono ?_
 rintro e w7 ⟨rfl,hd,hg⟩
 have F8:=Lib.hid (F5.out.apart hg (fun k e=>by injection e with e; subst e; exact ⟨D5.out.2.1,by intro x hx; rw [List.mem_singleton] at hx; subst hx; exact D5.out.2.2⟩))
 clear hd hg D5 F5
 generalize endS s2 = ec at *
 by_cases he : ec = 0
 rotate_left
 ·have hc1 : ((ec : Int) != 0) = true:=by simp; exact he
  have HE : Hid (X = (([],0,0),3)):=Lib.hid (by rw [HX2.out,if_neg (fun e=>he e.1)])
  clear HX2 he
  have r0 : w7.cell? ⟨rb,0,none⟩ = some (.string ⟨#[]⟩):=F8.out.cell 0 0 rfl rfl
  have r1 : w7.cell? ⟨rb,1,none⟩ = some (.int .i64 0):=F8.out.cell 0 1 rfl rfl
  have r2 : w7.cell? ⟨rb,2,none⟩ = some (.int .i64 0):=F8.out.cell 0 2 rfl rfl
  have f0 : w7.frozen? ⟨rb,0,none⟩ = false:=F8.out.frozen 0 0 rfl
  have f1 : w7.frozen? ⟨rb,1,none⟩ = false:=F8.out.frozen 0 1 rfl
  have f2 : w7.frozen? ⟨rb,2,none⟩ = false:=F8.out.frozen 0 2 rfl
  go_wp2_with fail
  have F9 : Hid (Live w (((w7.setCell ⟨rb,0,none⟩ (.string ⟨#[]⟩)).setCell ⟨rb,1,none⟩ (.int .i64 0)).setCell ⟨rb,2,none⟩ (.int .i64 0)) [(rb,56,#[.string ⟨#[]⟩,.int .i64 0,.int .i64 0])]):=Lib.hid (((F8.out.set 0 0 _ rfl).set 0 1 _ rfl).set 0 2 _ rfl)
  generalize ((w7.setCell ⟨rb,0,none⟩ (.string ⟨#[]⟩)).setCell ⟨rb,1,none⟩ (.int .i64 0)).setCell ⟨rb,2,none⟩ (.int .i64 0) = W9 at F9 ⊢
  have s0 : W9.cell? ⟨rb,0,none⟩ = some (.string ⟨#[]⟩):=F9.out.cell 0 0 rfl rfl
  have s1 : W9.cell? ⟨rb,1,none⟩ = some (.int .i64 0):=F9.out.cell 0 1 rfl rfl
  have s2 : W9.cell? ⟨rb,2,none⟩ = some (.int .i64 0):=F9.out.cell 0 2 rfl rfl
  (try simp only [Exit.inBlock,Exit.then])
  refine bodyPost_ret (v:=.tuple #[.agg #[.string ⟨#[]⟩,.int .i64 0,.int .i64 0],.int .i64 3]) (by simp [results,Tryz.results21,go_sem,s0,s1,s2]) rfl ?_
  exact HP.out [] 0 0 3 _ HE.out F9.out.b
 subst he
 have WA:=Lib.hid (ref16_within (a : Int) w7)
 have WQ:=Lib.hid (ref16_within (q : Int) w7)
 rw [decide_eq_true (show (0 : Int) ≤ (a : Int) by omega),Bool.true_and] at WA
 rw [decide_eq_true (show (0 : Int) ≤ (q : Int) by omega),Bool.true_and] at WQ
 by_cases ha : a ≤ Ex.maxA
 rotate_left
 ·have HE : Hid (X = (([],0,0),3)):=Lib.hid (by rw [HX2.out,if_neg (fun e=>ha e.2.1)])
  rw [decide_eq_false (show ¬ (a : Int) ≤ 1099511627776 by unfold Ex.maxA at ha; omega)] at WA
  clear HX2 ha
  go_wp2_with fail
  refine WA.out.mono ?_
  rintro e w8 ⟨rfl,rfl⟩
  have r0 : w7.cell? ⟨rb,0,none⟩ = some (.string ⟨#[]⟩):=F8.out.cell 0 0 rfl rfl
  have r1 : w7.cell? ⟨rb,1,none⟩ = some (.int .i64 0):=F8.out.cell 0 1 rfl rfl
  have r2 : w7.cell? ⟨rb,2,none⟩ = some (.int .i64 0):=F8.out.cell 0 2 rfl rfl
  have f0 : w7.frozen? ⟨rb,0,none⟩ = false:=F8.out.frozen 0 0 rfl
  have f1 : w7.frozen? ⟨rb,1,none⟩ = false:=F8.out.frozen 0 1 rfl
  have f2 : w7.frozen? ⟨rb,2,none⟩ = false:=F8.out.frozen 0 2 rfl
  go_wp2_with fail
  have F9 : Hid (Live w (((w7.setCell ⟨rb,0,none⟩ (.string ⟨#[]⟩)).setCell ⟨rb,1,none⟩ (.int .i64 0)).setCell ⟨rb,2,none⟩ (.int .i64 0)) [(rb,56,#[.string ⟨#[]⟩,.int .i64 0,.int .i64 0])]):=Lib.hid (((F8.out.set 0 0 _ rfl).set 0 1 _ rfl).set 0 2 _ rfl)
  generalize ((w7.setCell ⟨rb,0,none⟩ (.string ⟨#[]⟩)).setCell ⟨rb,1,none⟩ (.int .i64 0)).setCell ⟨rb,2,none⟩ (.int .i64 0) = W9 at F9 ⊢
  have s0 : W9.cell? ⟨rb,0,none⟩ = some (.string ⟨#[]⟩):=F9.out.cell 0 0 rfl rfl
  have s1 : W9.cell? ⟨rb,1,none⟩ = some (.int .i64 0):=F9.out.cell 0 1 rfl rfl
  have s2 : W9.cell? ⟨rb,2,none⟩ = some (.int .i64 0):=F9.out.cell 0 2 rfl rfl
  (try simp only [Exit.inBlock,Exit.then])
  refine bodyPost_ret (v:=.tuple #[.agg #[.string ⟨#[]⟩,.int .i64 0,.int .i64 0],.int .i64 3]) (by simp [results,Tryz.results21,go_sem,s0,s1,s2]) rfl ?_
  exact HP.out [] 0 0 3 _ HE.out F9.out.b
 rw [decide_eq_true (show (a : Int) ≤ 1099511627776 by unfold Ex.maxA at ha; omega)] at WA
 by_cases hq : q ≤ Ex.maxA
 rotate_left
 ·have HE : Hid (X = (([],0,0),3)):=Lib.hid (by rw [HX2.out,if_neg (fun e=>hq e.2.2)])
  rw [decide_eq_false (show ¬ (q : Int) ≤ 1099511627776 by unfold Ex.maxA at hq; omega)] at WQ
  clear HX2 ha hq
  go_wp2_with fail
  refine WA.out.mono ?_
  rintro e w8 ⟨rfl,rfl⟩
  go_wp2_with fail
  refine WQ.out.mono ?_
  rintro e w8 ⟨rfl,rfl⟩
  have r0 : w7.cell? ⟨rb,0,none⟩ = some (.string ⟨#[]⟩):=F8.out.cell 0 0 rfl rfl
  have r1 : w7.cell? ⟨rb,1,none⟩ = some (.int .i64 0):=F8.out.cell 0 1 rfl rfl
  have r2 : w7.cell? ⟨rb,2,none⟩ = some (.int .i64 0):=F8.out.cell 0 2 rfl rfl
  have f0 : w7.frozen? ⟨rb,0,none⟩ = false:=F8.out.frozen 0 0 rfl
  have f1 : w7.frozen? ⟨rb,1,none⟩ = false:=F8.out.frozen 0 1 rfl
  have f2 : w7.frozen? ⟨rb,2,none⟩ = false:=F8.out.frozen 0 2 rfl
  go_wp2_with fail
  have F9 : Hid (Live w (((w7.setCell ⟨rb,0,none⟩ (.string ⟨#[]⟩)).setCell ⟨rb,1,none⟩ (.int .i64 0)).setCell ⟨rb,2,none⟩ (.int .i64 0)) [(rb,56,#[.string ⟨#[]⟩,.int .i64 0,.int .i64 0])]):=Lib.hid (((F8.out.set 0 0 _ rfl).set 0 1 _ rfl).set 0 2 _ rfl)
  generalize ((w7.setCell ⟨rb,0,none⟩ (.string ⟨#[]⟩)).setCell ⟨rb,1,none⟩ (.int .i64 0)).setCell ⟨rb,2,none⟩ (.int .i64 0) = W9 at F9 ⊢
  have s0 : W9.cell? ⟨rb,0,none⟩ = some (.string ⟨#[]⟩):=F9.out.cell 0 0 rfl rfl
  have s1 : W9.cell? ⟨rb,1,none⟩ = some (.int .i64 0):=F9.out.cell 0 1 rfl rfl
  have s2 : W9.cell? ⟨rb,2,none⟩ = some (.int .i64 0):=F9.out.cell 0 2 rfl rfl
  (try simp only [Exit.inBlock,Exit.then])
  refine bodyPost_ret (v:=.tuple #[.agg #[.string ⟨#[]⟩,.int .i64 0,.int .i64 0],.int .i64 3]) (by simp [results,Tryz.results21,go_sem,s0,s1,s2]) rfl ?_
  exact HP.out [] 0 0 3 _ HE.out F9.out.b
 have HE : Hid (X = ((n,a,q),0)):=Lib.hid (by rw [HX2.out,if_pos ⟨rfl,ha,hq⟩])
 rw [decide_eq_true (show (q : Int) ≤ 1099511627776 by unfold Ex.maxA at hq; omega)] at WQ
 clear HX2 ha hq
 go_wp2_with fail
 refine WA.out.mono ?_
 rintro e w8 ⟨rfl,rfl⟩
 go_wp2_with fail
 refine WQ.out.mono ?_
 rintro e w8 ⟨rfl,rfl⟩
 have r0 : w7.cell? ⟨rb,0,none⟩ = some (.string ⟨#[]⟩):=F8.out.cell 0 0 rfl rfl
 have r1 : w7.cell? ⟨rb,1,none⟩ = some (.int .i64 0):=F8.out.cell 0 1 rfl rfl
 have r2 : w7.cell? ⟨rb,2,none⟩ = some (.int .i64 0):=F8.out.cell 0 2 rfl rfl
 have f0 : w7.frozen? ⟨rb,0,none⟩ = false:=F8.out.frozen 0 0 rfl
 have f1 : w7.frozen? ⟨rb,1,none⟩ = false:=F8.out.frozen 0 1 rfl
 have f2 : w7.frozen? ⟨rb,2,none⟩ = false:=F8.out.frozen 0 2 rfl
 go_wp2_with fail
 have F9 : Hid (Live w (((w7.setCell ⟨rb,0,none⟩ (.string ⟨n.toArray⟩)).setCell ⟨rb,1,none⟩ (.int .i64 (a : Int))).setCell ⟨rb,2,none⟩ (.int .i64 (q : Int))) [(rb,56,#[.string ⟨n.toArray⟩,.int .i64 (a : Int),.int .i64 (q : Int)])]):=Lib.hid (((F8.out.set 0 0 _ rfl).set 0 1 _ rfl).set 0 2 _ rfl)
 generalize ((w7.setCell ⟨rb,0,none⟩ (.string ⟨n.toArray⟩)).setCell ⟨rb,1,none⟩ (.int .i64 (a : Int))).setCell ⟨rb,2,none⟩ (.int .i64 (q : Int)) = W9 at F9 ⊢
 have s0 : W9.cell? ⟨rb,0,none⟩ = some (.string ⟨n.toArray⟩):=F9.out.cell 0 0 rfl rfl
 have s1 : W9.cell? ⟨rb,1,none⟩ = some (.int .i64 (a : Int)):=F9.out.cell 0 1 rfl rfl
 have s2 : W9.cell? ⟨rb,2,none⟩ = some (.int .i64 (q : Int)):=F9.out.cell 0 2 rfl rfl
 (try simp only [Exit.inBlock,Exit.then])
 refine bodyPost_ret (v:=.tuple #[.agg #[.string ⟨n.toArray⟩,.int .i64 (a : Int),.int .i64 (q : Int)],.int .i64 0]) (by simp [results,Tryz.results21,go_sem,s0,s1,s2]) rfl ?_
 exact HP.out n a q 0 _ HE.out F9.out.b
end Go.Proofs.YtomnlhbioijfhaaGreatDoor
