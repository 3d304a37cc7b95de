import Derived.Test.YtomnlhbioijfhaaGreatDoorJ20
import Derived.Test.YtomnlhbioijfhaaGreatDoorJ11
import Derived.Test.YtomnlhbioijfhaaGreatDoorJ14
set_option linter.unusedSimpArgs false
set_option linter.unusedVariables false
namespace Go.Proofs.YtomnlhbioijfhaaGreatDoor
open Go.RowKit Go.Instr
attribute [local go_sem] ba_get ByteArray.mk_append_mk
theorem nameW_eq (s : List UInt8) : Ex.nameW s = (!s.isEmpty && decide (s.length ≤ 6)):=by
 unfold Ex.nameW
 cases s <;> simp
theorem exec_name (s : List UInt8) (hl : s.length ≤ 9223372036854775807) (w : World) :
  Calls Tryz.prog 61 #[.string ⟨s.toArray⟩] w fun e w'=>e = .returned (.bool (Ex.nameW s)) ∧ w = w':=by
 have HP : Hid (∀ b w',Ex.nameW s = b → w = w' → (fun e w'=>e = Ending.returned (.bool (Ex.nameW s)) ∧ w = w') (Ending.returned (.bool b)) w'):=Lib.hid (fun b w' h1 h2=>⟨by rw [h1],h2⟩)
 generalize (fun e w'=>e = Ending.returned (.bool (Ex.nameW s)) ∧ w = w') = P at HP ⊢
 by_cases h0 : s = []
 ·subst h0
  go_enter Tryz.func61,Tryz.ntmps61
  go_wp2
  exact HP.out _ _ rfl rfl
 ·have ne1 : (s.toArray = #[]) = False:=by simp [h0]
  have ne2 : s.isEmpty = false:=by cases s <;> simp_all
  by_cases h8 : s.length ≤ 6
  ·have h8' : (s.length : Int) ≤ 6:=by omega
   go_enter Tryz.func61,Tryz.ntmps61
   go_wp2
   exact HP.out _ _ (by simp [nameW_eq,ne2,h8]) rfl
  ·have h8' : ((s.length : Int) ≤ 6) = False:=by simp; omega
   go_enter Tryz.func61,Tryz.ntmps61
   go_wp2
   exact HP.out _ _ (by simp [nameW_eq,ne2,h8]) rfl
theorem tx_name (s : List UInt8) (hl : s.length ≤ 9223372036854775807) (w : World) :
  Calls Tryz.prog 106 #[.string ⟨s.toArray⟩] w fun e w'=>e = .returned (.bool (Ex.nameW s)) ∧ w = w':=by
 have HP : Hid (∀ b w',Ex.nameW s = b → w = w' → (fun e w'=>e = Ending.returned (.bool (Ex.nameW s)) ∧ w = w') (Ending.returned (.bool b)) w'):=Lib.hid (fun b w' h1 h2=>⟨by rw [h1],h2⟩)
 generalize (fun e w'=>e = Ending.returned (.bool (Ex.nameW s)) ∧ w = w') = P at HP ⊢
 by_cases h0 : s = []
 ·subst h0
  go_enter Tryz.func106,Tryz.ntmps106
  go_wp2
  exact HP.out _ _ rfl rfl
 ·have ne1 : (s.toArray = #[]) = False:=by simp [h0]
  have ne2 : s.isEmpty = false:=by cases s <;> simp_all
  by_cases h8 : s.length ≤ 6
  ·have h8' : (s.length : Int) ≤ 6:=by omega
   go_enter Tryz.func106,Tryz.ntmps106
   go_wp2
   exact HP.out _ _ (by simp [nameW_eq,ne2,h8]) rfl
  ·have h8' : ((s.length : Int) ≤ 6) = False:=by simp; omega
   go_enter Tryz.func106,Tryz.ntmps106
   go_wp2
   exact HP.out _ _ (by simp [nameW_eq,ne2,h8]) rfl
theorem exec_within (n : Int) (w : World) :
  Calls Tryz.prog 66 #[.int .i64 n] w fun e w'=>e = .returned (.bool (decide (0 ≤ n) && decide (n ≤ 1099511627776))) ∧ w = w':=by
 have HP : Hid (∀ b w',(decide (0 ≤ n) && decide (n ≤ 1099511627776)) = b → w = w' → (fun e w'=>e = Ending.returned (.bool (decide (0 ≤ n) && decide (n ≤ 1099511627776))) ∧ w = w') (Ending.returned (.bool b)) w'):=Lib.hid (fun b w' h1 h2=>⟨by rw [h1],h2⟩)
 generalize (fun e w'=>e = Ending.returned (.bool (decide (0 ≤ n) && decide (n ≤ 1099511627776))) ∧ w = w') = P at HP ⊢
 by_cases h0 : 0 ≤ n
 ·have h0' : (0 ≤ n) = True:=by simp [h0]
  by_cases h8 : n ≤ 1099511627776
  ·have h8' : (n ≤ 1099511627776) = True:=by simp [h8]
   go_enter Tryz.func66,Tryz.ntmps66
   go_wp2
   exact HP.out _ _ (by simp [h0,h8]) rfl
  ·have h8' : (n ≤ 1099511627776) = False:=by simp; omega
   go_enter Tryz.func66,Tryz.ntmps66
   go_wp2
   exact HP.out _ _ (by simp [h0]; omega) rfl
 ·have h0' : (0 ≤ n) = False:=by simp; omega
  go_enter Tryz.func66,Tryz.ntmps66
  go_wp2
  exact HP.out _ _ (by simp; omega) rfl
set_option maxRecDepth 100000 in
theorem exec_written (n : List UInt8) (a q : Nat) (ha : a ≤ 4000000000000) (hq : q ≤ 4000000000000) (w : World) :
  Calls Tryz.prog 88 #[.agg #[.string ⟨n.toArray⟩,.int .i64 (a : Int),.int .i64 (q : Int)]] w (Ret w (.string ⟨(Ex.writA (a,q)).toArray⟩)):=by
 have HP : Hid (∀ w',Below w.heap.size w w' → Ret w (.string ⟨(Ex.writA (a,q)).toArray⟩) (.returned (.string ⟨(numW a ++ numW q).toArray⟩)) w'):=Lib.hid (fun w' h=>⟨rfl,h⟩)
 generalize Ret w (.string ⟨(Ex.writA (a,q)).toArray⟩) = P at HP ⊢
 have HA:=Lib.hid (fun W=>code_Num a (by omega) W)
 have HQ:=Lib.hid (fun W=>code_Num q (by omega) W)
 have l1:=numW_len a (by omega)
 have l2:=numW_len q (by omega)
 have HLn:=Lib.hid (And.intro l1 l2)
 clear ha hq l1 l2
 go_enter Tryz.func88,Tryz.ntmps88
 go_upto_region 1 with fail
 have F0:=Live.ha (Lib.hid (Live.start w)) #[.string ⟨n.toArray⟩,.int .i64 (a : Int),.int .i64 (q : Int)] 56
 generalize w.alloc (.cells #[.string ⟨n.toArray⟩,.int .i64 (a : Int),.int .i64 (q : Int)] 56) = W0 at F0 ⊢
 generalize w.heap.size = ab at F0 ⊢
 have k0_0 : W0.cell? ⟨ab,0,none⟩ = some (.string ⟨n.toArray⟩):=F0.out.cell 0 0 rfl rfl; have k0_1 : W0.cell? ⟨ab,1,none⟩ = some (.int .i64 (a : Int)):=F0.out.cell 0 1 rfl rfl; have k0_2 : W0.cell? ⟨ab,2,none⟩ = some (.int .i64 (q : Int)):=F0.out.cell 0 2 rfl rfl
 go_wp2_with fail
 refine (HA.out _).mono ?_
 rintro e w1 ⟨rfl,hb⟩
 have F1:=Live.hb F0 hb
 clear hb F0 k0_0 k0_1 k0_2 HA
 have k0_0 : w1.cell? ⟨ab,0,none⟩ = some (.string ⟨n.toArray⟩):=F1.out.cell 0 0 rfl rfl; have k0_1 : w1.cell? ⟨ab,1,none⟩ = some (.int .i64 (a : Int)):=F1.out.cell 0 1 rfl rfl; have k0_2 : w1.cell? ⟨ab,2,none⟩ = some (.int .i64 (q : Int)):=F1.out.cell 0 2 rfl rfl
 go_wp2_with fail
 refine (HQ.out _).mono ?_
 rintro e w2 ⟨rfl,hb⟩
 have F2:=Live.hb F1 hb
 clear hb F1 k0_0 k0_1 k0_2 HQ
 obtain ⟨l1,l2⟩:=HLn.out
 generalize numW a = X at *
 generalize numW q = Y at *
 have m1 : X.length + Y.length ≤ 9223372036854775807:=by omega
 clear l1 l2
 go_wp2
 exact HP.out _ F2.out.b
end Go.Proofs.YtomnlhbioijfhaaGreatDoor
namespace Go.Proofs.YtomnlhbioijfhaaGreatDoor
open Go.RowKit Go.Instr
attribute [local go_sem] ba_get ByteArray.mk_append_mk
attribute [local go_sem ↓] Go.wp_at_zero Go.wp_at_succ
theorem Rdr.lower {w w' : World} {B g : Nat} {s : List UInt8 × Nat} (h : Rdr w g s) (hb : Below B w w') (hg : g < B) : Rdr w' g s:=by
 obtain ⟨all,a,h1,h2⟩:=h
 exact ⟨all,a,Blk.below h1 hb hg,h2⟩
def accW (t : Trie.T) (n : List UInt8) : (List UInt8 × Nat × Nat) × Nat :=
 if Ex.nameW n then (match Ex.acc t n with | some p=>((n,p.1,p.2),0) | none=>(([],0,0),3)) else (([],0,0),1)
def AccEnd (w : World) (r : (List UInt8 × Nat × Nat) × Nat) (e : Ending) (w' : World) : Prop :=
 e = .returned (.tuple #[.agg #[.string ⟨r.1.1.toArray⟩,.int .i64 (r.1.2.1 : Int),.int .i64 (r.1.2.2 : Int)],.int .i64 (r.2 : Int)]) ∧ Below w.heap.size w w'
theorem look_len {t : Trie.T} (h : Trie.Good t) (k : List UInt8) : (Trie.look t (Nib.of k)).length ≤ 32:=by
 by_cases e : Trie.look t (Nib.of k) = []
 ·rw [e]; simp
 ·exact (h.small _ (Nib.fit_of k) e).2
theorem getW_len {t : Trie.T} (h : Trie.Good t) (k : List UInt8) : (Trie.getW t k).1.length ≤ 32:=by
 unfold Trie.getW
 split
 ·split
  ·simp
  ·exact look_len h k
 ·simp
set_option maxRecDepth 100000 in
set_option maxHeartbeats 2000000 in
theorem exec_Account (w : World) (t : Trie.T) (v : Value) (h : TrieP w t v) (n : List UInt8) (hl : n.length ≤ 9223372036854775807) :
  Calls Tryz.prog 20 #[v,.string ⟨n.toArray⟩] w (AccEnd w (accW t n)):=by
 have HP : Hid (∀ m (a q c : Nat) w',accW t n = ((m,a,q),c) → Below w.heap.size w w' → AccEnd w (accW t n) (.returned (.tuple #[.agg #[.string ⟨m.toArray⟩,.int .i64 (a : Int),.int .i64 (q : Int)],.int .i64 (c : Int)])) w'):=Lib.hid (fun m a q c w' e h=>by rw [e]; exact ⟨rfl,h⟩)
 have HX : Hid (accW t n = if Ex.nameW n then (match (if (Trie.getW t (97 :: 58 :: n)).2 = 0 then Ex.parseA (Trie.getW t (97 :: 58 :: n)).1 else some (0,0)) with | some p=>((n,p.1,p.2),0) | none=>(([],0,0),3)) else (([],0,0),1)):=Lib.hid rfl
 generalize AccEnd w (accW t n) = P at HP ⊢
 generalize accW t n = X at *
 have HN:=Lib.hid (fun W=>exec_name n (by omega) W)
 have HGt:=Lib.hid (fun W (h6 : n.length ≤ 6) (hW : Below w.heap.size w W)=>trie_Get W t v (h.next hW) (97 :: 58 :: n) (by simp only [List.length_cons]; omega))
 have hvl:=getW_len h.1 (97 :: 58 :: n)
 generalize Trie.getW t (97 :: 58 :: n) = r at *
 obtain ⟨vl,cd⟩:=r
 simp only at HX hvl
 unfold TGetEnd at HGt
 simp only at HGt
 clear h hl
 go_enter Tryz.func20,Tryz.ntmps20
 go_upto_region 1 with fail
 have F0:=Live.ha (Lib.hid (Live.start w)) #[.string ⟨#[]⟩,.int .i64 0,.int .i64 0] 56
 generalize w.alloc (.cells #[.string ⟨#[]⟩,.int .i64 0,.int .i64 0] 56) = W0 at F0 ⊢
 generalize w.heap.size = rb at F0 ⊢
 cases hn : Ex.nameW n with
 | false =>
  have HE : Hid (X = (([],0,0),1)):=Lib.hid (by rw [HX.out,hn]; rfl)
  rw [hn] at HN
  clear HX hn
  go_wp2_with fail
  refine (HN.out _).mono ?_
  rintro e w1 ⟨rfl,rfl⟩
  have r0 : W0.cell? ⟨rb,0,none⟩ = some (.string ⟨#[]⟩):=F0.out.cell 0 0 rfl rfl
  have r1 : W0.cell? ⟨rb,1,none⟩ = some (.int .i64 0):=F0.out.cell 0 1 rfl rfl
  have r2 : W0.cell? ⟨rb,2,none⟩ = some (.int .i64 0):=F0.out.cell 0 2 rfl rfl
  have f0 : W0.frozen? ⟨rb,0,none⟩ = false:=F0.out.frozen 0 0 rfl
  have f1 : W0.frozen? ⟨rb,1,none⟩ = false:=F0.out.frozen 0 1 rfl
  have f2 : W0.frozen? ⟨rb,2,none⟩ = false:=F0.out.frozen 0 2 rfl
  go_wp2_with fail
  have F9 : Hid (Live w (((W0.setCell ⟨rb,0,none⟩ (.string ⟨#[]⟩)).setCell ⟨rb,1,none⟩ (.int .i64 0)).setCell ⟨rb,2,none⟩ (.int .i64 0)) [(rb,56,#[.string ⟨#[]⟩,.int .i64 0,.int .i64 0])]):=Lib.hid (((F0.out.set 0 0 _ rfl).set 0 1 _ rfl).set 0 2 _ rfl)
  generalize ((W0.setCell ⟨rb,0,none⟩ (.string ⟨#[]⟩)).setCell ⟨rb,1,none⟩ (.int .i64 0)).setCell ⟨rb,2,none⟩ (.int .i64 0) = W9 at F9 ⊢
  have s0 : W9.cell? ⟨rb,0,none⟩ = some (.string ⟨#[]⟩):=F9.out.cell 0 0 rfl rfl
  have s1 : W9.cell? ⟨rb,1,none⟩ = some (.int .i64 0):=F9.out.cell 0 1 rfl rfl
  have s2 : W9.cell? ⟨rb,2,none⟩ = some (.int .i64 0):=F9.out.cell 0 2 rfl rfl
  (try simp only [Exit.inBlock,Exit.then])
  refine bodyPost_ret (v:=.tuple #[.agg #[.string ⟨#[]⟩,.int .i64 0,.int .i64 0],.int .i64 1]) (by simp [results,Tryz.results20,go_sem,s0,s1,s2]) rfl ?_
  exact HP.out [] 0 0 1 _ HE.out F9.out.b
 | true =>
 rw [hn] at HN HX
 rw [if_pos rfl] at HX
 have hn6:=(Ex.nameW_len hn).2
 have HN6:=Lib.hid hn6
 have hsum : 2 + n.length ≤ 9223372036854775807:=by omega
 have hsum2 : n.length + 2 ≤ 9223372036854775807:=by omega
 have hsum3 : n.length + 1 + 1 ≤ 9223372036854775807:=by omega
 clear hn hn6
 go_wp2_with fail
 refine (HN.out _).mono ?_
 rintro e w1 ⟨rfl,rfl⟩
 go_wp2_with fail
 refine (HGt.out _ HN6.out F0.out.b).mono ?_
 rintro e w2 ⟨rfl,hb⟩
 have F2:=Live.hb F0 hb
 clear hb F0 HN HGt
 by_cases hc : cd = 0
 rotate_left
 ·have hc1 : ((cd : Int) != 0) = true:=by simp; exact hc
  have HE : Hid (X = ((n,0,0),0)):=Lib.hid (by rw [HX.out,if_neg hc])
  clear HX hc
  have r0 : w2.cell? ⟨rb,0,none⟩ = some (.string ⟨#[]⟩):=F2.out.cell 0 0 rfl rfl
  have r1 : w2.cell? ⟨rb,1,none⟩ = some (.int .i64 0):=F2.out.cell 0 1 rfl rfl
  have r2 : w2.cell? ⟨rb,2,none⟩ = some (.int .i64 0):=F2.out.cell 0 2 rfl rfl
  have f0 : w2.frozen? ⟨rb,0,none⟩ = false:=F2.out.frozen 0 0 rfl
  have f1 : w2.frozen? ⟨rb,1,none⟩ = false:=F2.out.frozen 0 1 rfl
  have f2 : w2.frozen? ⟨rb,2,none⟩ = false:=F2.out.frozen 0 2 rfl
  go_wp2_with fail
  have F9 : Hid (Live w (((w2.setCell ⟨rb,0,none⟩ (.string ⟨n.toArray⟩)).setCell ⟨rb,1,none⟩ (.int .i64 0)).setCell ⟨rb,2,none⟩ (.int .i64 0)) [(rb,56,#[.string ⟨n.toArray⟩,.int .i64 0,.int .i64 0])]):=Lib.hid (((F2.out.set 0 0 _ rfl).set 0 1 _ rfl).set 0 2 _ rfl)
  generalize ((w2.setCell ⟨rb,0,none⟩ (.string ⟨n.toArray⟩)).setCell ⟨rb,1,none⟩ (.int .i64 0)).setCell ⟨rb,2,none⟩ (.int .i64 0) = W9 at F9 ⊢
  have s0 : W9.cell? ⟨rb,0,none⟩ = some (.string ⟨n.toArray⟩):=F9.out.cell 0 0 rfl rfl
  have s1 : W9.cell? ⟨rb,1,none⟩ = some (.int .i64 0):=F9.out.cell 0 1 rfl rfl
  have s2 : W9.cell? ⟨rb,2,none⟩ = some (.int .i64 0):=F9.out.cell 0 2 rfl rfl
  (try simp only [Exit.inBlock,Exit.then])
  refine bodyPost_ret (v:=.tuple #[.agg #[.string ⟨n.toArray⟩,.int .i64 0,.int .i64 0],.int .i64 0]) (by simp [results,Tryz.results20,go_sem,s0,s1,s2]) rfl ?_
  exact HP.out n 0 0 0 _ HE.out F9.out.b
 subst hc
 rw [if_pos rfl] at HX
 have HV:=Lib.hid hvl
 clear hvl
 go_wp2_with fail
 refine (code_Read vl _).mono ?_
 rintro e w3 ⟨rfl,rfl⟩
 obtain ⟨R,hR⟩ : ∃ R,w2.heap.size = R:=⟨_,rfl⟩
 have D3 : Hid (Rdr (w2.alloc (.cells #[.string ⟨vl.toArray⟩,.int .i64 0,.int .i64 0] 155)) R (vl,0) ∧ w.heap.size ≤ R ∧ rb ≠ R):=Lib.hid (by
  subst hR
  exact ⟨⟨vl,0,Blk.new _ _ _,Nat.zero_le _,by have:=HV.out; omega,rfl⟩,F2.out.b.size,fun e=>by have:=F2.out.lt 0 rfl; omega⟩)
 have F3 : Hid (Live w (w2.alloc (.cells #[.string ⟨vl.toArray⟩,.int .i64 0,.int .i64 0] 155)) [(rb,56,#[.string ⟨#[]⟩,.int .i64 0,.int .i64 0])]):=Live.hb F2 ((Below.refl _ w2).alloc (Nat.le_refl _) _)
 rw [hR]
 generalize w2.alloc (.cells #[.string ⟨vl.toArray⟩,.int .i64 0,.int .i64 0] 155) = W3 at D3 F3 ⊢
 clear hR F2
 obtain ⟨a,s1,hA⟩ : ∃ a s1,numS (vl,0) = (a,s1):=⟨_,_,rfl⟩
 obtain ⟨q,s2,hQ⟩ : ∃ q s2,numS s1 = (q,s2):=⟨_,_,rfl⟩
 have HX2 : Hid (X = match (if endS s2 = 0 ∧ a ≤ Ex.maxA ∧ q ≤ Ex.maxA then some (a,q) else none) with | some p=>((n,p.1,p.2),0) | none=>(([],0,0),3)):=Lib.hid (by
  rw [HX.out]
  unfold Ex.parseA
  rw [hA]
  simp only
  rw [hQ])
 have HA:=Lib.hid hA
 have HQ:=Lib.hid hQ
 clear hA hQ HX
 go_upto_region 7 with fail
 go_wp2_with fail
 refine (code_RNum _ R _ D3.out.1).mono ?_
 rw [HA.out]
 rintro e w4 ⟨rfl,hd,hg⟩
 have D4 : Hid (Rdr w4 R s1 ∧ w.heap.size ≤ R ∧ rb ≠ R):=Lib.hid ⟨hd,D3.out.2⟩
 have F4:=Lib.hid (F3.out.apart hg (fun k e=>by injection e with e; subst e; exact ⟨D3.out.2.1,by intro x hx; rw [List.mem_singleton] at hx; subst hx; exact D3.out.2.2⟩))
 clear hd hg D3 F3 HA
 go_wp2_with fail
 refine (code_RNum _ R _ D4.out.1).mono ?_
 rw [HQ.out]
 rintro e w5 ⟨rfl,hd,hg⟩
 have D5 : Hid (Rdr w5 R s2 ∧ w.heap.size ≤ R ∧ rb ≠ R):=Lib.hid ⟨hd,D4.out.2⟩
 have F5:=Lib.hid (F4.out.apart hg (fun k e=>by injection e with e; subst e; exact ⟨D4.out.2.1,by intro x hx; rw [List.mem_singleton] at hx; subst hx; exact D4.out.2.2⟩))
 clear hd hg D4 F4 HQ
 go_upto_region 8 with fail
 obtain ⟨ab,hab⟩ : ∃ ab,w5.heap.size = ab:=⟨_,rfl⟩
 have D6 : Hid (Rdr (w5.alloc (.cells #[.string ⟨n.toArray⟩,.int .i64 (a : Int),.int .i64 (q : Int)] 56)) R s2 ∧ w.heap.size ≤ R ∧ rb ≠ R ∧ ab ≠ R):=Lib.hid (by
  subst hab
  exact ⟨D5.out.1.lower ((Below.refl _ w5).alloc (Nat.le_refl _) _) D5.out.1.lt,D5.out.2.1,D5.out.2.2,fun e=>by have:=D5.out.1.lt; omega⟩)
 have F6:=Live.ha F5 #[.string ⟨n.toArray⟩,.int .i64 (a : Int),.int .i64 (q : Int)] 56
 rw [hab] at F6 ⊢
 generalize w5.alloc (.cells #[.string ⟨n.toArray⟩,.int .i64 (a : Int),.int .i64 (q : Int)] 56) = W6 at D6 F6 ⊢
 clear hab D5 F5
 go_wp2_with fail
 refine (code_REnd _ R _ D6.out.1).mono ?_
 rintro e w7 ⟨rfl,hd,hg⟩
 have F7:=Lib.hid (F6.out.apart hg (fun k e=>by injection e with e; subst e; exact ⟨D6.out.2.1,by intro x hx; simp only [List.mem_cons,List.not_mem_nil,or_false] at hx; rcases hx with rfl | rfl; exact D6.out.2.2.2; exact D6.out.2.2.1⟩))
 have F8:=Lib.hid (F7.out.drop 1)
 simp only [List.drop_succ_cons,List.drop_zero] at F8
 clear hd hg D6 F6
 have k0_0 : w7.cell? ⟨ab,0,none⟩ = some (.string ⟨n.toArray⟩):=F7.out.cell 0 0 rfl rfl; have k0_1 : w7.cell? ⟨ab,1,none⟩ = some (.int .i64 (a : Int)):=F7.out.cell 0 1 rfl rfl; have k0_2 : w7.cell? ⟨ab,2,none⟩ = some (.int .i64 (q : Int)):=F7.out.cell 0 2 rfl rfl
 generalize endS s2 = ec at *
 by_cases he : ec = 0
 rotate_left
 ·have hc1 : ((ec : Int) != 0) = true:=by simp; exact he
  have HE : Hid (X = (([],0,0),3)):=Lib.hid (by rw [HX2.out,if_neg (fun e=>he e.1)])
  clear HX2 he
  have r0 : w7.cell? ⟨rb,0,none⟩ = some (.string ⟨#[]⟩):=F8.out.cell 0 0 rfl rfl
  have r1 : w7.cell? ⟨rb,1,none⟩ = some (.int .i64 0):=F8.out.cell 0 1 rfl rfl
  have r2 : w7.cell? ⟨rb,2,none⟩ = some (.int .i64 0):=F8.out.cell 0 2 rfl rfl
  have f0 : w7.frozen? ⟨rb,0,none⟩ = false:=F8.out.frozen 0 0 rfl
  have f1 : w7.frozen? ⟨rb,1,none⟩ = false:=F8.out.frozen 0 1 rfl
  have f2 : w7.frozen? ⟨rb,2,none⟩ = false:=F8.out.frozen 0 2 rfl
  go_wp2_with fail
  have F9 : Hid (Live w (((w7.setCell ⟨rb,0,none⟩ (.string ⟨#[]⟩)).setCell ⟨rb,1,none⟩ (.int .i64 0)).setCell ⟨rb,2,none⟩ (.int .i64 0)) [(rb,56,#[.string ⟨#[]⟩,.int .i64 0,.int .i64 0])]):=Lib.hid (((F8.out.set 0 0 _ rfl).set 0 1 _ rfl).set 0 2 _ rfl)
  generalize ((w7.setCell ⟨rb,0,none⟩ (.string ⟨#[]⟩)).setCell ⟨rb,1,none⟩ (.int .i64 0)).setCell ⟨rb,2,none⟩ (.int .i64 0) = W9 at F9 ⊢
  have s0 : W9.cell? ⟨rb,0,none⟩ = some (.string ⟨#[]⟩):=F9.out.cell 0 0 rfl rfl
  have s1 : W9.cell? ⟨rb,1,none⟩ = some (.int .i64 0):=F9.out.cell 0 1 rfl rfl
  have s2 : W9.cell? ⟨rb,2,none⟩ = some (.int .i64 0):=F9.out.cell 0 2 rfl rfl
  (try simp only [Exit.inBlock,Exit.then])
  refine bodyPost_ret (v:=.tuple #[.agg #[.string ⟨#[]⟩,.int .i64 0,.int .i64 0],.int .i64 3]) (by simp [results,Tryz.results20,go_sem,s0,s1,s2]) rfl ?_
  exact HP.out [] 0 0 3 _ HE.out F9.out.b
 subst he
 have WA:=Lib.hid (exec_within (a : Int) w7)
 have WQ:=Lib.hid (exec_within (q : Int) w7)
 rw [decide_eq_true (show (0 : Int) ≤ (a : Int) by omega),Bool.true_and] at WA
 rw [decide_eq_true (show (0 : Int) ≤ (q : Int) by omega),Bool.true_and] at WQ
 by_cases ha : a ≤ Ex.maxA
 rotate_left
 ·have HE : Hid (X = (([],0,0),3)):=Lib.hid (by rw [HX2.out,if_neg (fun e=>ha e.2.1)])
  rw [decide_eq_false (show ¬ (a : Int) ≤ 1099511627776 by unfold Ex.maxA at ha; omega)] at WA
  clear HX2 ha
  go_wp2_with fail
  refine WA.out.mono ?_
  rintro e w8 ⟨rfl,rfl⟩
  have r0 : w7.cell? ⟨rb,0,none⟩ = some (.string ⟨#[]⟩):=F8.out.cell 0 0 rfl rfl
  have r1 : w7.cell? ⟨rb,1,none⟩ = some (.int .i64 0):=F8.out.cell 0 1 rfl rfl
  have r2 : w7.cell? ⟨rb,2,none⟩ = some (.int .i64 0):=F8.out.cell 0 2 rfl rfl
  have f0 : w7.frozen? ⟨rb,0,none⟩ = false:=F8.out.frozen 0 0 rfl
  have f1 : w7.frozen? ⟨rb,1,none⟩ = false:=F8.out.frozen 0 1 rfl
  have f2 : w7.frozen? ⟨rb,2,none⟩ = false:=F8.out.frozen 0 2 rfl
  go_wp2_with fail
  have F9 : Hid (Live w (((w7.setCell ⟨rb,0,none⟩ (.string ⟨#[]⟩)).setCell ⟨rb,1,none⟩ (.int .i64 0)).setCell ⟨rb,2,none⟩ (.int .i64 0)) [(rb,56,#[.string ⟨#[]⟩,.int .i64 0,.int .i64 0])]):=Lib.hid (((F8.out.set 0 0 _ rfl).set 0 1 _ rfl).set 0 2 _ rfl)
  generalize ((w7.setCell ⟨rb,0,none⟩ (.string ⟨#[]⟩)).setCell ⟨rb,1,none⟩ (.int .i64 0)).setCell ⟨rb,2,none⟩ (.int .i64 0) = W9 at F9 ⊢
  have s0 : W9.cell? ⟨rb,0,none⟩ = some (.string ⟨#[]⟩):=F9.out.cell 0 0 rfl rfl
  have s1 : W9.cell? ⟨rb,1,none⟩ = some (.int .i64 0):=F9.out.cell 0 1 rfl rfl
  have s2 : W9.cell? ⟨rb,2,none⟩ = some (.int .i64 0):=F9.out.cell 0 2 rfl rfl
  (try simp only [Exit.inBlock,Exit.then])
  refine bodyPost_ret (v:=.tuple #[.agg #[.string ⟨#[]⟩,.int .i64 0,.int .i64 0],.int .i64 3]) (by simp [results,Tryz.results20,go_sem,s0,s1,s2]) rfl ?_
  exact HP.out [] 0 0 3 _ HE.out F9.out.b
 rw [decide_eq_true (show (a : Int) ≤ 1099511627776 by unfold Ex.maxA at ha; omega)] at WA
 by_cases hq : q ≤ Ex.maxA
 rotate_left
 ·have HE : Hid (X = (([],0,0),3)):=Lib.hid (by rw [HX2.out,if_neg (fun e=>hq e.2.2)])
  rw [decide_eq_false (show ¬ (q : Int) ≤ 1099511627776 by unfold Ex.maxA at hq; omega)] at WQ
  clear HX2 ha hq
  go_wp2_with fail
  refine WA.out.mono ?_
  rintro e w8 ⟨rfl,rfl⟩
  go_wp2_with fail
  refine WQ.out.mono ?_
  rintro e w8 ⟨rfl,rfl⟩
  have r0 : w7.cell? ⟨rb,0,none⟩ = some (.string ⟨#[]⟩):=F8.out.cell 0 0 rfl rfl
  have r1 : w7.cell? ⟨rb,1,none⟩ = some (.int .i64 0):=F8.out.cell 0 1 rfl rfl
  have r2 : w7.cell? ⟨rb,2,none⟩ = some (.int .i64 0):=F8.out.cell 0 2 rfl rfl
  have f0 : w7.frozen? ⟨rb,0,none⟩ = false:=F8.out.frozen 0 0 rfl
  have f1 : w7.frozen? ⟨rb,1,none⟩ = false:=F8.out.frozen 0 1 rfl
  have f2 : w7.frozen? ⟨rb,2,none⟩ = false:=F8.out.frozen 0 2 rfl
  go_wp2_with fail
  have F9 : Hid (Live w (((w7.setCell ⟨rb,0,none⟩ (.string ⟨#[]⟩)).setCell ⟨rb,1,none⟩ (.int .i64 0)).setCell ⟨rb,2,none⟩ (.int .i64 0)) [(rb,56,#[.string ⟨#[]⟩,.int .i64 0,.int .i64 0])]):=Lib.hid (((F8.out.set 0 0 _ rfl).set 0 1 _ rfl).set 0 2 _ rfl)
  generalize ((w7.setCell ⟨rb,0,none⟩ (.string ⟨#[]⟩)).setCell ⟨rb,1,none⟩ (.int .i64 0)).setCell ⟨rb,2,none⟩ (.int .i64 0) = W9 at F9 ⊢
  have s0 : W9.cell? ⟨rb,0,none⟩ = some (.string ⟨#[]⟩):=F9.out.cell 0 0 rfl rfl
  have s1 : W9.cell? ⟨rb,1,none⟩ = some (.int .i64 0):=F9.out.cell 0 1 rfl rfl
  have s2 : W9.cell? ⟨rb,2,none⟩ = some (.int .i64 0):=F9.out.cell 0 2 rfl rfl
  (try simp only [Exit.inBlock,Exit.then])
  refine bodyPost_ret (v:=.tuple #[.agg #[.string ⟨#[]⟩,.int .i64 0,.int .i64 0],.int .i64 3]) (by simp [results,Tryz.results20,go_sem,s0,s1,s2]) rfl ?_
  exact HP.out [] 0 0 3 _ HE.out F9.out.b
 have HE : Hid (X = ((n,a,q),0)):=Lib.hid (by rw [HX2.out,if_pos ⟨rfl,ha,hq⟩])
 rw [decide_eq_true (show (q : Int) ≤ 1099511627776 by unfold Ex.maxA at hq; omega)] at WQ
 clear HX2 ha hq
 go_wp2_with fail
 refine WA.out.mono ?_
 rintro e w8 ⟨rfl,rfl⟩
 go_wp2_with fail
 refine WQ.out.mono ?_
 rintro e w8 ⟨rfl,rfl⟩
 have r0 : w7.cell? ⟨rb,0,none⟩ = some (.string ⟨#[]⟩):=F8.out.cell 0 0 rfl rfl
 have r1 : w7.cell? ⟨rb,1,none⟩ = some (.int .i64 0):=F8.out.cell 0 1 rfl rfl
 have r2 : w7.cell? ⟨rb,2,none⟩ = some (.int .i64 0):=F8.out.cell 0 2 rfl rfl
 have f0 : w7.frozen? ⟨rb,0,none⟩ = false:=F8.out.frozen 0 0 rfl
 have f1 : w7.frozen? ⟨rb,1,none⟩ = false:=F8.out.frozen 0 1 rfl
 have f2 : w7.frozen? ⟨rb,2,none⟩ = false:=F8.out.frozen 0 2 rfl
 go_wp2_with fail
 have F9 : Hid (Live w (((w7.setCell ⟨rb,0,none⟩ (.string ⟨n.toArray⟩)).setCell ⟨rb,1,none⟩ (.int .i64 (a : Int))).setCell ⟨rb,2,none⟩ (.int .i64 (q : Int))) [(rb,56,#[.string ⟨n.toArray⟩,.int .i64 (a : Int),.int .i64 (q : Int)])]):=Lib.hid (((F8.out.set 0 0 _ rfl).set 0 1 _ rfl).set 0 2 _ rfl)
 generalize ((w7.setCell ⟨rb,0,none⟩ (.string ⟨n.toArray⟩)).setCell ⟨rb,1,none⟩ (.int .i64 (a : Int))).setCell ⟨rb,2,none⟩ (.int .i64 (q : Int)) = W9 at F9 ⊢
 have s0 : W9.cell? ⟨rb,0,none⟩ = some (.string ⟨n.toArray⟩):=F9.out.cell 0 0 rfl rfl
 have s1 : W9.cell? ⟨rb,1,none⟩ = some (.int .i64 (a : Int)):=F9.out.cell 0 1 rfl rfl
 have s2 : W9.cell? ⟨rb,2,none⟩ = some (.int .i64 (q : Int)):=F9.out.cell 0 2 rfl rfl
 (try simp only [Exit.inBlock,Exit.then])
 refine bodyPost_ret (v:=.tuple #[.agg #[.string ⟨n.toArray⟩,.int .i64 (a : Int),.int .i64 (q : Int)],.int .i64 0]) (by simp [results,Tryz.results20,go_sem,s0,s1,s2]) rfl ?_
 exact HP.out n a q 0 _ HE.out F9.out.b
end Go.Proofs.YtomnlhbioijfhaaGreatDoor
namespace Go.Proofs.YtomnlhbioijfhaaGreatDoor
namespace Ex
open Pw Trie
def wA : List Ac := [([97],9,0)]
def wM : List Mem := [([118],1)]
def wX : Tx:=⟨1, [97],0, [98],5, [], [], []⟩
theorem wM_ok : okM wM = true:=by decide +kernel
theorem wX_fine : fineX wX = true:=by decide +kernel
theorem works_plain : ∃ t u,genW wA wM = (t,0) ∧ doW t wX = (u,0) ∧ doW u wX = (u,160) ∧ acc u [97] = some (4,1) ∧ acc u [98] = some (5,0):=by
 have hg0 : genW wA wM = (put (put .nil (Nib.of (aKey [97])) (writA (9,0))) (Nib.of sKey) (digM wM),0):=by
  have h1 : genA .nil wA = (put .nil (Nib.of (aKey [97])) (writA (9,0)),0):=by
   unfold wA
   rw [genA,if_neg (by decide +kernel),if_neg (by decide +kernel),genA]
   rfl
  unfold genW
  rw [if_neg (by decide),h1,if_neg (by simp),wM_ok,if_neg (by simp)]
 have hl:=digM_len wM_ok
 have g1 : Trie.Good (put .nil (Nib.of (aKey [97])) (writA (9,0))):=good_putA Trie.Good.nil (n := [97]) (by simp) (p:=(9,0)) (by simp) (by simp)
 have hA : ∀ m,acc (put .nil (Nib.of (aKey [97])) (writA (9,0))) m = if m = [97] then some (9,0) else acc .nil m:=fun m=>acc_putA Trie.Good.nil (by simp) (p:=(9,0)) (by unfold maxA; simp) (by unfold maxA; simp) m
 have hB : ∀ m,acc (put (put .nil (Nib.of (aKey [97])) (writA (9,0))) (Nib.of sKey) (digM wM)) m = if m = [97] then some (9,0) else acc .nil m:=fun m=>by
  rw [acc_put g1 keyed_s (ne_nil_of (by omega)) m (aKey_sKey m),hA]
 have hg : Trie.Good (put (put .nil (Nib.of (aKey [97])) (writA (9,0))) (Nib.of sKey) (digM wM)):=Trie.Good.put g1 keyed_s (ne_nil_of (by omega)) (by omega)
 generalize put (put .nil (Nib.of (aKey [97])) (writA (9,0))) (Nib.of sKey) (digM wM) = t at *
 have h97 : acc t [97] = some (9,0):=by rw [hB,if_pos rfl]
 have h98 : acc t [98] = some (0,0):=by rw [hB,if_neg (by decide)]; rfl
 have hk : kindW t wX (9,0) (0,0) = (put t (Nib.of (aKey [98])) (writA (5,0)),0,4):=by
  rw [kindW_1 (by rfl),if_neg (by decide),if_neg (by decide),if_neg (by decide)]
  rfl
 have hd : doW t wX = (put (put t (Nib.of (aKey [98])) (writA (5,0))) (Nib.of (aKey [97])) (writA (4,1)),0):=by
  have e1 : acc t wX.frm = some (9,0):=h97
  have e2 : accTo t wX = some (0,0):=by unfold accTo; rw [if_pos (by rfl)]; exact h98
  unfold doW
  rw [if_neg (by rw [wX_fine]; decide),e1,e2]
  simp only
  rw [if_neg (by decide),hk,if_pos rfl]
  rfl
 have hd2 : (doW t wX).2 = 0:=by rw [hd]
 obtain ⟨hx,⟨dn⟩⟩:=doW_done hd2
 have e1 : dn.f = (9,0):=by
  have:=dn.hf
  rw [show wX.frm = [97] from rfl,h97] at this
  exact (Option.some.inj this).symm
 have e2 : dn.tt = (0,0):=by
  have:=dn.ht
  unfold accTo at this
  rw [if_pos (show wX.kind = 1 from rfl),show wX.dst = [98] from rfl,h98] at this
  exact (Option.some.inj this).symm
 have a1:=do_accF dn hg hx
 have a2:=do_accT dn hg hx rfl (by decide)
 have a3:=do_once hg hd2
 rw [e1,e2,hk] at a1
 rw [e2] at a2
 refine ⟨t,(doW t wX).1,hg0, ?_,a3,a1,a2⟩
 rw [hd]
end Ex
end Go.Proofs.YtomnlhbioijfhaaGreatDoor
namespace Go.Proofs.YtomnlhbioijfhaaGreatDoor
open Go.RowKit Go.Instr
attribute [local go_sem] ba_get ByteArray.mk_append_mk
theorem item_cells {w : World} {B : Nat} {A : Option Addr} {l : List Trie.KV} (h : Reads w B 2 A l.length (icells l)) {i : Nat} (hi : i < l.length) :
  ∃ ad off,A = some ⟨ad,off,none⟩ ∧ ad < B ∧ ∀ w',Below B w w' → w'.cell? ⟨ad,off + i * 2,none⟩ = some (.string ⟨l[i].1.toArray⟩) ∧ w'.cell? ⟨ad,off + i * 2 + 1,none⟩ = some (.string ⟨l[i].2.toArray⟩):=by
 obtain ⟨ad,off,rfl,hbl,hcell⟩:=h.form (by omega) (by omega)
 have ic:=icells_at hi
 have hil:=icells_length l
 have e0 : (icells l)[2 * i]'(by omega) = .string ⟨l[i].1.toArray⟩:=by
  have:=ic.1; rw [List.getElem?_eq_getElem (by omega)] at this; exact Option.some.inj this
 have e1 : (icells l)[2 * i + 1]'(by omega) = .string ⟨l[i].2.toArray⟩:=by
  have:=ic.2; rw [List.getElem?_eq_getElem (by omega)] at this; exact Option.some.inj this
 refine ⟨ad,off,rfl,hbl,fun w' hb=>⟨?_, ?_⟩⟩
 ·have q0:=hcell (2 * i) (by omega)
  rw [e0] at q0
  rw [show i * 2 = 2 * i by omega]
  exact (hb.cell (p:=⟨ad,off + 2 * i,none⟩) hbl).trans q0
 ·have q1:=hcell (2 * i + 1) (by omega)
  rw [e1] at q1
  rw [show off + i * 2 + 1 = off + (2 * i + 1) by omega]
  exact (hb.cell (p:=⟨ad,off + (2 * i + 1),none⟩) hbl).trans q1
theorem ref10_Keyed (key : List UInt8) (hl : key.length ≤ 9223372036854775807) (w : World) :
  Calls Tryz.prog 86 #[.string ⟨key.toArray⟩] w fun e w'=>e = .returned (.bool (Trie.keyedW key)) ∧ w = w':=by
 by_cases h0 : key = []
 ·subst h0
  go_enter Tryz.func86,Tryz.ntmps86
  go_wp2
  go_ret
  exact ⟨rfl,rfl⟩
 ·have h1 : 1 ≤ key.length:=List.length_pos_iff.2 h0
  have hR : Hid (Trie.keyedW key = decide ((key.length : Int) ≤ 8)):=Lib.hid (by
   rw [Trie.keyedW,Bool.eq_iff_iff]; simp [h0]; omega)
  have h2 : (1 : Int) ≤ key.length:=by omega
  by_cases h8 : key.length ≤ 8
  ·have h3 : (key.length : Int) ≤ 8:=by omega
   have hR2:=Lib.hid (hR.out.trans (decide_eq_true h3))
   clear h0 hR
   go_enter Tryz.func86,Tryz.ntmps86
   go_wp2
   go_ret
   exact ⟨ret_bool hR2.out.symm,rfl⟩
  ·have h3 : ((key.length : Int) ≤ 8) = False:=by simp; omega
   have hR2:=Lib.hid (hR.out.trans (decide_eq_false (by simp [h3])))
   clear h0 hR
   go_enter Tryz.func86,Tryz.ntmps86
   go_wp2
   go_ret
   exact ⟨ret_bool hR2.out.symm,rfl⟩
def AtIEnd (w : World) (l : List Trie.KV) (key : List UInt8) (e : Ending) (w' : World) : Prop:=e = .returned (.tuple #[.int .i64 ((Trie.atI key l).1 : Nat),.bool (Trie.atI key l).2]) ∧ Below w.heap.size w w'
set_option maxHeartbeats 1000000 in
theorem ref10_At (w : World) (A : Option Addr) (c : Nat) (l : List Trie.KV) (HR : Reads w w.heap.size 2 A l.length (icells l)) (hl : l.length ≤ 2000) (key : List UInt8) :
  Calls Tryz.prog 68 #[.slice A l.length c,.string ⟨key.toArray⟩] w (AtIEnd w l key):=by
 have HE : Hid (∀ i b,Trie.atI key l = (i,b) → ∀ w',Below w.heap.size w w' → AtIEnd w l key (.returned (.tuple #[.int .i64 (i : Nat),.bool b])) w'):=Lib.hid (by
  intro i b e w' hb
  unfold AtIEnd
  rw [e]
  exact ⟨rfl,hb⟩)
 generalize AtIEnd w l key = P at HE ⊢
 have HRR:=Lib.hid HR
 clear HR
 go_enter Tryz.func68,Tryz.ntmps68
 go_wp2
 refine wp_loop_ghost_k (fun k a wr => ∀ Φ : Act → Prop,(∀ (s2 s3 s4 s5 s7 s8 s9 s10 s11 s12 s13 s14 s15 s16 s17 s18 s19 s20 s21 s22 s23 s24 s25 s26 s27 s28 s29 : Value) (i : Nat),(i + k = l.length ∧ Trie.atI key l = (i + (Trie.atI key (l.drop i)).1,(Trie.atI key (l.drop i)).2) ∧ Below w.heap.size w wr) → Φ { tmps:=#[.slice A l.length c,.string ⟨key.toArray⟩,s2,s3,s4,s5,.int .i64 i,s7,s8,s9,s10,s11,s12,s13,s14,s15,s16,s17,s18,s19,s20,s21,s22,s23,s24,s25,s26,s27,s28,s29],defers := [] }) → Φ a) (l.length) ?_ ?_
 ·refine fun Φ hΦ=>hΦ _ _ _ _ _ _ _ _ _ _ _ _ _ _ _ _ _ _ _ _ _ _ _ _ _ _ _ (0) ?_
  exact ⟨by omega,by simp,by go_grown⟩
 ·intro k1 a1 wr1 hI1 J1 K1 hJ1 hK1
  refine hI1 (fun a=>Code.wp _ _ _ a _) ?_
  clear hI1 a1
  intro s0 s1 s2 s3 s4 s5 s6 s7 s8 s9 s10 s11 s12 s13 s14 s15 s16 s17 s18 s19 s20 s21 s22 s23 s24 s25 s26 i hrel
  show Code.wp _ _ _ _ _
  obtain ⟨h1,h2,hb⟩:=hrel
  by_cases hi : i < l.length
  ·obtain ⟨ad,off,rfl,hbl,hcell⟩:=item_cells HRR.out hi
   obtain ⟨q0,q1⟩:=hcell _ hb
   obtain ⟨s1,s2⟩:=Trie.atI_step key l i hi h2
   have hi1 : (i : Int) < l.length:=by omega
   have hi0 : (0 : Int) ≤ i:=by omega
   have HI:=Lib.hid h1
   have HB:=Lib.hid hb
   clear hcell h2 h1 hb
   generalize l[i] = x at *
   obtain ⟨xk,xv⟩:=x
   simp only at q0 q1 s1 s2
   cases e3 : Op.bytesLess xk key with
   | true =>
    have T:=Lib.hid (s1 e3)
    clear s1 s2
    have e4:=bl_asymm _ _ e3
    have e5 : (xk == key) = false:=by
     simp only [beq_eq_false_iff_ne,ne_eq]; intro e; subst e; rw [bl_irrefl] at e3; cases e3
    go_wp2
    refine Handed.intro (l.length - (i + 1)) ?_ (hJ1 _ _ _ (fun Φ hΦ=>hΦ _ _ _ _ _ _ _ _ _ _ _ _ _ _ _ _ _ _ _ _ _ _ _ _ _ _ _ (i + 1) ?_))
    ·have:=HI.out
     omega
    ·have:=HI.out
     exact ⟨by omega,T.out,HB.out⟩
   | false =>
    have T:=Lib.hid (HE.out i _ (s2 e3))
    clear s1 s2 HE
    by_cases e4 : xk = key
    ·subst e4
     rw [decide_eq_true rfl] at T
     go_wp2
     go_quiet (fail)
     go_wp2
     exact T.out _ (below_drewN HB.out _)
    ·have e5 : (xk == key) = false:=by simp [e4]
     have e6:=bl_gt e3 (fun e=>e4 e.symm)
     rw [decide_eq_false e4] at T
     clear e4
     go_wp2
     go_quiet (fail)
     go_wp2
     exact T.out _ (below_drewN HB.out _)
  ·have hi2 : ((i : Int) < l.length) = False:=by simp; omega
   have e : l.drop i = []:=List.drop_eq_nil_of_le (by omega)
   rw [e] at h2
   have e3 : i = l.length:=by omega
   have T:=Lib.hid (HE.out l.length false (by rw [h2,e3]; rfl))
   have HB:=Lib.hid hb
   clear h2 e HE hb
   go_wp2
   exact T.out _ HB.out
theorem icells_take : ∀ (l : List Trie.KV) (i : Nat),icells (l.take i) = (icells l).take (i * 2)
 | [],i=>by simp [icells]
 | x :: l,0=>by simp [icells]
 | x :: l,i + 1=>by
  rw [List.take_succ_cons,show icells (x :: l.take i) = .string ⟨x.1.toArray⟩ :: .string ⟨x.2.toArray⟩ :: icells (l.take i) from rfl,show icells (x :: l) = .string ⟨x.1.toArray⟩ :: .string ⟨x.2.toArray⟩ :: icells l from rfl,icells_take l i,show (i + 1) * 2 = i * 2 + 1 + 1 by omega,List.take_succ_cons,List.take_succ_cons]
theorem icells_drop : ∀ (l : List Trie.KV) (i : Nat),icells (l.drop i) = (icells l).drop (i * 2)
 | [],i=>by simp [icells]
 | x :: l,0=>by simp
 | x :: l,i + 1=>by
  rw [List.drop_succ_cons,show icells (x :: l) = .string ⟨x.1.toArray⟩ :: .string ⟨x.2.toArray⟩ :: icells l from rfl,icells_drop l i,show (i + 1) * 2 = i * 2 + 1 + 1 by omega,List.drop_succ_cons,List.drop_succ_cons]
theorem icells_append (a b : List Trie.KV) : icells (a ++ b) = icells a ++ icells b:=by simp [icells]
theorem icells_one (l : List Trie.KV) : ∀ u ∈ icells l,u.oneCell' = true:=by
 intro u hu
 simp only [icells,List.mem_flatMap] at hu
 obtain ⟨x,_,hu⟩:=hu
 simp at hu
 rcases hu with rfl | rfl <;> rfl
theorem it_size (w : World) : (sizeOf 77).run Tryz.prog w = .ok 2 w:=by
 go_simp
 try rfl
theorem it_elem : Program.elem Tryz.prog 24 = 77:=by kernel_rfl
theorem it_under : Tryz.prog.underlying 24 = some (.slice (Tryz.prog.elem 24)):=by rw [it_elem]; exact Tryz.underlying24
theorem it_cut_to (A : Option Addr) (l : List Trie.KV) (n c i : Nat) (hn : l.length = n) (hi : i ≤ n) (hc : n ≤ c) :
  ∃ A1 c1,(∀ w,(Instr.sliceAt 24 (.slice A n c) none (some (.int .i64 (i : Int))) none).run Tryz.prog w = .ok (.slice A1 i c1) w) ∧ ∀ w B,Reads w B 2 A n (icells l) → Reads w B 2 A1 i (icells (l.take i)):=by
 refine ⟨if c = 0 then A else A.map (·.add (0 * 2)),c - 0,fun w => ?_,fun w B hr=>⟨by rw [icells_length,List.length_take]; omega,fun hp => ?_⟩⟩
 ·rw [run_sliceAt_slice _ _ _ _ _ _ it_under,run_slice_h _ _ _ _ _ it_under _ _ (by omega) (by omega)]
  rw [it_elem,it_size w]
  rfl
 ·obtain ⟨ad,rfl,hb,hcell⟩:=hr.2 (by omega)
  rw [if_neg (by omega)]
  refine ⟨ad,by simp [Addr.add],hb,fun j u hu=>hcell j u ?_⟩
  rw [icells_take] at hu
  have hj : j < i * 2:=by
   have:=(List.getElem?_eq_some_iff.1 hu).1
   rw [List.length_take] at this
   omega
  rw [List.getElem?_take_of_lt hj] at hu
  exact hu
theorem it_cut_from (A : Option Addr) (l : List Trie.KV) (n c i : Nat) (hn : l.length = n) (hi : i ≤ n) (hc : n ≤ c) :
  ∃ A1 c1,(∀ w,(Instr.sliceAt 24 (.slice A n c) (some (.int .i64 (i : Int))) none none).run Tryz.prog w = .ok (.slice A1 (n - i) c1) w) ∧ ∀ w B,Reads w B 2 A n (icells l) → Reads w B 2 A1 (n - i) (icells (l.drop i)):=by
 refine ⟨if c = i then A else A.map (·.add (i * 2)),c - i,fun w => ?_,fun w B hr => ?_⟩
 ·rw [run_sliceAt_slice _ _ _ _ _ _ it_under,run_slice_l _ _ _ _ _ it_under _ _ (by omega) (by omega)]
  rw [it_elem,it_size w]
  rfl
 ·rw [icells_drop]
  exact hr.cut hi hc
set_option maxHeartbeats 1000000 in
theorem ref10_Get (w : World) (A : Option Addr) (c : Nat) (l : List Trie.KV) (HR : Reads w w.heap.size 2 A l.length (icells l)) (hl : l.length ≤ 2000) (key : List UInt8) (hk : key.length ≤ 9223372036854775807) :
  Calls Tryz.prog 72 #[.slice A l.length c,.string ⟨key.toArray⟩] w (TGetEnd w (Trie.rget l key)):=by
 have HP : Hid (∀ r w',Trie.rget l key = r → Below w.heap.size w w' → TGetEnd w (Trie.rget l key) (.returned (.tuple #[.string ⟨r.1.toArray⟩,.int .i64 (r.2 : Int)])) w'):=Lib.hid (fun b w' h1 h2=>⟨by rw [h1],h2⟩)
 generalize TGetEnd w (Trie.rget l key) = P at HP ⊢
 have HKy:=Lib.hid (ref10_Keyed key hk w)
 have HA:=Lib.hid (ref10_At w A c l HR hl key)
 have hat:=Trie.atI_le key l
 have HRR:=Lib.hid HR
 clear HR
 cases hkey : Trie.keyedW key with
 | false =>
  have HR : Hid (Trie.rget l key = ([],1)):=Lib.hid (by simp [Trie.rget,hkey])
  rw [hkey] at HKy
  clear hkey hat
  go_enter Tryz.func72,Tryz.ntmps72
  go_wp2_with (go_at_call 86; refine HKy.out.mono ?_; rintro e w1 ⟨rfl,rfl⟩)
  exact HP.out _ _ HR.out (Below.refl _ _)
 | true =>
  rw [hkey] at HKy
  cases ht : (Trie.atI key l).2 with
  | false =>
   have HR : Hid (Trie.rget l key = ([],5)):=Lib.hid (by simp [Trie.rget,hkey,ht])
   unfold AtIEnd at HA
   rw [ht] at HA
   clear hkey hat ht
   generalize (Trie.atI key l).1 = i at *
   go_enter Tryz.func72,Tryz.ntmps72
   go_wp2_with (first | (go_at_call 86; refine HKy.out.mono ?_; rintro e w1 ⟨rfl,rfl⟩) | (go_at_call 68; refine HA.out.mono ?_; rintro e w2 ⟨rfl,hb⟩))
   exact HP.out _ _ HR.out hb
  | true =>
   have hi:=hat.2 ht
   have HR : Hid (Trie.rget l key = ((l[(Trie.atI key l).1]'hi).2,0)):=Lib.hid (by simp [Trie.rget,hkey,ht,hi])
   unfold AtIEnd at HA
   rw [ht] at HA
   clear hkey hat ht
   generalize (Trie.atI key l).1 = i at *
   obtain ⟨ad,off,rfl,hbl,hcell⟩:=item_cells HRR.out hi
   have HC:=Lib.hid hcell
   have hi1 : (i : Int) < l.length:=by omega
   have hi0 : (0 : Int) ≤ i:=by omega
   clear hcell
   generalize l[i] = x at *
   go_enter Tryz.func72,Tryz.ntmps72
   go_wp2_with (first | (go_at_call 86; refine HKy.out.mono ?_; rintro e w1 ⟨rfl,rfl⟩) | (go_at_call 68; refine HA.out.mono ?_; rintro e w2 ⟨rfl,hb⟩; obtain ⟨q0,q1⟩:=HC.out _ hb))
   exact HP.out _ _ HR.out hb
end Go.Proofs.YtomnlhbioijfhaaGreatDoor
