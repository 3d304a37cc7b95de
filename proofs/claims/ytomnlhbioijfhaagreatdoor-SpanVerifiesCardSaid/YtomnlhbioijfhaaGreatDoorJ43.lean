import Derived.Test.YtomnlhbioijfhaaGreatDoorJ41
import Derived.Test.YtomnlhbioijfhaaGreatDoorJ42
set_option linter.unusedSimpArgs false
set_option linter.unusedVariables false
namespace Go.Proofs.YtomnlhbioijfhaaGreatDoor
open Go.RowKit Go.Instr
attribute [local go_sem] ba_get ByteArray.mk_append_mk
attribute [local go_sem ↓] Go.wp_at_zero Go.wp_at_succ
def VerIEnd (w : World) (r : List Trie.KV × List UInt8 × Nat) (q : Ending) (w' : World) : Prop :=
 ∃ A c,q = .returned (.tuple #[.slice A r.1.length c,.string ⟨r.2.1.toArray⟩,.int .i64 (r.2.2 : Int)]) ∧ Reads w' w'.heap.size 2 A r.1.length (icells r.1) ∧ Below w.heap.size w w'
theorem reads_drewN {W : World} {size n : Nat} {A : Option Addr} {xs : List Value} (h : Reads W W.heap.size size A n xs) (k : Nat) : Reads (W.drewN k) (W.drewN k).heap.size size A n xs:=h
set_option maxRecDepth 100000 in
set_option maxHeartbeats 2000000 in
theorem ref14_Verify_bad (w : World) (root f e : List UInt8) (most : Int) (hm : most < 1 ∨ 16 < most) (items : List Trie.KV) (A : Option Addr) (c : Nat) (nx : List UInt8) (nodes : List (List UInt8)) (B : Option Addr) (d : Nat) :
  Calls Tryz.prog 10 #[.string ⟨root.toArray⟩,.string ⟨f.toArray⟩,.string ⟨e.toArray⟩,.int .i64 most,.agg #[.slice A items.length c,.string ⟨nx.toArray⟩,.slice B nodes.length d]] w (VerIEnd w ([], [],1)):=by
 have HP : Hid (∀ w',Below w.heap.size w w' → VerIEnd w ([], [],1) (.returned (.tuple #[.slice none 0 0,.string ⟨#[]⟩,.int .i64 1])) w'):=Lib.hid (fun w' h=>⟨none,0,rfl,Reads.none_,h⟩)
 generalize VerIEnd w ([], [],1) = P at HP ⊢
 by_cases h1 : most < 1
 ·clear hm
  go_enter Tryz.func10,Tryz.ntmps10
  go_upto_region 1 with fail
  obtain ⟨bp,hbp⟩ : ∃ bp,w.heap.size = bp:=⟨_,rfl⟩
  have F0 : Hid (Live w (w.alloc (.cells #[.slice A items.length c,.string ⟨nx.toArray⟩,.slice B nodes.length d] 27)) [(bp,27,#[.slice A items.length c,.string ⟨nx.toArray⟩,.slice B nodes.length d])]):=Lib.hid (by subst hbp; exact Live.one ((Below.refl _ _).alloc (Nat.le_refl _) _) (Nat.le_refl _) (Blk.new _ _ _))
  try rw [hbp]
  generalize w.alloc (.cells #[.slice A items.length c,.string ⟨nx.toArray⟩,.slice B nodes.length d] 27) = W0 at F0 ⊢
  clear hbp
  have k0_0 : W0.cell? ⟨bp,0,none⟩ = some (.slice A items.length c):=F0.out.cell 0 0 rfl rfl; have k0_1 : W0.cell? ⟨bp,1,none⟩ = some (.string ⟨nx.toArray⟩):=F0.out.cell 0 1 rfl rfl; have k0_2 : W0.cell? ⟨bp,2,none⟩ = some (.slice B nodes.length d):=F0.out.cell 0 2 rfl rfl
  go_wp2_with fail
  exact HP.out _ F0.out.b
 ·have h2 : (16 : Int) < most:=by omega
  have h3 : (most < 1) = False:=by simp; omega
  clear hm h1
  go_enter Tryz.func10,Tryz.ntmps10
  go_upto_region 1 with fail
  obtain ⟨bp,hbp⟩ : ∃ bp,w.heap.size = bp:=⟨_,rfl⟩
  have F0 : Hid (Live w (w.alloc (.cells #[.slice A items.length c,.string ⟨nx.toArray⟩,.slice B nodes.length d] 27)) [(bp,27,#[.slice A items.length c,.string ⟨nx.toArray⟩,.slice B nodes.length d])]):=Lib.hid (by subst hbp; exact Live.one ((Below.refl _ _).alloc (Nat.le_refl _) _) (Nat.le_refl _) (Blk.new _ _ _))
  try rw [hbp]
  generalize w.alloc (.cells #[.slice A items.length c,.string ⟨nx.toArray⟩,.slice B nodes.length d] 27) = W0 at F0 ⊢
  clear hbp
  have k0_0 : W0.cell? ⟨bp,0,none⟩ = some (.slice A items.length c):=F0.out.cell 0 0 rfl rfl; have k0_1 : W0.cell? ⟨bp,1,none⟩ = some (.string ⟨nx.toArray⟩):=F0.out.cell 0 1 rfl rfl; have k0_2 : W0.cell? ⟨bp,2,none⟩ = some (.slice B nodes.length d):=F0.out.cell 0 2 rfl rfl
  go_wp2_with fail
  exact HP.out _ F0.out.b
set_option maxRecDepth 100000 in
set_option maxHeartbeats 8000000 in
theorem ref14_Verify (w : World) (root f e : List UInt8) (hf : f.length ≤ 1000) (he : e.length ≤ 1000) (m : Nat) (h1 : 1 ≤ m) (h2 : m ≤ 16) (items : List Trie.KV) (A : Option Addr) (c : Nat) (HR : Reads w w.heap.size 2 A items.length (icells items)) (hil : items.length ≤ 1000)
  (nx : List UInt8) (hnx : nx.length ≤ 1000) (nodes : List (List UInt8)) (B : Option Addr) (d : Nat) (HN : Reads w w.heap.size 1 B nodes.length (strv nodes)) (hd : nodes.length ≤ d) (hnl : nodes.length ≤ 60) (hns : ∀ x ∈ nodes,x.length ≤ 900000) (HBB : ∀ a,B = some a → a.block < w.heap.size) :
  Calls Tryz.prog 10 #[.string ⟨root.toArray⟩,.string ⟨f.toArray⟩,.string ⟨e.toArray⟩,.int .i64 (m : Int),.agg #[.slice A items.length c,.string ⟨nx.toArray⟩,.slice B nodes.length d]] w (VerIEnd w (Trie.verifyP root f e m items nx nodes)):=by
 have HP : Hid (∀ l s (cd : Nat) A c w',Trie.verifyP root f e m items nx nodes = (l,s,cd) → Reads w' w'.heap.size 2 A l.length (icells l) → Below w.heap.size w w' → VerIEnd w (Trie.verifyP root f e m items nx nodes) (.returned (.tuple #[.slice A l.length c,.string ⟨s.toArray⟩,.int .i64 (cd : Int)])) w'):=Lib.hid (fun l s cd A c w' e1 h1 h2=>by rw [e1]; exact ⟨A,c,rfl,h1,h2⟩)
 have HNil : Hid (∀ (cd : Nat) w',Trie.verifyP root f e m items nx nodes = ([], [],cd) → Below w.heap.size w w' → VerIEnd w (Trie.verifyP root f e m items nx nodes) (.returned (.tuple #[.slice none 0 0,.string ⟨#[]⟩,.int .i64 (cd : Int)])) w'):=Lib.hid (fun cd w' e1 h=>by rw [e1]; exact ⟨none,0,rfl,Reads.none_,h⟩)
 have HX : Hid (Trie.verifyP root f e m items nx nodes = if Trie.goesOnW items nx e m = false then ([], [],130)
 else if root = [] then (if nodes ≠ [] ∨ items ≠ [] then ([], [],130) else ([], [],0))
 else if (Trie.gotW root f (Trie.upToW nx e) nodes).1 = false ∨ (Trie.gotW root f (Trie.upToW nx e) nodes).2.2 ≠ [] ∨ (Trie.gotW root f (Trie.upToW nx e) nodes).2.1 ≠ items then ([], [],130)
 else (items,nx,0)):=Lib.hid rfl
 generalize VerIEnd w (Trie.verifyP root f e m items nx nodes) = P at HP HNil ⊢
 generalize Trie.verifyP root f e m items nx nodes = X at *
 have hm1 : ((m : Int) < 1) = False:=by simp; omega
 have hm2 : ((16 : Int) < m) = False:=by simp; omega
 have HRd:=Lib.hid (And.intro HR HN)
 have HLn:=Lib.hid (And.intro hil (And.intro hnl (And.intro hns (And.intro hd (And.intro h1 h2)))))
 have HFe:=Lib.hid (And.intro hf (And.intro he hnx))
 have hil2 : (items.length : Int) ≤ 1000:=by omega
 have hnl2 : (nodes.length : Int) ≤ 60:=by omega
 by_cases hlm : m < items.length
 ·have hX : Hid (X = ([], [],130)):=Lib.hid (by rw [HX.out,if_pos (by unfold Trie.goesOnW; rw [if_pos hlm])])
  have hI : (m : Int) < (items.length : Int):=by omega
  clear HX HR HN hlm h1 h2
  go_enter Tryz.func10,Tryz.ntmps10
  go_upto_region 1 with fail
  obtain ⟨bp,hbp⟩ : ∃ bp,w.heap.size = bp:=⟨_,rfl⟩
  have F0 : Hid (Live w (w.alloc (.cells #[.slice A items.length c,.string ⟨nx.toArray⟩,.slice B nodes.length d] 27)) [(bp,27,#[.slice A items.length c,.string ⟨nx.toArray⟩,.slice B nodes.length d])]):=Lib.hid (by subst hbp; exact Live.one ((Below.refl _ _).alloc (Nat.le_refl _) _) (Nat.le_refl _) (Blk.new _ _ _))
  try rw [hbp]
  generalize w.alloc (.cells #[.slice A items.length c,.string ⟨nx.toArray⟩,.slice B nodes.length d] 27) = W0 at F0 ⊢
  clear hbp
  have k0_0 : W0.cell? ⟨bp,0,none⟩ = some (.slice A items.length c):=F0.out.cell 0 0 rfl rfl; have k0_1 : W0.cell? ⟨bp,1,none⟩ = some (.string ⟨nx.toArray⟩):=F0.out.cell 0 1 rfl rfl; have k0_2 : W0.cell? ⟨bp,2,none⟩ = some (.slice B nodes.length d):=F0.out.cell 0 2 rfl rfl
  go_wp2_with fail
  exact HNil.out 130 _ hX.out F0.out.b
 ·have hI : ((m : Int) < (items.length : Int)) = False:=by simp; omega
  have HGo : Hid (Trie.goesOnW items nx e m = if nx = [] then true else if items.length ≠ m ∨ (e ≠ [] ∧ Op.bytesLess nx e = false) then false else decide (nx = Trie.behindW (items.getD (m - 1) ([], [])).1)):=Lib.hid (by unfold Trie.goesOnW; rw [if_neg hlm])
  clear hlm hf he hnx hil hnl hns hd
  go_enter Tryz.func10,Tryz.ntmps10
  go_upto_region 1 with fail
  obtain ⟨bp,hbp⟩ : ∃ bp,w.heap.size = bp:=⟨_,rfl⟩
  have F0 : Hid (Live w (w.alloc (.cells #[.slice A items.length c,.string ⟨nx.toArray⟩,.slice B nodes.length d] 27)) [(bp,27,#[.slice A items.length c,.string ⟨nx.toArray⟩,.slice B nodes.length d])]):=Lib.hid (by subst hbp; exact Live.one ((Below.refl _ _).alloc (Nat.le_refl _) _) (Nat.le_refl _) (Blk.new _ _ _))
  try rw [hbp]
  generalize w.alloc (.cells #[.slice A items.length c,.string ⟨nx.toArray⟩,.slice B nodes.length d] 27) = W0 at F0 ⊢
  clear hbp
  have k0_0 : W0.cell? ⟨bp,0,none⟩ = some (.slice A items.length c):=F0.out.cell 0 0 rfl rfl; have k0_1 : W0.cell? ⟨bp,1,none⟩ = some (.string ⟨nx.toArray⟩):=F0.out.cell 0 1 rfl rfl; have k0_2 : W0.cell? ⟨bp,2,none⟩ = some (.slice B nodes.length d):=F0.out.cell 0 2 rfl rfl
  go_upto_if 28 with fail
  go_cut [] (fun wx=>Live w wx [(bp,27,#[.slice A items.length c,.string ⟨nx.toArray⟩,.slice B nodes.length d])] ∧ Trie.goesOnW items nx e m = true)
  case first =>
   by_cases hn : nx = []
   ·subst hn
    have HG : Hid (Trie.goesOnW items [] e m = true):=Lib.hid (by rw [HGo.out,if_pos rfl])
    clear HR HN h1 h2
    go_wp2_with fail
    go_meet
    exact ⟨F0.out,HG.out⟩
   ·have ne2 : nx.isEmpty = false:=by simp [hn]
    rw [ne2,Bool.not_false]
    have HGo:=Lib.hid (HGo.out.trans (if_neg hn))
    clear hn k0_0 k0_1 k0_2 ne2
    by_cases hlen : items.length = m
    ·obtain ⟨k,rfl⟩ : ∃ k,m = k + 1:=⟨m - 1,by omega⟩
     obtain ⟨ad,off,rfl,hbl,hcell⟩:=item_cells HR (i:=k) (by omega)
     have kc:=(hcell W0 F0.out.b).1
     have hgd : (items.getD (k + 1 - 1) ([], [])) = items[k]'(by omega):=by rw [show k + 1 - 1 = k by omega,List.getD_eq_getElem?_getD,List.getElem?_eq_getElem (by omega)]; rfl
     have HGd:=Lib.hid hgd
     have HLt : Hid (ad < W0.heap.size):=Lib.hid (Nat.lt_of_lt_of_le hbl F0.out.b.size)
     have hw : IntKind.i64.wrap (((k + 1 : Nat) : Int) - 1) = (k : Int):=by rw [show ((k + 1 : Nat) : Int) - 1 = (k : Int) by omega]; exact IntWalk.i64_in _ (by omega)
     have hw3 : IntKind.i64.wrap ((k : Int) + 1 - 1) = (k : Int):=by rw [Int.add_sub_cancel]; exact IntWalk.i64_in _ (by omega)
     have hw2 : (k : Int) < (items.length : Int):=by omega
     have hk0 : (0 : Int) ≤ k:=by omega
     have hw4 : IntKind.i64.wrap (k : Int) = (k : Int):=IntWalk.i64_in _ (by omega)
     have hk1 : (k : Int) < (k : Int) + 1:=by omega
     have hk2 : (k : Int) ≤ 16:=by omega
     have HGo:=Lib.hid (by have:=HGo.out; rw [hgd] at this; exact this)
     have HLe:=Lib.hid hlen
     have hle1 : (items.length : Int) = (k : Int) + 1:=by omega
     generalize hit : items[k]'(by omega) = x at *
     have HBh:=Lib.hid (fun W=>ref11_Behind W x.1)
     clear hcell hbl HR HN h1 h2 hgd hit hlen HGd
     have k0_0 : W0.cell? ⟨bp,0,none⟩ = some (.slice (some ⟨ad,off,none⟩) items.length c):=F0.out.cell 0 0 rfl rfl
     have k0_1 : W0.cell? ⟨bp,1,none⟩ = some (.string ⟨nx.toArray⟩):=F0.out.cell 0 1 rfl rfl
     generalize Trie.behindW x.1 = bh at *
     go_upto_region 6 with fail
     refine wp_region_noPanic ?_
     refine wp_region_held_drew (S:=fun w'=>w'.cell? ⟨bp,0,none⟩ = some (.slice (some ⟨ad,off,none⟩) items.length c) ∧ w'.cell? ⟨bp,1,none⟩ = some (.string ⟨nx.toArray⟩) ∧ w'.cell? ⟨ad,off + k * 2,none⟩ = some (.string ⟨x.1.toArray⟩)) (by kernel_rfl) ⟨k0_0,k0_1,kc⟩ (fun hHeld => ?_)
     refine wpAnyH_take (i:=0) (oi:=⟨some 29,_,_,_,_,_⟩) (v := ?_) rfl (by kernel_rfl) (by kernel_rfl) (by kernel_rfl) (fun _ _ _ h=>h) (Or.inl ⟨by rfl, ?_⟩) (by assumption) ?_
     rotate_left
     ·intro w hSw
      obtain ⟨q0,q1,q2⟩:=hSw
      go_simp
      first | done | with_reducible rfl
     try simp only [Act.put,List.setIfInBounds_toArray,List.set_cons_zero,List.set_cons_succ]
     refine wpAnyH_take (i:=1) (oi:=⟨some 30,_,_,_,_,_⟩) (v := ?_) rfl (by kernel_rfl) (by kernel_rfl) (by kernel_rfl) (fun _ _ _ h=>h) (Or.inl ⟨by rfl, ?_⟩) (by assumption) ?_
     rotate_left
     ·intro w hSw
      obtain ⟨q0,q1,q2⟩:=hSw
      go_simp
      first | done | with_reducible rfl
     try simp only [Act.put,List.setIfInBounds_toArray,List.set_cons_zero,List.set_cons_succ]
     refine wpAnyH_take (i:=2) (oi:=⟨some 31,_,_,_,_,_⟩) (v := ?_) rfl (by kernel_rfl) (by kernel_rfl) (by kernel_rfl) (fun _ _ _ h=>h) (Or.inl ⟨by rfl, ?_⟩) (by assumption) ?_
     rotate_left
     ·intro w hSw
      obtain ⟨q0,q1,q2⟩:=hSw
      go_simp
      first | done | with_reducible rfl
     try simp only [Act.put,List.setIfInBounds_toArray,List.set_cons_zero,List.set_cons_succ]
     refine wpAnyH_take (i:=3) (oi:=⟨some 32,_,_,_,_,_⟩) (v := ?_) rfl (by kernel_rfl) (by kernel_rfl) (by kernel_rfl) (fun _ _ _ h=>h) (Or.inl ⟨by rfl, ?_⟩) (by assumption) ?_
     rotate_left
     ·intro w hSw
      obtain ⟨q0,q1,q2⟩:=hSw
      go_simp
      first | done | with_reducible rfl
     try simp only [Act.put,List.setIfInBounds_toArray,List.set_cons_zero,List.set_cons_succ]
     refine wpAnyH_take (i:=4) (oi:=⟨some 33,_,_,_,_,_⟩) (v := ?_) rfl (by kernel_rfl) (by kernel_rfl) (by kernel_rfl) (fun _ _ _ h=>h) (Or.inl ⟨by rfl, ?_⟩) (by assumption) ?_
     rotate_left
     ·intro w hSw
      obtain ⟨q0,q1,q2⟩:=hSw
      go_simp
      first | done | with_reducible rfl
     try simp only [Act.put,List.setIfInBounds_toArray,List.set_cons_zero,List.set_cons_succ]
     refine wpAnyH_take (i:=5) (oi:=⟨some 34,_,_,_,_,_⟩) (v := ?_) rfl (by kernel_rfl) (by kernel_rfl) (by kernel_rfl) (fun _ _ _ h=>h) (Or.inl ⟨by rfl, ?_⟩) (by assumption) ?_
     rotate_left
     ·intro w hSw
      obtain ⟨q0,q1,q2⟩:=hSw
      go_simp
      first | done | with_reducible rfl
     try simp only [Act.put,List.setIfInBounds_toArray,List.set_cons_zero,List.set_cons_succ]
     by_cases hb : bh = nx
     ·subst hb
      refine wpAnyH_take (i:=6) (oi:=⟨some 35,_,_,_,_,_⟩) (v := ?_) rfl (by kernel_rfl) (by kernel_rfl) (by kernel_rfl) (fun _ _ _ h=>h) (Or.inl ⟨by rfl, ?_⟩) (by assumption) ?_
      rotate_left
      ·intro w hSw
       obtain ⟨q0,q1,q2⟩:=hSw
       go_simp
       first | done | with_reducible rfl
      try simp only [Act.put,List.setIfInBounds_toArray,List.set_cons_zero,List.set_cons_succ]
      refine wpAnyH_take (i:=7) (oi:=⟨some 36,_,_,_,_,_⟩) (v := ?_) rfl (by kernel_rfl) (by kernel_rfl) (by kernel_rfl) (fun _ _ _ h=>h) (Or.inl ⟨by rfl, ?_⟩) (by assumption) ?_
      rotate_left
      ·intro w hSw
       obtain ⟨q0,q1,q2⟩:=hSw
       go_simp
       first | done | with_reducible rfl
      try simp only [Act.put,List.setIfInBounds_toArray,List.set_cons_zero,List.set_cons_succ]
      refine wpAnyH_take (i:=8) (oi:=⟨some 37,_,_,_,_,_⟩) (v := ?_) rfl (by kernel_rfl) (by kernel_rfl) (by kernel_rfl) (fun _ _ _ h=>h) (Or.inl ⟨by rfl, ?_⟩) (by assumption) ?_
      rotate_left
      ·intro w hSw
       obtain ⟨q0,q1,q2⟩:=hSw
       go_simp
       first | done | with_reducible rfl
      try simp only [Act.put,List.setIfInBounds_toArray,List.set_cons_zero,List.set_cons_succ]
      refine wpAnyH_take (i:=9) (oi:=⟨some 38,_,_,_,_,_⟩) (v := ?_) rfl (by kernel_rfl) (by kernel_rfl) (by kernel_rfl) (fun _ _ _ h=>h) (Or.inl ⟨by rfl, ?_⟩) (by assumption) ?_
      rotate_left
      ·intro w hSw
       obtain ⟨q0,q1,q2⟩:=hSw
       go_simp
       first | done | with_reducible rfl
      try simp only [Act.put,List.setIfInBounds_toArray,List.set_cons_zero,List.set_cons_succ]
      refine wpAnyH_take (i:=10) (oi:=⟨some 39,_,_,_,_,_⟩) (v := ?_) rfl (by kernel_rfl) (by kernel_rfl) (by kernel_rfl) (fun _ _ _ h=>h) (Or.inl ⟨by rfl, ?_⟩) (by assumption) ?_
      rotate_left
      ·intro w hSw
       obtain ⟨q0,q1,q2⟩:=hSw
       go_simp
       first | done | with_reducible rfl
      try simp only [Act.put,List.setIfInBounds_toArray,List.set_cons_zero,List.set_cons_succ]
      refine wpAnyH_take (i:=11) (oi:=⟨some 40,_,_,_,_,_⟩) (v := ?_) rfl (by kernel_rfl) (by kernel_rfl) (by kernel_rfl) (fun _ _ _ h=>h) (Or.inl ⟨by rfl, ?_⟩) (by assumption) ?_
      rotate_left
      ·intro w hSw
       obtain ⟨q0,q1,q2⟩:=hSw
       go_simp
       first | done | with_reducible rfl
      try simp only [Act.put,List.setIfInBounds_toArray,List.set_cons_zero,List.set_cons_succ]
      refine wpAnyH_take (i:=12) (oi:=⟨some 41,_,_,_,_,_⟩) (v := ?_) rfl (by kernel_rfl) (by kernel_rfl) (by kernel_rfl) (fun _ _ _ h=>h) (Or.inl ⟨by rfl, ?_⟩) (by assumption) ?_
      rotate_left
      ·intro w hSw
       obtain ⟨q0,q1,q2⟩:=hSw
       go_simp
       first | done | with_reducible rfl
      try simp only [Act.put,List.setIfInBounds_toArray,List.set_cons_zero,List.set_cons_succ]
      refine wpAnyH_take (i:=14) (oi:=⟨some 43,_,_,_,_,_⟩) (v := ?_) rfl (by kernel_rfl) (by kernel_rfl) (by kernel_rfl) (fun _ _ _ h=>h) (Or.inl ⟨by rfl, ?_⟩) (by assumption) ?_
      rotate_left
      ·intro w hSw
       obtain ⟨q0,q1,q2⟩:=hSw
       go_simp
       first | done | with_reducible rfl
      try simp only [Act.put,List.setIfInBounds_toArray,List.set_cons_zero,List.set_cons_succ]
      refine wpAnyH_take (i:=15) (oi:=⟨some 44,_,_,_,_,_⟩) (v := ?_) rfl (by kernel_rfl) (by kernel_rfl) (by kernel_rfl) (fun _ _ _ h=>h) (Or.inl ⟨by rfl, ?_⟩) (by assumption) ?_
      rotate_left
      ·intro w hSw
       obtain ⟨q0,q1,q2⟩:=hSw
       go_simp
       first | done | with_reducible rfl
      try simp only [Act.put,List.setIfInBounds_toArray,List.set_cons_zero,List.set_cons_succ]
      refine wpAnyH_ready (rs := [13]) (by kernel_rfl) (by simp) ?_
      refine AllReadyH.cons rfl (fun K hK => ?_) AllReadyH.nil
      go_simp
      refine (HBh.out _).mono ?_
      rintro q w2 ⟨rfl,hb⟩
      have B2 : Below W0.heap.size W0 w2:=(by first | exact hb | exact hb.start)
      have F2:=Live.hb F0 B2
      have e0 : w2.cell? ⟨bp,0,none⟩ = some (.slice (some ⟨ad,off,none⟩) items.length c):=F2.out.cell 0 0 rfl rfl
      have e1 : w2.cell? ⟨bp,1,none⟩ = some (.string ⟨bh.toArray⟩):=F2.out.cell 0 1 rfl rfl
      have e2:=(B2.cell (p:=⟨ad,off + k * 2,none⟩) HLt.out).trans kc
      clear hb
      go_simp
      refine hK.out _ _ ⟨e0,e1,e2⟩ (fun hHeld => ?_)
      clear hK
      try simp only [Act.put,List.setIfInBounds_toArray,List.set_cons_zero,List.set_cons_succ]
      refine wpAnyH_take (i:=16) (oi:=⟨some 45,_,_,_,_,_⟩) (v := ?_) rfl (by kernel_rfl) (by kernel_rfl) (by kernel_rfl) (fun _ _ _ h=>h) (Or.inl ⟨by rfl, ?_⟩) (by assumption) ?_
      rotate_left
      ·intro w hSw
       obtain ⟨q0,q1,q2⟩:=hSw
       go_simp
       first | done | with_reducible rfl
      try simp only [Act.put,List.setIfInBounds_toArray,List.set_cons_zero,List.set_cons_succ]
      refine wpAnyH_take (i:=17) (oi:=⟨some 46,_,_,_,_,_⟩) (v := ?_) rfl (by kernel_rfl) (by kernel_rfl) (by kernel_rfl) (fun _ _ _ h=>h) (Or.inl ⟨by rfl, ?_⟩) (by assumption) ?_
      rotate_left
      ·intro w hSw
       obtain ⟨q0,q1,q2⟩:=hSw
       go_simp
       first | done | with_reducible rfl
      try simp only [Act.put,List.setIfInBounds_toArray,List.set_cons_zero,List.set_cons_succ]
      refine wpAnyH_take (i:=18) (oi:=⟨some 47,_,_,_,_,_⟩) (v := ?_) rfl (by kernel_rfl) (by kernel_rfl) (by kernel_rfl) (fun _ _ _ h=>h) (Or.inl ⟨by rfl, ?_⟩) (by assumption) ?_
      rotate_left
      ·intro w hSw
       obtain ⟨q0,q1,q2⟩:=hSw
       go_simp
       first | done | with_reducible rfl
      try simp only [Act.put,List.setIfInBounds_toArray,List.set_cons_zero,List.set_cons_succ]
      refine wpAnyH_take (i:=19) (oi:=⟨some 48,_,_,_,_,_⟩) (v := ?_) rfl (by kernel_rfl) (by kernel_rfl) (by kernel_rfl) (fun _ _ _ h=>h) (Or.inl ⟨by rfl, ?_⟩) (by assumption) ?_
      rotate_left
      ·intro w hSw
       obtain ⟨q0,q1,q2⟩:=hSw
       go_simp
       first | done | with_reducible rfl
      try simp only [Act.put,List.setIfInBounds_toArray,List.set_cons_zero,List.set_cons_succ]
      by_cases he0 : e = []
      ·subst he0
       have HG : Hid (Trie.goesOnW items bh [] (k + 1) = true):=Lib.hid (by rw [HGo.out,if_neg (by rw [HLe.out]; simp)]; simp)
       refine wpAnyH_take (i:=20) (oi:=⟨some 49,_,_,_,_,_⟩) (v := ?_) rfl (by kernel_rfl) (by kernel_rfl) (by kernel_rfl) (fun _ _ _ h=>h) (Or.inl ⟨by rfl, ?_⟩) (by assumption) ?_
       rotate_left
       ·intro w hSw
        obtain ⟨q0,q1,q2⟩:=hSw
        go_simp
        first | done | with_reducible rfl
       try simp only [Act.put,List.setIfInBounds_toArray,List.set_cons_zero,List.set_cons_succ]
       refine wpAnyH_take (i:=21) (oi:=⟨some 50,_,_,_,_,_⟩) (v := ?_) rfl (by kernel_rfl) (by kernel_rfl) (by kernel_rfl) (fun _ _ _ h=>h) (Or.inl ⟨by rfl, ?_⟩) (by assumption) ?_
       rotate_left
       ·intro w hSw
        obtain ⟨q0,q1,q2⟩:=hSw
        go_simp
        first | done | with_reducible rfl
       try simp only [Act.put,List.setIfInBounds_toArray,List.set_cons_zero,List.set_cons_succ]
       refine wpAnyH_take (i:=22) (oi:=⟨some 51,_,_,_,_,_⟩) (v:=undef) rfl (by kernel_rfl) (by kernel_rfl) (by kernel_rfl) (fun _ _ _ h=>h) (Or.inr ⟨by rfl,rfl⟩) (by assumption) ?_
       try simp only [Act.put,List.setIfInBounds_toArray,List.set_cons_zero,List.set_cons_succ]
       refine wpAnyH_take (i:=23) (oi:=⟨some 52,_,_,_,_,_⟩) (v:=undef) rfl (by kernel_rfl) (by kernel_rfl) (by kernel_rfl) (fun _ _ _ h=>h) (Or.inr ⟨by rfl,rfl⟩) (by assumption) ?_
       try simp only [Act.put,List.setIfInBounds_toArray,List.set_cons_zero,List.set_cons_succ]
       refine wpAnyH_take (i:=24) (oi:=⟨some 53,_,_,_,_,_⟩) (v:=undef) rfl (by kernel_rfl) (by kernel_rfl) (by kernel_rfl) (fun _ _ _ h=>h) (Or.inr ⟨by rfl,rfl⟩) (by assumption) ?_
       try simp only [Act.put,List.setIfInBounds_toArray,List.set_cons_zero,List.set_cons_succ]
       refine wpAnyH_take (i:=25) (oi:=⟨some 54,_,_,_,_,_⟩) (v:=undef) rfl (by kernel_rfl) (by kernel_rfl) (by kernel_rfl) (fun _ _ _ h=>h) (Or.inr ⟨by rfl,rfl⟩) (by assumption) ?_
       try simp only [Act.put,List.setIfInBounds_toArray,List.set_cons_zero,List.set_cons_succ]
       refine wpAnyH_take (i:=26) (oi:=⟨some 55,_,_,_,_,_⟩) (v := ?_) rfl (by kernel_rfl) (by kernel_rfl) (by kernel_rfl) (fun _ _ _ h=>h) (Or.inl ⟨by rfl, ?_⟩) (by assumption) ?_
       rotate_left
       ·intro w hSw
        obtain ⟨q0,q1,q2⟩:=hSw
        go_simp
        first | done | with_reducible rfl
       try simp only [Act.put,List.setIfInBounds_toArray,List.set_cons_zero,List.set_cons_succ]
       refine wpAnyH_take (i:=27) (oi:=⟨some 56,_,_,_,_,_⟩) (v := ?_) rfl (by kernel_rfl) (by kernel_rfl) (by kernel_rfl) (fun _ _ _ h=>h) (Or.inl ⟨by rfl, ?_⟩) (by assumption) ?_
       rotate_left
       ·intro w hSw
        obtain ⟨q0,q1,q2⟩:=hSw
        go_simp
        first | done | with_reducible rfl
       try simp only [Act.put,List.setIfInBounds_toArray,List.set_cons_zero,List.set_cons_succ]
       refine wpAnyH_done (by kernel_rfl) ?_ _
       refine NoPanic.normal ?_
       go_wp2_with fail
       go_meet
       exact ⟨F2.out,HG.out⟩
      ·have ee1 : (e.toArray = #[]) = False:=by simp [he0]
       have ee2 : e.isEmpty = false:=by simp [he0]
       cases hlt : Op.bytesLess bh e with
       | true =>
        have HG : Hid (Trie.goesOnW items bh e (k + 1) = true):=Lib.hid (by rw [HGo.out,if_neg (by rw [HLe.out,hlt]; simp)]; simp)
        clear he0
        refine wpAnyH_take (i:=20) (oi:=⟨some 49,_,_,_,_,_⟩) (v := ?_) rfl (by kernel_rfl) (by kernel_rfl) (by kernel_rfl) (fun _ _ _ h=>h) (Or.inl ⟨by rfl, ?_⟩) (by assumption) ?_
        rotate_left
        ·intro w hSw
         obtain ⟨q0,q1,q2⟩:=hSw
         go_simp
         first | done | with_reducible rfl
        try simp only [Act.put,List.setIfInBounds_toArray,List.set_cons_zero,List.set_cons_succ]
        refine wpAnyH_take (i:=21) (oi:=⟨some 50,_,_,_,_,_⟩) (v := ?_) rfl (by kernel_rfl) (by kernel_rfl) (by kernel_rfl) (fun _ _ _ h=>h) (Or.inl ⟨by rfl, ?_⟩) (by assumption) ?_
        rotate_left
        ·intro w hSw
         obtain ⟨q0,q1,q2⟩:=hSw
         go_simp
         first | done | with_reducible rfl
        try simp only [Act.put,List.setIfInBounds_toArray,List.set_cons_zero,List.set_cons_succ]
        refine wpAnyH_take (i:=22) (oi:=⟨some 51,_,_,_,_,_⟩) (v := ?_) rfl (by kernel_rfl) (by kernel_rfl) (by kernel_rfl) (fun _ _ _ h=>h) (Or.inl ⟨by rfl, ?_⟩) (by assumption) ?_
        rotate_left
        ·intro w hSw
         obtain ⟨q0,q1,q2⟩:=hSw
         go_simp
         first | done | with_reducible rfl
        try simp only [Act.put,List.setIfInBounds_toArray,List.set_cons_zero,List.set_cons_succ]
        refine wpAnyH_take (i:=23) (oi:=⟨some 52,_,_,_,_,_⟩) (v := ?_) rfl (by kernel_rfl) (by kernel_rfl) (by kernel_rfl) (fun _ _ _ h=>h) (Or.inl ⟨by rfl, ?_⟩) (by assumption) ?_
        rotate_left
        ·intro w hSw
         obtain ⟨q0,q1,q2⟩:=hSw
         go_simp
         first | done | with_reducible rfl
        try simp only [Act.put,List.setIfInBounds_toArray,List.set_cons_zero,List.set_cons_succ]
        refine wpAnyH_take (i:=24) (oi:=⟨some 53,_,_,_,_,_⟩) (v := ?_) rfl (by kernel_rfl) (by kernel_rfl) (by kernel_rfl) (fun _ _ _ h=>h) (Or.inl ⟨by rfl, ?_⟩) (by assumption) ?_
        rotate_left
        ·intro w hSw
         obtain ⟨q0,q1,q2⟩:=hSw
         go_simp
         first | done | with_reducible rfl
        try simp only [Act.put,List.setIfInBounds_toArray,List.set_cons_zero,List.set_cons_succ]
        refine wpAnyH_take (i:=25) (oi:=⟨some 54,_,_,_,_,_⟩) (v := ?_) rfl (by kernel_rfl) (by kernel_rfl) (by kernel_rfl) (fun _ _ _ h=>h) (Or.inl ⟨by rfl, ?_⟩) (by assumption) ?_
        rotate_left
        ·intro w hSw
         obtain ⟨q0,q1,q2⟩:=hSw
         go_simp
         first | done | with_reducible rfl
        try simp only [Act.put,List.setIfInBounds_toArray,List.set_cons_zero,List.set_cons_succ]
        refine wpAnyH_take (i:=26) (oi:=⟨some 55,_,_,_,_,_⟩) (v := ?_) rfl (by kernel_rfl) (by kernel_rfl) (by kernel_rfl) (fun _ _ _ h=>h) (Or.inl ⟨by rfl, ?_⟩) (by assumption) ?_
        rotate_left
        ·intro w hSw
         obtain ⟨q0,q1,q2⟩:=hSw
         go_simp
         first | done | with_reducible rfl
        try simp only [Act.put,List.setIfInBounds_toArray,List.set_cons_zero,List.set_cons_succ]
        refine wpAnyH_take (i:=27) (oi:=⟨some 56,_,_,_,_,_⟩) (v := ?_) rfl (by kernel_rfl) (by kernel_rfl) (by kernel_rfl) (fun _ _ _ h=>h) (Or.inl ⟨by rfl, ?_⟩) (by assumption) ?_
        rotate_left
        ·intro w hSw
         obtain ⟨q0,q1,q2⟩:=hSw
         go_simp
         first | done | with_reducible rfl
        try simp only [Act.put,List.setIfInBounds_toArray,List.set_cons_zero,List.set_cons_succ]
        refine wpAnyH_done (by kernel_rfl) ?_ _
        refine NoPanic.normal ?_
        go_wp2_with fail
        go_meet
        exact ⟨F2.out,HG.out⟩
       | false =>
        have hX : Hid (X = ([], [],130)):=Lib.hid (by rw [HX.out,if_pos (by rw [HGo.out,if_pos (.inr ⟨he0,hlt⟩)])])
        clear he0
        refine wpAnyH_take (i:=20) (oi:=⟨some 49,_,_,_,_,_⟩) (v := ?_) rfl (by kernel_rfl) (by kernel_rfl) (by kernel_rfl) (fun _ _ _ h=>h) (Or.inl ⟨by rfl, ?_⟩) (by assumption) ?_
        rotate_left
        ·intro w hSw
         obtain ⟨q0,q1,q2⟩:=hSw
         go_simp
         first | done | with_reducible rfl
        try simp only [Act.put,List.setIfInBounds_toArray,List.set_cons_zero,List.set_cons_succ]
        refine wpAnyH_take (i:=21) (oi:=⟨some 50,_,_,_,_,_⟩) (v := ?_) rfl (by kernel_rfl) (by kernel_rfl) (by kernel_rfl) (fun _ _ _ h=>h) (Or.inl ⟨by rfl, ?_⟩) (by assumption) ?_
        rotate_left
        ·intro w hSw
         obtain ⟨q0,q1,q2⟩:=hSw
         go_simp
         first | done | with_reducible rfl
        try simp only [Act.put,List.setIfInBounds_toArray,List.set_cons_zero,List.set_cons_succ]
        refine wpAnyH_take (i:=22) (oi:=⟨some 51,_,_,_,_,_⟩) (v := ?_) rfl (by kernel_rfl) (by kernel_rfl) (by kernel_rfl) (fun _ _ _ h=>h) (Or.inl ⟨by rfl, ?_⟩) (by assumption) ?_
        rotate_left
        ·intro w hSw
         obtain ⟨q0,q1,q2⟩:=hSw
         go_simp
         first | done | with_reducible rfl
        try simp only [Act.put,List.setIfInBounds_toArray,List.set_cons_zero,List.set_cons_succ]
        refine wpAnyH_take (i:=23) (oi:=⟨some 52,_,_,_,_,_⟩) (v := ?_) rfl (by kernel_rfl) (by kernel_rfl) (by kernel_rfl) (fun _ _ _ h=>h) (Or.inl ⟨by rfl, ?_⟩) (by assumption) ?_
        rotate_left
        ·intro w hSw
         obtain ⟨q0,q1,q2⟩:=hSw
         go_simp
         first | done | with_reducible rfl
        try simp only [Act.put,List.setIfInBounds_toArray,List.set_cons_zero,List.set_cons_succ]
        refine wpAnyH_take (i:=24) (oi:=⟨some 53,_,_,_,_,_⟩) (v := ?_) rfl (by kernel_rfl) (by kernel_rfl) (by kernel_rfl) (fun _ _ _ h=>h) (Or.inl ⟨by rfl, ?_⟩) (by assumption) ?_
        rotate_left
        ·intro w hSw
         obtain ⟨q0,q1,q2⟩:=hSw
         go_simp
         first | done | with_reducible rfl
        try simp only [Act.put,List.setIfInBounds_toArray,List.set_cons_zero,List.set_cons_succ]
        refine wpAnyH_take (i:=25) (oi:=⟨some 54,_,_,_,_,_⟩) (v := ?_) rfl (by kernel_rfl) (by kernel_rfl) (by kernel_rfl) (fun _ _ _ h=>h) (Or.inl ⟨by rfl, ?_⟩) (by assumption) ?_
        rotate_left
        ·intro w hSw
         obtain ⟨q0,q1,q2⟩:=hSw
         go_simp
         first | done | with_reducible rfl
        try simp only [Act.put,List.setIfInBounds_toArray,List.set_cons_zero,List.set_cons_succ]
        refine wpAnyH_take (i:=26) (oi:=⟨some 55,_,_,_,_,_⟩) (v := ?_) rfl (by kernel_rfl) (by kernel_rfl) (by kernel_rfl) (fun _ _ _ h=>h) (Or.inl ⟨by rfl, ?_⟩) (by assumption) ?_
        rotate_left
        ·intro w hSw
         obtain ⟨q0,q1,q2⟩:=hSw
         go_simp
         first | done | with_reducible rfl
        try simp only [Act.put,List.setIfInBounds_toArray,List.set_cons_zero,List.set_cons_succ]
        refine wpAnyH_take (i:=27) (oi:=⟨some 56,_,_,_,_,_⟩) (v := ?_) rfl (by kernel_rfl) (by kernel_rfl) (by kernel_rfl) (fun _ _ _ h=>h) (Or.inl ⟨by rfl, ?_⟩) (by assumption) ?_
        rotate_left
        ·intro w hSw
         obtain ⟨q0,q1,q2⟩:=hSw
         go_simp
         first | done | with_reducible rfl
        try simp only [Act.put,List.setIfInBounds_toArray,List.set_cons_zero,List.set_cons_succ]
        refine wpAnyH_done (by kernel_rfl) ?_ _
        refine NoPanic.normal ?_
        go_wp2_with fail
        exact HNil.out 130 _ hX.out F2.out.b
     ·have hbq : (bh == nx) = false:=by rw [beq_eq_false_iff_ne]; exact hb
      have hX : Hid (X = ([], [],130)):=Lib.hid (by
       rw [HX.out,if_pos ?_]
       rw [HGo.out]
       split
       ·rfl
       ·exact decide_eq_false (fun h=>hb h.symm))
      clear hb
      refine wpAnyH_take (i:=6) (oi:=⟨some 35,_,_,_,_,_⟩) (v := ?_) rfl (by kernel_rfl) (by kernel_rfl) (by kernel_rfl) (fun _ _ _ h=>h) (Or.inl ⟨by rfl, ?_⟩) (by assumption) ?_
      rotate_left
      ·intro w hSw
       obtain ⟨q0,q1,q2⟩:=hSw
       go_simp
       first | done | with_reducible rfl
      try simp only [Act.put,List.setIfInBounds_toArray,List.set_cons_zero,List.set_cons_succ]
      refine wpAnyH_take (i:=7) (oi:=⟨some 36,_,_,_,_,_⟩) (v := ?_) rfl (by kernel_rfl) (by kernel_rfl) (by kernel_rfl) (fun _ _ _ h=>h) (Or.inl ⟨by rfl, ?_⟩) (by assumption) ?_
      rotate_left
      ·intro w hSw
       obtain ⟨q0,q1,q2⟩:=hSw
       go_simp
       first | done | with_reducible rfl
      try simp only [Act.put,List.setIfInBounds_toArray,List.set_cons_zero,List.set_cons_succ]
      refine wpAnyH_take (i:=8) (oi:=⟨some 37,_,_,_,_,_⟩) (v := ?_) rfl (by kernel_rfl) (by kernel_rfl) (by kernel_rfl) (fun _ _ _ h=>h) (Or.inl ⟨by rfl, ?_⟩) (by assumption) ?_
      rotate_left
      ·intro w hSw
       obtain ⟨q0,q1,q2⟩:=hSw
       go_simp
       first | done | with_reducible rfl
      try simp only [Act.put,List.setIfInBounds_toArray,List.set_cons_zero,List.set_cons_succ]
      refine wpAnyH_take (i:=9) (oi:=⟨some 38,_,_,_,_,_⟩) (v := ?_) rfl (by kernel_rfl) (by kernel_rfl) (by kernel_rfl) (fun _ _ _ h=>h) (Or.inl ⟨by rfl, ?_⟩) (by assumption) ?_
      rotate_left
      ·intro w hSw
       obtain ⟨q0,q1,q2⟩:=hSw
       go_simp
       first | done | with_reducible rfl
      try simp only [Act.put,List.setIfInBounds_toArray,List.set_cons_zero,List.set_cons_succ]
      refine wpAnyH_take (i:=10) (oi:=⟨some 39,_,_,_,_,_⟩) (v := ?_) rfl (by kernel_rfl) (by kernel_rfl) (by kernel_rfl) (fun _ _ _ h=>h) (Or.inl ⟨by rfl, ?_⟩) (by assumption) ?_
      rotate_left
      ·intro w hSw
       obtain ⟨q0,q1,q2⟩:=hSw
       go_simp
       first | done | with_reducible rfl
      try simp only [Act.put,List.setIfInBounds_toArray,List.set_cons_zero,List.set_cons_succ]
      refine wpAnyH_take (i:=11) (oi:=⟨some 40,_,_,_,_,_⟩) (v := ?_) rfl (by kernel_rfl) (by kernel_rfl) (by kernel_rfl) (fun _ _ _ h=>h) (Or.inl ⟨by rfl, ?_⟩) (by assumption) ?_
      rotate_left
      ·intro w hSw
       obtain ⟨q0,q1,q2⟩:=hSw
       go_simp
       first | done | with_reducible rfl
      try simp only [Act.put,List.setIfInBounds_toArray,List.set_cons_zero,List.set_cons_succ]
      refine wpAnyH_take (i:=12) (oi:=⟨some 41,_,_,_,_,_⟩) (v := ?_) rfl (by kernel_rfl) (by kernel_rfl) (by kernel_rfl) (fun _ _ _ h=>h) (Or.inl ⟨by rfl, ?_⟩) (by assumption) ?_
      rotate_left
      ·intro w hSw
       obtain ⟨q0,q1,q2⟩:=hSw
       go_simp
       first | done | with_reducible rfl
      try simp only [Act.put,List.setIfInBounds_toArray,List.set_cons_zero,List.set_cons_succ]
      refine wpAnyH_take (i:=14) (oi:=⟨some 43,_,_,_,_,_⟩) (v := ?_) rfl (by kernel_rfl) (by kernel_rfl) (by kernel_rfl) (fun _ _ _ h=>h) (Or.inl ⟨by rfl, ?_⟩) (by assumption) ?_
      rotate_left
      ·intro w hSw
       obtain ⟨q0,q1,q2⟩:=hSw
       go_simp
       first | done | with_reducible rfl
      try simp only [Act.put,List.setIfInBounds_toArray,List.set_cons_zero,List.set_cons_succ]
      refine wpAnyH_take (i:=15) (oi:=⟨some 44,_,_,_,_,_⟩) (v := ?_) rfl (by kernel_rfl) (by kernel_rfl) (by kernel_rfl) (fun _ _ _ h=>h) (Or.inl ⟨by rfl, ?_⟩) (by assumption) ?_
      rotate_left
      ·intro w hSw
       obtain ⟨q0,q1,q2⟩:=hSw
       go_simp
       first | done | with_reducible rfl
      try simp only [Act.put,List.setIfInBounds_toArray,List.set_cons_zero,List.set_cons_succ]
      refine wpAnyH_ready (rs := [13]) (by kernel_rfl) (by simp) ?_
      refine AllReadyH.cons rfl (fun K hK => ?_) AllReadyH.nil
      go_simp
      refine (HBh.out _).mono ?_
      rintro q w2 ⟨rfl,hb⟩
      have B2 : Below W0.heap.size W0 w2:=(by first | exact hb | exact hb.start)
      have F2:=Live.hb F0 B2
      have e0 : w2.cell? ⟨bp,0,none⟩ = some (.slice (some ⟨ad,off,none⟩) items.length c):=F2.out.cell 0 0 rfl rfl
      have e1 : w2.cell? ⟨bp,1,none⟩ = some (.string ⟨nx.toArray⟩):=F2.out.cell 0 1 rfl rfl
      have e2:=(B2.cell (p:=⟨ad,off + k * 2,none⟩) HLt.out).trans kc
      clear hb
      go_simp
      refine hK.out _ _ ⟨e0,e1,e2⟩ (fun hHeld => ?_)
      clear hK
      try simp only [Act.put,List.setIfInBounds_toArray,List.set_cons_zero,List.set_cons_succ]
      refine wpAnyH_take (i:=16) (oi:=⟨some 45,_,_,_,_,_⟩) (v := ?_) rfl (by kernel_rfl) (by kernel_rfl) (by kernel_rfl) (fun _ _ _ h=>h) (Or.inl ⟨by rfl, ?_⟩) (by assumption) ?_
      rotate_left
      ·intro w hSw
       obtain ⟨q0,q1,q2⟩:=hSw
       go_simp
       first | done | with_reducible rfl
      try simp only [Act.put,List.setIfInBounds_toArray,List.set_cons_zero,List.set_cons_succ]
      refine wpAnyH_take (i:=17) (oi:=⟨some 46,_,_,_,_,_⟩) (v := ?_) rfl (by kernel_rfl) (by kernel_rfl) (by kernel_rfl) (fun _ _ _ h=>h) (Or.inl ⟨by rfl, ?_⟩) (by assumption) ?_
      rotate_left
      ·intro w hSw
       obtain ⟨q0,q1,q2⟩:=hSw
       go_simp
       first | done | with_reducible rfl
      try simp only [Act.put,List.setIfInBounds_toArray,List.set_cons_zero,List.set_cons_succ]
      refine wpAnyH_take (i:=18) (oi:=⟨some 47,_,_,_,_,_⟩) (v := ?_) rfl (by kernel_rfl) (by kernel_rfl) (by kernel_rfl) (fun _ _ _ h=>h) (Or.inl ⟨by rfl, ?_⟩) (by assumption) ?_
      rotate_left
      ·intro w hSw
       obtain ⟨q0,q1,q2⟩:=hSw
       go_simp
       first | done | with_reducible rfl
      try simp only [Act.put,List.setIfInBounds_toArray,List.set_cons_zero,List.set_cons_succ]
      refine wpAnyH_take (i:=19) (oi:=⟨some 48,_,_,_,_,_⟩) (v:=undef) rfl (by kernel_rfl) (by kernel_rfl) (by kernel_rfl) (fun _ _ _ h=>h) (Or.inr ⟨by rfl,rfl⟩) (by assumption) ?_
      try simp only [Act.put,List.setIfInBounds_toArray,List.set_cons_zero,List.set_cons_succ]
      refine wpAnyH_take (i:=20) (oi:=⟨some 49,_,_,_,_,_⟩) (v:=undef) rfl (by kernel_rfl) (by kernel_rfl) (by kernel_rfl) (fun _ _ _ h=>h) (Or.inr ⟨by rfl,rfl⟩) (by assumption) ?_
      try simp only [Act.put,List.setIfInBounds_toArray,List.set_cons_zero,List.set_cons_succ]
      refine wpAnyH_take (i:=21) (oi:=⟨some 50,_,_,_,_,_⟩) (v:=undef) rfl (by kernel_rfl) (by kernel_rfl) (by kernel_rfl) (fun _ _ _ h=>h) (Or.inr ⟨by rfl,rfl⟩) (by assumption) ?_
      try simp only [Act.put,List.setIfInBounds_toArray,List.set_cons_zero,List.set_cons_succ]
      refine wpAnyH_take (i:=22) (oi:=⟨some 51,_,_,_,_,_⟩) (v:=undef) rfl (by kernel_rfl) (by kernel_rfl) (by kernel_rfl) (fun _ _ _ h=>h) (Or.inr ⟨by rfl,rfl⟩) (by assumption) ?_
      try simp only [Act.put,List.setIfInBounds_toArray,List.set_cons_zero,List.set_cons_succ]
      refine wpAnyH_take (i:=23) (oi:=⟨some 52,_,_,_,_,_⟩) (v:=undef) rfl (by kernel_rfl) (by kernel_rfl) (by kernel_rfl) (fun _ _ _ h=>h) (Or.inr ⟨by rfl,rfl⟩) (by assumption) ?_
      try simp only [Act.put,List.setIfInBounds_toArray,List.set_cons_zero,List.set_cons_succ]
      refine wpAnyH_take (i:=24) (oi:=⟨some 53,_,_,_,_,_⟩) (v:=undef) rfl (by kernel_rfl) (by kernel_rfl) (by kernel_rfl) (fun _ _ _ h=>h) (Or.inr ⟨by rfl,rfl⟩) (by assumption) ?_
      try simp only [Act.put,List.setIfInBounds_toArray,List.set_cons_zero,List.set_cons_succ]
      refine wpAnyH_take (i:=25) (oi:=⟨some 54,_,_,_,_,_⟩) (v:=undef) rfl (by kernel_rfl) (by kernel_rfl) (by kernel_rfl) (fun _ _ _ h=>h) (Or.inr ⟨by rfl,rfl⟩) (by assumption) ?_
      try simp only [Act.put,List.setIfInBounds_toArray,List.set_cons_zero,List.set_cons_succ]
      refine wpAnyH_take (i:=26) (oi:=⟨some 55,_,_,_,_,_⟩) (v:=undef) rfl (by kernel_rfl) (by kernel_rfl) (by kernel_rfl) (fun _ _ _ h=>h) (Or.inr ⟨by rfl,rfl⟩) (by assumption) ?_
      try simp only [Act.put,List.setIfInBounds_toArray,List.set_cons_zero,List.set_cons_succ]
      refine wpAnyH_take (i:=27) (oi:=⟨some 56,_,_,_,_,_⟩) (v := ?_) rfl (by kernel_rfl) (by kernel_rfl) (by kernel_rfl) (fun _ _ _ h=>h) (Or.inl ⟨by rfl, ?_⟩) (by assumption) ?_
      rotate_left
      ·intro w hSw
       obtain ⟨q0,q1,q2⟩:=hSw
       go_simp
       first | done | with_reducible rfl
      try simp only [Act.put,List.setIfInBounds_toArray,List.set_cons_zero,List.set_cons_succ]
      refine wpAnyH_done (by kernel_rfl) ?_ _
      refine NoPanic.normal ?_
      go_wp2_with fail
      exact HNil.out 130 _ hX.out F2.out.b
    ·have hX : Hid (X = ([], [],130)):=Lib.hid (by rw [HX.out,if_pos (by rw [HGo.out,if_pos (.inl hlen)])])
     have hlq : ((items.length : Int) != (m : Int)) = true:=by rw [bne_iff_ne]; omega
     have k0_0 : W0.cell? ⟨bp,0,none⟩ = some (.slice A items.length c):=F0.out.cell 0 0 rfl rfl
     have k0_1 : W0.cell? ⟨bp,1,none⟩ = some (.string ⟨nx.toArray⟩):=F0.out.cell 0 1 rfl rfl
     clear HR HN h1 h2 hlen
     go_upto_region 6 with fail
     refine wp_region_noPanic ?_
     refine wp_region_held_drew (S:=fun w'=>w'.cell? ⟨bp,0,none⟩ = some (.slice A items.length c) ∧ w'.cell? ⟨bp,1,none⟩ = some (.string ⟨nx.toArray⟩) ∧ True) (by kernel_rfl) ⟨k0_0,k0_1,trivial⟩ (fun hHeld => ?_)
     refine wpAnyH_take (i:=0) (oi:=⟨some 29,_,_,_,_,_⟩) (v := ?_) rfl (by kernel_rfl) (by kernel_rfl) (by kernel_rfl) (fun _ _ _ h=>h) (Or.inl ⟨by rfl, ?_⟩) (by assumption) ?_
     rotate_left
     ·intro w hSw
      obtain ⟨q0,q1,q2⟩:=hSw
      go_simp
      first | done | with_reducible rfl
     try simp only [Act.put,List.setIfInBounds_toArray,List.set_cons_zero,List.set_cons_succ]
     refine wpAnyH_take (i:=1) (oi:=⟨some 30,_,_,_,_,_⟩) (v := ?_) rfl (by kernel_rfl) (by kernel_rfl) (by kernel_rfl) (fun _ _ _ h=>h) (Or.inl ⟨by rfl, ?_⟩) (by assumption) ?_
     rotate_left
     ·intro w hSw
      obtain ⟨q0,q1,q2⟩:=hSw
      go_simp
      first | done | with_reducible rfl
     try simp only [Act.put,List.setIfInBounds_toArray,List.set_cons_zero,List.set_cons_succ]
     refine wpAnyH_take (i:=2) (oi:=⟨some 31,_,_,_,_,_⟩) (v := ?_) rfl (by kernel_rfl) (by kernel_rfl) (by kernel_rfl) (fun _ _ _ h=>h) (Or.inl ⟨by rfl, ?_⟩) (by assumption) ?_
     rotate_left
     ·intro w hSw
      obtain ⟨q0,q1,q2⟩:=hSw
      go_simp
      first | done | with_reducible rfl
     try simp only [Act.put,List.setIfInBounds_toArray,List.set_cons_zero,List.set_cons_succ]
     refine wpAnyH_take (i:=3) (oi:=⟨some 32,_,_,_,_,_⟩) (v := ?_) rfl (by kernel_rfl) (by kernel_rfl) (by kernel_rfl) (fun _ _ _ h=>h) (Or.inl ⟨by rfl, ?_⟩) (by assumption) ?_
     rotate_left
     ·intro w hSw
      obtain ⟨q0,q1,q2⟩:=hSw
      go_simp
      first | done | with_reducible rfl
     try simp only [Act.put,List.setIfInBounds_toArray,List.set_cons_zero,List.set_cons_succ]
     refine wpAnyH_take (i:=4) (oi:=⟨some 33,_,_,_,_,_⟩) (v := ?_) rfl (by kernel_rfl) (by kernel_rfl) (by kernel_rfl) (fun _ _ _ h=>h) (Or.inl ⟨by rfl, ?_⟩) (by assumption) ?_
     rotate_left
     ·intro w hSw
      obtain ⟨q0,q1,q2⟩:=hSw
      go_simp
      first | done | with_reducible rfl
     try simp only [Act.put,List.setIfInBounds_toArray,List.set_cons_zero,List.set_cons_succ]
     refine wpAnyH_take (i:=5) (oi:=⟨some 34,_,_,_,_,_⟩) (v := ?_) rfl (by kernel_rfl) (by kernel_rfl) (by kernel_rfl) (fun _ _ _ h=>h) (Or.inl ⟨by rfl, ?_⟩) (by assumption) ?_
     rotate_left
     ·intro w hSw
      obtain ⟨q0,q1,q2⟩:=hSw
      go_simp
      first | done | with_reducible rfl
     try simp only [Act.put,List.setIfInBounds_toArray,List.set_cons_zero,List.set_cons_succ]
     refine wpAnyH_take (i:=6) (oi:=⟨some 35,_,_,_,_,_⟩) (v:=undef) rfl (by kernel_rfl) (by kernel_rfl) (by kernel_rfl) (fun _ _ _ h=>h) (Or.inr ⟨by rfl,rfl⟩) (by assumption) ?_
     try simp only [Act.put,List.setIfInBounds_toArray,List.set_cons_zero,List.set_cons_succ]
     refine wpAnyH_take (i:=7) (oi:=⟨some 36,_,_,_,_,_⟩) (v:=undef) rfl (by kernel_rfl) (by kernel_rfl) (by kernel_rfl) (fun _ _ _ h=>h) (Or.inr ⟨by rfl,rfl⟩) (by assumption) ?_
     try simp only [Act.put,List.setIfInBounds_toArray,List.set_cons_zero,List.set_cons_succ]
     refine wpAnyH_take (i:=8) (oi:=⟨some 37,_,_,_,_,_⟩) (v:=undef) rfl (by kernel_rfl) (by kernel_rfl) (by kernel_rfl) (fun _ _ _ h=>h) (Or.inr ⟨by rfl,rfl⟩) (by assumption) ?_
     try simp only [Act.put,List.setIfInBounds_toArray,List.set_cons_zero,List.set_cons_succ]
     refine wpAnyH_take (i:=9) (oi:=⟨some 38,_,_,_,_,_⟩) (v:=undef) rfl (by kernel_rfl) (by kernel_rfl) (by kernel_rfl) (fun _ _ _ h=>h) (Or.inr ⟨by rfl,rfl⟩) (by assumption) ?_
     try simp only [Act.put,List.setIfInBounds_toArray,List.set_cons_zero,List.set_cons_succ]
     refine wpAnyH_take (i:=10) (oi:=⟨some 39,_,_,_,_,_⟩) (v:=undef) rfl (by kernel_rfl) (by kernel_rfl) (by kernel_rfl) (fun _ _ _ h=>h) (Or.inr ⟨by rfl,rfl⟩) (by assumption) ?_
     try simp only [Act.put,List.setIfInBounds_toArray,List.set_cons_zero,List.set_cons_succ]
     refine wpAnyH_take (i:=11) (oi:=⟨some 40,_,_,_,_,_⟩) (v:=undef) rfl (by kernel_rfl) (by kernel_rfl) (by kernel_rfl) (fun _ _ _ h=>h) (Or.inr ⟨by rfl,rfl⟩) (by assumption) ?_
     try simp only [Act.put,List.setIfInBounds_toArray,List.set_cons_zero,List.set_cons_succ]
     refine wpAnyH_take (i:=12) (oi:=⟨some 41,_,_,_,_,_⟩) (v:=undef) rfl (by kernel_rfl) (by kernel_rfl) (by kernel_rfl) (fun _ _ _ h=>h) (Or.inr ⟨by rfl,rfl⟩) (by assumption) ?_
     try simp only [Act.put,List.setIfInBounds_toArray,List.set_cons_zero,List.set_cons_succ]
     refine wpAnyH_take (i:=13) (oi:=⟨some 42,_,_,_,_,_⟩) (v:=undef) rfl (by kernel_rfl) (by kernel_rfl) (by kernel_rfl) (fun _ _ _ h=>h) (Or.inr ⟨by rfl,rfl⟩) (by assumption) ?_
     try simp only [Act.put,List.setIfInBounds_toArray,List.set_cons_zero,List.set_cons_succ]
     refine wpAnyH_take (i:=14) (oi:=⟨some 43,_,_,_,_,_⟩) (v:=undef) rfl (by kernel_rfl) (by kernel_rfl) (by kernel_rfl) (fun _ _ _ h=>h) (Or.inr ⟨by rfl,rfl⟩) (by assumption) ?_
     try simp only [Act.put,List.setIfInBounds_toArray,List.set_cons_zero,List.set_cons_succ]
     refine wpAnyH_take (i:=15) (oi:=⟨some 44,_,_,_,_,_⟩) (v:=undef) rfl (by kernel_rfl) (by kernel_rfl) (by kernel_rfl) (fun _ _ _ h=>h) (Or.inr ⟨by rfl,rfl⟩) (by assumption) ?_
     try simp only [Act.put,List.setIfInBounds_toArray,List.set_cons_zero,List.set_cons_succ]
     refine wpAnyH_take (i:=16) (oi:=⟨some 45,_,_,_,_,_⟩) (v:=undef) rfl (by kernel_rfl) (by kernel_rfl) (by kernel_rfl) (fun _ _ _ h=>h) (Or.inr ⟨by rfl,rfl⟩) (by assumption) ?_
     try simp only [Act.put,List.setIfInBounds_toArray,List.set_cons_zero,List.set_cons_succ]
     refine wpAnyH_take (i:=17) (oi:=⟨some 46,_,_,_,_,_⟩) (v := ?_) rfl (by kernel_rfl) (by kernel_rfl) (by kernel_rfl) (fun _ _ _ h=>h) (Or.inl ⟨by rfl, ?_⟩) (by assumption) ?_
     rotate_left
     ·intro w hSw
      obtain ⟨q0,q1,q2⟩:=hSw
      go_simp
      first | done | with_reducible rfl
     try simp only [Act.put,List.setIfInBounds_toArray,List.set_cons_zero,List.set_cons_succ]
     refine wpAnyH_take (i:=18) (oi:=⟨some 47,_,_,_,_,_⟩) (v := ?_) rfl (by kernel_rfl) (by kernel_rfl) (by kernel_rfl) (fun _ _ _ h=>h) (Or.inl ⟨by rfl, ?_⟩) (by assumption) ?_
     rotate_left
     ·intro w hSw
      obtain ⟨q0,q1,q2⟩:=hSw
      go_simp
      first | done | with_reducible rfl
     try simp only [Act.put,List.setIfInBounds_toArray,List.set_cons_zero,List.set_cons_succ]
     refine wpAnyH_take (i:=19) (oi:=⟨some 48,_,_,_,_,_⟩) (v:=undef) rfl (by kernel_rfl) (by kernel_rfl) (by kernel_rfl) (fun _ _ _ h=>h) (Or.inr ⟨by rfl,rfl⟩) (by assumption) ?_
     try simp only [Act.put,List.setIfInBounds_toArray,List.set_cons_zero,List.set_cons_succ]
     refine wpAnyH_take (i:=20) (oi:=⟨some 49,_,_,_,_,_⟩) (v:=undef) rfl (by kernel_rfl) (by kernel_rfl) (by kernel_rfl) (fun _ _ _ h=>h) (Or.inr ⟨by rfl,rfl⟩) (by assumption) ?_
     try simp only [Act.put,List.setIfInBounds_toArray,List.set_cons_zero,List.set_cons_succ]
     refine wpAnyH_take (i:=21) (oi:=⟨some 50,_,_,_,_,_⟩) (v:=undef) rfl (by kernel_rfl) (by kernel_rfl) (by kernel_rfl) (fun _ _ _ h=>h) (Or.inr ⟨by rfl,rfl⟩) (by assumption) ?_
     try simp only [Act.put,List.setIfInBounds_toArray,List.set_cons_zero,List.set_cons_succ]
     refine wpAnyH_take (i:=22) (oi:=⟨some 51,_,_,_,_,_⟩) (v:=undef) rfl (by kernel_rfl) (by kernel_rfl) (by kernel_rfl) (fun _ _ _ h=>h) (Or.inr ⟨by rfl,rfl⟩) (by assumption) ?_
     try simp only [Act.put,List.setIfInBounds_toArray,List.set_cons_zero,List.set_cons_succ]
     refine wpAnyH_take (i:=23) (oi:=⟨some 52,_,_,_,_,_⟩) (v:=undef) rfl (by kernel_rfl) (by kernel_rfl) (by kernel_rfl) (fun _ _ _ h=>h) (Or.inr ⟨by rfl,rfl⟩) (by assumption) ?_
     try simp only [Act.put,List.setIfInBounds_toArray,List.set_cons_zero,List.set_cons_succ]
     refine wpAnyH_take (i:=24) (oi:=⟨some 53,_,_,_,_,_⟩) (v:=undef) rfl (by kernel_rfl) (by kernel_rfl) (by kernel_rfl) (fun _ _ _ h=>h) (Or.inr ⟨by rfl,rfl⟩) (by assumption) ?_
     try simp only [Act.put,List.setIfInBounds_toArray,List.set_cons_zero,List.set_cons_succ]
     refine wpAnyH_take (i:=25) (oi:=⟨some 54,_,_,_,_,_⟩) (v:=undef) rfl (by kernel_rfl) (by kernel_rfl) (by kernel_rfl) (fun _ _ _ h=>h) (Or.inr ⟨by rfl,rfl⟩) (by assumption) ?_
     try simp only [Act.put,List.setIfInBounds_toArray,List.set_cons_zero,List.set_cons_succ]
     refine wpAnyH_take (i:=26) (oi:=⟨some 55,_,_,_,_,_⟩) (v:=undef) rfl (by kernel_rfl) (by kernel_rfl) (by kernel_rfl) (fun _ _ _ h=>h) (Or.inr ⟨by rfl,rfl⟩) (by assumption) ?_
     try simp only [Act.put,List.setIfInBounds_toArray,List.set_cons_zero,List.set_cons_succ]
     refine wpAnyH_take (i:=27) (oi:=⟨some 56,_,_,_,_,_⟩) (v := ?_) rfl (by kernel_rfl) (by kernel_rfl) (by kernel_rfl) (fun _ _ _ h=>h) (Or.inl ⟨by rfl, ?_⟩) (by assumption) ?_
     rotate_left
     ·intro w hSw
      obtain ⟨q0,q1,q2⟩:=hSw
      go_simp
      first | done | with_reducible rfl
     try simp only [Act.put,List.setIfInBounds_toArray,List.set_cons_zero,List.set_cons_succ]
     refine wpAnyH_done (by kernel_rfl) ?_ _
     refine NoPanic.normal ?_
     go_wp2_with fail
     exact HNil.out 130 _ hX.out (Live.drew F0.out 1).b
  case rest =>
   have F1:=Lib.hid hcut.1
   have HX:=Lib.hid (by have:=HX.out; rw [if_neg (by rw [hcut.2]; simp)] at this; exact this)
   clear hcut HGo F0 k0_0 k0_1 k0_2 HR HN h1 h2
   have k0_0 : wc.cell? ⟨bp,0,none⟩ = some (.slice A items.length c):=F1.out.cell 0 0 rfl rfl; have k0_1 : wc.cell? ⟨bp,1,none⟩ = some (.string ⟨nx.toArray⟩):=F1.out.cell 0 1 rfl rfl; have k0_2 : wc.cell? ⟨bp,2,none⟩ = some (.slice B nodes.length d):=F1.out.cell 0 2 rfl rfl
   by_cases hr : root = []
   ·subst hr
    have HX2 : Hid (X = if nodes ≠ [] ∨ items ≠ [] then ([], [],130) else ([], [],0)):=Lib.hid (by have h:=HX.out; first | (rw [if_pos rfl] at h; exact h) | (rw [if_pos trivial] at h; exact h))
    by_cases hn : nodes = []
    ·have hz1 : (0 < nodes.length) = False:=by rw [hn]; simp
     by_cases hi : items = []
     ·have hz2 : (0 < items.length) = False:=by rw [hi]; simp
      have HX3:=Lib.hid (HX2.out.trans (if_neg (by simp [hn,hi])))
      clear hn hi
      go_wp2_with fail
      exact HNil.out 0 _ HX3.out F1.out.b
     ·have hz2 : 0 < items.length:=List.length_pos_iff.2 hi
      have HX3:=Lib.hid (HX2.out.trans (if_pos (.inr hi)))
      clear hn hi
      go_wp2_with fail
      exact HNil.out 130 _ HX3.out F1.out.b
    ·have hz1 : 0 < nodes.length:=List.length_pos_iff.2 hn
     have HX3:=Lib.hid (HX2.out.trans (if_pos (.inl hn)))
     clear hn
     go_wp2_with fail
     exact HNil.out 130 _ HX3.out F1.out.b
   ·have ne1 : (root.toArray = #[]) = False:=by simp [hr]
    have ne2 : root.isEmpty = false:=by simp [hr]
    have HX:=Lib.hid (HX.out.trans (if_neg hr))
    have HU:=Lib.hid (fun W=>ref14_UpTo W nx e)
    have hul : (Trie.upToW nx e).length ≤ 1000:=by have:=HFe.out; unfold Trie.upToW; split <;> omega
    have HBk : Hid (∀ (ok : Nat → Prop),(∀ b,b < w.heap.size → ok b) → ∀ a,B = some a → ok a.block):=Lib.hid (fun ok h a ha=>h _ (HBB a ha))
    have HGa : Hid (∀ (ok : Nat → Prop) W,Below w.heap.size w W → (∀ b,W.heap.size ≤ b → ok b) → (∀ b,b < w.heap.size → ok b) → Calls Tryz.prog 41 #[.agg #[.slice none 0 0,.slice B nodes.length d,.bool true],.string ⟨root.toArray⟩,.string ⟨#[]⟩,.string ⟨f.toArray⟩,.string ⟨(Trie.upToW nx e).toArray⟩] W (PartEnd ok W (Trie.gotW root f (Trie.upToW nx e) nodes))):=Lib.hid (fun ok W hW o1 o2=>by
     have h:=HLn.out
     exact ref14_Gather f (Trie.upToW nx e) HFe.out.1 hul (nodes.length + 17) ok (true,([],nodes)) _ W root [] (by simp only; omega) (by simp only [List.length_nil]; omega) h.2.2.1 (by simp only [List.length_nil]; omega) (.inl ⟨rfl,none,0,B,d,rfl,Reads.none_,(HRd.out.2.below hW).more hW.size,h.2.2.2.1,(fun _ h=>by cases h),HBk.out ok o2⟩) o1)
    have HGl : Hid ((Trie.gotW root f (Trie.upToW nx e) nodes).2.1.length ≤ 100 ∧ (Trie.gotW root f (Trie.upToW nx e) nodes).2.2.length ≤ 100):=Lib.hid (by
     have:=Trie.gathW_sz (coverW (Nib.of f) (Nib.of (Trie.upToW nx e)) (Trie.upToW nx e)) f (Trie.upToW nx e) (nodes.length + 17) root [] ([],nodes)
     have a:=this.both
     have b:=this.left
     have h:=HLn.out
     unfold Trie.gotW
     simp only [List.length_nil] at a b
     omega)
    generalize Trie.gotW root f (Trie.upToW nx e) nodes = gt at *
    generalize Trie.upToW nx e = u at *
    obtain ⟨gb,gl,gf⟩:=gt
    simp only at HX HGl
    clear hr hul
    cases gb with
    | false =>
     have HX:=Lib.hid (HX.out.trans (if_pos (.inl rfl)))
     have HGa : Hid (∀ W,Below w.heap.size w W → Calls Tryz.prog 41 #[.agg #[.slice none 0 0,.slice B nodes.length d,.bool true],.string ⟨root.toArray⟩,.string ⟨#[]⟩,.string ⟨f.toArray⟩,.string ⟨u.toArray⟩] W fun q W'=>q = .returned (.agg #[.slice none 0 0,.slice none 0 0,.bool false]) ∧ Below W.heap.size W W'):=Lib.hid (fun W hW=>(HGa.out (fun _=>True) W hW (fun _ _=>trivial) (fun _ _=>trivial)).mono (by
      rintro q W' ⟨cs,rfl,hp,hb⟩
      rcases hp with ⟨h,_⟩ | ⟨_,rfl⟩
      ·cases h
      ·exact ⟨rfl,hb⟩))
     go_upto_region 12 with fail
     refine wp_region_noPanic ?_
     have FW:=Lib.hid (Live.drew F1.out 1)
     refine wp_region_held_drew (S:=fun w'=>w'.cell? ⟨bp,0,none⟩ = some (.slice A items.length c) ∧ w'.cell? ⟨bp,1,none⟩ = some (.string ⟨nx.toArray⟩) ∧ w'.cell? ⟨bp,2,none⟩ = some (.slice B nodes.length d)) (by kernel_rfl) ⟨k0_0,k0_1,k0_2⟩ (fun hHeld => ?_)
     replace FW : Hid (Live w wc.drew [(bp,27,#[.slice A items.length c,.string ⟨nx.toArray⟩,.slice B nodes.length d])]):=FW
     generalize wc.drew = W1 at FW hHeld ⊢
     clear k0_0 k0_1 k0_2 F1
     refine wpAnyH_take (i:=0) (oi:=⟨some 69,_,_,_,_,_⟩) (v := ?_) rfl (by kernel_rfl) (by kernel_rfl) (by kernel_rfl) (fun _ _ _ h=>h) (Or.inl ⟨by rfl, ?_⟩) (by assumption) ?_
     rotate_left
     ·intro w hSw
      obtain ⟨q0,q1,q2⟩:=hSw
      go_simp
      first | done | with_reducible rfl
     try simp only [Act.put,List.setIfInBounds_toArray,List.set_cons_zero,List.set_cons_succ]
     refine wpAnyH_take (i:=1) (oi:=⟨some 70,_,_,_,_,_⟩) (v := ?_) rfl (by kernel_rfl) (by kernel_rfl) (by kernel_rfl) (fun _ _ _ h=>h) (Or.inl ⟨by rfl, ?_⟩) (by assumption) ?_
     rotate_left
     ·intro w hSw
      obtain ⟨q0,q1,q2⟩:=hSw
      go_simp
      first | done | with_reducible rfl
     try simp only [Act.put,List.setIfInBounds_toArray,List.set_cons_zero,List.set_cons_succ]
     refine wpAnyH_take (i:=2) (oi:=⟨some 71,_,_,_,_,_⟩) (v := ?_) rfl (by kernel_rfl) (by kernel_rfl) (by kernel_rfl) (fun _ _ _ h=>h) (Or.inl ⟨by rfl, ?_⟩) (by assumption) ?_
     rotate_left
     ·intro w hSw
      obtain ⟨q0,q1,q2⟩:=hSw
      go_simp
      first | done | with_reducible rfl
     try simp only [Act.put,List.setIfInBounds_toArray,List.set_cons_zero,List.set_cons_succ]
     refine wpAnyH_take (i:=3) (oi:=⟨some 72,_,_,_,_,_⟩) (v := ?_) rfl (by kernel_rfl) (by kernel_rfl) (by kernel_rfl) (fun _ _ _ h=>h) (Or.inl ⟨by rfl, ?_⟩) (by assumption) ?_
     rotate_left
     ·intro w hSw
      obtain ⟨q0,q1,q2⟩:=hSw
      go_simp
      first | done | with_reducible rfl
     try simp only [Act.put,List.setIfInBounds_toArray,List.set_cons_zero,List.set_cons_succ]
     refine wpAnyH_take (i:=4) (oi:=⟨some 73,_,_,_,_,_⟩) (v := ?_) rfl (by kernel_rfl) (by kernel_rfl) (by kernel_rfl) (fun _ _ _ h=>h) (Or.inl ⟨by rfl, ?_⟩) (by assumption) ?_
     rotate_left
     ·intro w hSw
      obtain ⟨q0,q1,q2⟩:=hSw
      go_simp
      first | done | with_reducible rfl
     try simp only [Act.put,List.setIfInBounds_toArray,List.set_cons_zero,List.set_cons_succ]
     refine wpAnyH_take (i:=5) (oi:=⟨some 74,_,_,_,_,_⟩) (v := ?_) rfl (by kernel_rfl) (by kernel_rfl) (by kernel_rfl) (fun _ _ _ h=>h) (Or.inl ⟨by rfl, ?_⟩) (by assumption) ?_
     rotate_left
     ·intro w hSw
      obtain ⟨q0,q1,q2⟩:=hSw
      go_simp
      first | done | with_reducible rfl
     try simp only [Act.put,List.setIfInBounds_toArray,List.set_cons_zero,List.set_cons_succ]
     refine wpAnyH_take (i:=6) (oi:=⟨some 75,_,_,_,_,_⟩) (v := ?_) rfl (by kernel_rfl) (by kernel_rfl) (by kernel_rfl) (fun _ _ _ h=>h) (Or.inl ⟨by rfl, ?_⟩) (by assumption) ?_
     rotate_left
     ·intro w hSw
      obtain ⟨q0,q1,q2⟩:=hSw
      go_simp
      first | done | with_reducible rfl
     try simp only [Act.put,List.setIfInBounds_toArray,List.set_cons_zero,List.set_cons_succ]
     refine wpAnyH_take (i:=7) (oi:=⟨some 76,_,_,_,_,_⟩) (v := ?_) rfl (by kernel_rfl) (by kernel_rfl) (by kernel_rfl) (fun _ _ _ h=>h) (Or.inl ⟨by rfl, ?_⟩) (by assumption) ?_
     rotate_left
     ·intro w hSw
      obtain ⟨q0,q1,q2⟩:=hSw
      go_simp
      first | done | with_reducible rfl
     try simp only [Act.put,List.setIfInBounds_toArray,List.set_cons_zero,List.set_cons_succ]
     refine wpAnyH_ready (rs := [8,10]) (by kernel_rfl) (by simp) ?_
     refine AllReadyH.cons rfl (fun K hK => ?_) (AllReadyH.cons rfl (fun K hK => ?_) AllReadyH.nil)
     ·skip
      go_simp
      refine (HU.out _).mono ?_
      rintro q w3 ⟨rfl,hb⟩
      have F3:=Live.hb FW hb
      clear hb
      go_simp
      refine hK.out _ _ ⟨F3.out.cell 0 0 rfl rfl,F3.out.cell 0 1 rfl rfl,F3.out.cell 0 2 rfl rfl⟩ (fun hHeld => ?_)
      clear hK
      try simp only [Act.put,List.setIfInBounds_toArray,List.set_cons_zero,List.set_cons_succ]
      refine wpAnyH_ready (rs := [9,10]) (by kernel_rfl) (by simp) ?_
      refine AllReadyH.cons rfl (fun K hK => ?_) (AllReadyH.cons rfl (fun K hK => ?_) AllReadyH.nil)
      ·skip
       go_simp
       refine (HGa.out _ F3.out.b).mono ?_
       rintro q w4 ⟨rfl,hb⟩
       have F4:=Live.hb F3 hb
       skip
       clear hb
       go_simp
       refine hK.out _ _ ⟨F4.out.cell 0 0 rfl rfl,F4.out.cell 0 1 rfl rfl,F4.out.cell 0 2 rfl rfl⟩ (fun hHeld => ?_)
       clear hK
       try simp only [Act.put,List.setIfInBounds_toArray,List.set_cons_zero,List.set_cons_succ]
       refine wpAnyH_ready (rs := [10]) (by kernel_rfl) (by simp) ?_
       refine AllReadyH.cons rfl (fun K hK => ?_) AllReadyH.nil
       go_simp
       have FM:=Live.ha F4 #[.slice none 0 0,.slice none 0 0,.bool false] 91
       have BM:=Lib.hid ((Below.refl _ w4).alloc (Nat.le_refl _) (.cells #[.slice none 0 0,.slice none 0 0,.bool false] 91))
       go_simp
       refine hK.out _ _ ⟨FM.out.cell 1 0 rfl rfl,FM.out.cell 1 1 rfl rfl,FM.out.cell 1 2 rfl rfl⟩ (fun hHeld => ?_)
       clear hK
       try simp only [Act.put,List.setIfInBounds_toArray,List.set_cons_zero,List.set_cons_succ]
       generalize World.alloc w4 _ = WM at FM BM hHeld ⊢
       obtain ⟨ob,hob⟩ : ∃ ob,w4.heap.size = ob:=⟨_,rfl⟩
       rw [hob] at FM ⊢
       have HOB:=Lib.hid (Nat.le_of_eq hob)
       clear hob
       refine wpAnyH_ready (rs := [11]) (by kernel_rfl) (by simp) ?_
       refine AllReadyH.cons rfl (fun K hK => ?_) AllReadyH.nil
       have d0 : WM.cell? ⟨ob,0,none⟩ = some (.slice none 0 0):=FM.out.cell 0 0 rfl rfl
       have d1 : WM.cell? ⟨ob,1,none⟩ = some (.slice none 0 0):=FM.out.cell 0 1 rfl rfl
       have d2 : WM.cell? ⟨ob,2,none⟩ = some (.bool false):=FM.out.cell 0 2 rfl rfl
       have f0:=FM.out.frozen 0 0 rfl
       have f1:=FM.out.frozen 0 1 rfl
       have f2:=FM.out.frozen 0 2 rfl
       have FE:=Lib.hid (FM.out.put3 (.slice none 0 0) (.slice none 0 0) (.bool false))
       go_simp
       refine hK.out _ _ ⟨FE.out.cell 1 0 rfl rfl,FE.out.cell 1 1 rfl rfl,FE.out.cell 1 2 rfl rfl⟩ (fun hHeld => ?_)
       clear hK d0 d1 d2 f0 f1 f2
       try simp only [Act.put,List.setIfInBounds_toArray,List.set_cons_zero,List.set_cons_succ]
       refine wpAnyH_done (by kernel_rfl) ?_ _
       refine NoPanic.normal ?_
       have HRX:=trivial
       have BWM : Hid (Below w.heap.size w (((WM.setCell ⟨ob,0,none⟩ (.slice none 0 0)).setCell ⟨ob,1,none⟩ (.slice none 0 0)).setCell ⟨ob,2,none⟩ (.bool false))):=Lib.hid FE.out.b
       clear hHeld
       generalize ((WM.setCell ⟨ob,0,none⟩ (.slice none 0 0)).setCell ⟨ob,1,none⟩ (.slice none 0 0)).setCell ⟨ob,2,none⟩ (.bool false) = WE at *
       have c0 : WE.cell? ⟨ob,0,none⟩ = some (.slice none 0 0):=FE.out.cell 0 0 rfl rfl
       have c1 : WE.cell? ⟨ob,1,none⟩ = some (.slice none 0 0):=FE.out.cell 0 1 rfl rfl
       have c2 : WE.cell? ⟨ob,2,none⟩ = some (.bool false):=FE.out.cell 0 2 rfl rfl
       go_wp2_with fail
       exact HNil.out 130 _ HX.out FE.out.b
      ·skip
       go_simp
       have FM:=Live.ha F3 #[.slice none 0 0,.slice none 0 0,.bool false] 91
       have BM:=Lib.hid ((Below.refl _ w3).alloc (Nat.le_refl _) (.cells #[.slice none 0 0,.slice none 0 0,.bool false] 91))
       go_simp
       refine hK.out _ _ ⟨FM.out.cell 1 0 rfl rfl,FM.out.cell 1 1 rfl rfl,FM.out.cell 1 2 rfl rfl⟩ (fun hHeld => ?_)
       clear hK
       try simp only [Act.put,List.setIfInBounds_toArray,List.set_cons_zero,List.set_cons_succ]
       generalize World.alloc w3 _ = WM at FM BM hHeld ⊢
       obtain ⟨ob,hob⟩ : ∃ ob,w3.heap.size = ob:=⟨_,rfl⟩
       rw [hob] at FM ⊢
       have HOB:=Lib.hid (Nat.le_of_eq hob)
       clear hob
       refine wpAnyH_ready (rs := [9]) (by kernel_rfl) (by simp) ?_
       refine AllReadyH.cons rfl (fun K hK => ?_) AllReadyH.nil
       go_simp
       refine (HGa.out _ FM.out.b).mono ?_
       rintro q w4 ⟨rfl,hb⟩
       have F4:=Live.hb FM hb
       skip
       clear hb
       go_simp
       refine hK.out _ _ ⟨F4.out.cell 1 0 rfl rfl,F4.out.cell 1 1 rfl rfl,F4.out.cell 1 2 rfl rfl⟩ (fun hHeld => ?_)
       clear hK
       try simp only [Act.put,List.setIfInBounds_toArray,List.set_cons_zero,List.set_cons_succ]
       refine wpAnyH_ready (rs := [11]) (by kernel_rfl) (by simp) ?_
       refine AllReadyH.cons rfl (fun K hK => ?_) AllReadyH.nil
       have d0 : w4.cell? ⟨ob,0,none⟩ = some (.slice none 0 0):=F4.out.cell 0 0 rfl rfl
       have d1 : w4.cell? ⟨ob,1,none⟩ = some (.slice none 0 0):=F4.out.cell 0 1 rfl rfl
       have d2 : w4.cell? ⟨ob,2,none⟩ = some (.bool false):=F4.out.cell 0 2 rfl rfl
       have f0:=F4.out.frozen 0 0 rfl
       have f1:=F4.out.frozen 0 1 rfl
       have f2:=F4.out.frozen 0 2 rfl
       have FE:=Lib.hid (F4.out.put3 (.slice none 0 0) (.slice none 0 0) (.bool false))
       go_simp
       refine hK.out _ _ ⟨FE.out.cell 1 0 rfl rfl,FE.out.cell 1 1 rfl rfl,FE.out.cell 1 2 rfl rfl⟩ (fun hHeld => ?_)
       clear hK d0 d1 d2 f0 f1 f2
       try simp only [Act.put,List.setIfInBounds_toArray,List.set_cons_zero,List.set_cons_succ]
       refine wpAnyH_done (by kernel_rfl) ?_ _
       refine NoPanic.normal ?_
       have HRX:=trivial
       have Bw4 : Hid (Below w.heap.size w (((w4.setCell ⟨ob,0,none⟩ (.slice none 0 0)).setCell ⟨ob,1,none⟩ (.slice none 0 0)).setCell ⟨ob,2,none⟩ (.bool false))):=Lib.hid FE.out.b
       clear hHeld
       generalize ((w4.setCell ⟨ob,0,none⟩ (.slice none 0 0)).setCell ⟨ob,1,none⟩ (.slice none 0 0)).setCell ⟨ob,2,none⟩ (.bool false) = WE at *
       have c0 : WE.cell? ⟨ob,0,none⟩ = some (.slice none 0 0):=FE.out.cell 0 0 rfl rfl
       have c1 : WE.cell? ⟨ob,1,none⟩ = some (.slice none 0 0):=FE.out.cell 0 1 rfl rfl
       have c2 : WE.cell? ⟨ob,2,none⟩ = some (.bool false):=FE.out.cell 0 2 rfl rfl
       go_wp2_with fail
       exact HNil.out 130 _ HX.out FE.out.b
     ·skip
      go_simp
      have FM:=Live.ha FW #[.slice none 0 0,.slice none 0 0,.bool false] 91
      have BM:=Lib.hid ((Below.refl _ W1).alloc (Nat.le_refl _) (.cells #[.slice none 0 0,.slice none 0 0,.bool false] 91))
      go_simp
      refine hK.out _ _ ⟨FM.out.cell 1 0 rfl rfl,FM.out.cell 1 1 rfl rfl,FM.out.cell 1 2 rfl rfl⟩ (fun hHeld => ?_)
      clear hK
      try simp only [Act.put,List.setIfInBounds_toArray,List.set_cons_zero,List.set_cons_succ]
      generalize World.alloc W1 _ = WM at FM BM hHeld ⊢
      obtain ⟨ob,hob⟩ : ∃ ob,W1.heap.size = ob:=⟨_,rfl⟩
      rw [hob] at FM ⊢
      have HOB:=Lib.hid (Nat.le_of_eq hob)
      clear hob
      refine wpAnyH_ready (rs := [8]) (by kernel_rfl) (by simp) ?_
      refine AllReadyH.cons rfl (fun K hK => ?_) AllReadyH.nil
      go_simp
      refine (HU.out _).mono ?_
      rintro q w3 ⟨rfl,hb⟩
      have F3:=Live.hb FM hb
      clear hb
      go_simp
      refine hK.out _ _ ⟨F3.out.cell 1 0 rfl rfl,F3.out.cell 1 1 rfl rfl,F3.out.cell 1 2 rfl rfl⟩ (fun hHeld => ?_)
      clear hK
      try simp only [Act.put,List.setIfInBounds_toArray,List.set_cons_zero,List.set_cons_succ]
      refine wpAnyH_ready (rs := [9]) (by kernel_rfl) (by simp) ?_
      refine AllReadyH.cons rfl (fun K hK => ?_) AllReadyH.nil
      go_simp
      refine (HGa.out _ F3.out.b).mono ?_
      rintro q w4 ⟨rfl,hb⟩
      have F4:=Live.hb F3 hb
      skip
      clear hb
      go_simp
      refine hK.out _ _ ⟨F4.out.cell 1 0 rfl rfl,F4.out.cell 1 1 rfl rfl,F4.out.cell 1 2 rfl rfl⟩ (fun hHeld => ?_)
      clear hK
      try simp only [Act.put,List.setIfInBounds_toArray,List.set_cons_zero,List.set_cons_succ]
      refine wpAnyH_ready (rs := [11]) (by kernel_rfl) (by simp) ?_
      refine AllReadyH.cons rfl (fun K hK => ?_) AllReadyH.nil
      have d0 : w4.cell? ⟨ob,0,none⟩ = some (.slice none 0 0):=F4.out.cell 0 0 rfl rfl
      have d1 : w4.cell? ⟨ob,1,none⟩ = some (.slice none 0 0):=F4.out.cell 0 1 rfl rfl
      have d2 : w4.cell? ⟨ob,2,none⟩ = some (.bool false):=F4.out.cell 0 2 rfl rfl
      have f0:=F4.out.frozen 0 0 rfl
      have f1:=F4.out.frozen 0 1 rfl
      have f2:=F4.out.frozen 0 2 rfl
      have FE:=Lib.hid (F4.out.put3 (.slice none 0 0) (.slice none 0 0) (.bool false))
      go_simp
      refine hK.out _ _ ⟨FE.out.cell 1 0 rfl rfl,FE.out.cell 1 1 rfl rfl,FE.out.cell 1 2 rfl rfl⟩ (fun hHeld => ?_)
      clear hK d0 d1 d2 f0 f1 f2
      try simp only [Act.put,List.setIfInBounds_toArray,List.set_cons_zero,List.set_cons_succ]
      refine wpAnyH_done (by kernel_rfl) ?_ _
      refine NoPanic.normal ?_
      have HRX:=trivial
      have Bw4 : Hid (Below w.heap.size w (((w4.setCell ⟨ob,0,none⟩ (.slice none 0 0)).setCell ⟨ob,1,none⟩ (.slice none 0 0)).setCell ⟨ob,2,none⟩ (.bool false))):=Lib.hid FE.out.b
      clear hHeld
      generalize ((w4.setCell ⟨ob,0,none⟩ (.slice none 0 0)).setCell ⟨ob,1,none⟩ (.slice none 0 0)).setCell ⟨ob,2,none⟩ (.bool false) = WE at *
      have c0 : WE.cell? ⟨ob,0,none⟩ = some (.slice none 0 0):=FE.out.cell 0 0 rfl rfl
      have c1 : WE.cell? ⟨ob,1,none⟩ = some (.slice none 0 0):=FE.out.cell 0 1 rfl rfl
      have c2 : WE.cell? ⟨ob,2,none⟩ = some (.bool false):=FE.out.cell 0 2 rfl rfl
      go_wp2_with fail
      exact HNil.out 130 _ HX.out FE.out.b
    | true =>
     have HGa : Hid (∀ (ok : Nat → Prop) W,Below w.heap.size w W → (∀ b,W.heap.size ≤ b → ok b) → (∀ b,b < w.heap.size → ok b) → Calls Tryz.prog 41 #[.agg #[.slice none 0 0,.slice B nodes.length d,.bool true],.string ⟨root.toArray⟩,.string ⟨#[]⟩,.string ⟨f.toArray⟩,.string ⟨u.toArray⟩] W fun q W' => ∃ A3 c3 B3 d3,q = .returned (.agg #[.slice A3 gl.length c3,.slice B3 gf.length d3,.bool true]) ∧ Reads W' W'.heap.size 2 A3 gl.length (icells gl) ∧ (∀ a,A3 = some a → ok a.block) ∧ Below W.heap.size W W'):=Lib.hid (fun ok W hW o1 o2=>(HGa.out ok W hW o1 o2).mono (by
      rintro q W' ⟨cs,rfl,hp,hb⟩
      rcases hp with ⟨_,A3,c3,B3,d3,rfl,r1,_,_,o3,_⟩ | ⟨h,_⟩
      ·exact ⟨A3,c3,B3,d3,rfl,r1,o3,hb⟩
      ·cases h))
     go_upto_region 12 with fail
     go_cut [13] (fun s13 wx => ∃ ob A3 c3 B3 d3,s13 = .pointer (some ⟨ob,0,none⟩) ∧ Live w wx [(ob,91,#[.slice A3 gl.length c3,.slice B3 gf.length d3,.bool true]),(bp,27,#[.slice A items.length c,.string ⟨nx.toArray⟩,.slice B nodes.length d])] ∧ Reads wx wx.heap.size 2 A3 gl.length (icells gl))
     case first =>
      have HBlt : Hid (∀ b,b < w.heap.size → b < wc.heap.size):=Lib.hid (fun b h=>Nat.lt_of_lt_of_le h F1.out.b.size)
      have HWc:=Lib.hid F1.out.b.size
      go_upto_region 12 with fail
      refine wp_region_noPanic ?_
      have FW:=Lib.hid (Live.drew F1.out 1)
      refine wp_region_held_drew (S:=fun w'=>w'.cell? ⟨bp,0,none⟩ = some (.slice A items.length c) ∧ w'.cell? ⟨bp,1,none⟩ = some (.string ⟨nx.toArray⟩) ∧ w'.cell? ⟨bp,2,none⟩ = some (.slice B nodes.length d)) (by kernel_rfl) ⟨k0_0,k0_1,k0_2⟩ (fun hHeld => ?_)
      replace FW : Hid (Live w wc.drew [(bp,27,#[.slice A items.length c,.string ⟨nx.toArray⟩,.slice B nodes.length d])]):=FW
      generalize wc.drew = W1 at FW hHeld ⊢
      clear k0_0 k0_1 k0_2 F1
      refine wpAnyH_take (i:=0) (oi:=⟨some 69,_,_,_,_,_⟩) (v := ?_) rfl (by kernel_rfl) (by kernel_rfl) (by kernel_rfl) (fun _ _ _ h=>h) (Or.inl ⟨by rfl, ?_⟩) (by assumption) ?_
      rotate_left
      ·intro w hSw
       obtain ⟨q0,q1,q2⟩:=hSw
       go_simp
       first | done | with_reducible rfl
      try simp only [Act.put,List.setIfInBounds_toArray,List.set_cons_zero,List.set_cons_succ]
      refine wpAnyH_take (i:=1) (oi:=⟨some 70,_,_,_,_,_⟩) (v := ?_) rfl (by kernel_rfl) (by kernel_rfl) (by kernel_rfl) (fun _ _ _ h=>h) (Or.inl ⟨by rfl, ?_⟩) (by assumption) ?_
      rotate_left
      ·intro w hSw
       obtain ⟨q0,q1,q2⟩:=hSw
       go_simp
       first | done | with_reducible rfl
      try simp only [Act.put,List.setIfInBounds_toArray,List.set_cons_zero,List.set_cons_succ]
      refine wpAnyH_take (i:=2) (oi:=⟨some 71,_,_,_,_,_⟩) (v := ?_) rfl (by kernel_rfl) (by kernel_rfl) (by kernel_rfl) (fun _ _ _ h=>h) (Or.inl ⟨by rfl, ?_⟩) (by assumption) ?_
      rotate_left
      ·intro w hSw
       obtain ⟨q0,q1,q2⟩:=hSw
       go_simp
       first | done | with_reducible rfl
      try simp only [Act.put,List.setIfInBounds_toArray,List.set_cons_zero,List.set_cons_succ]
      refine wpAnyH_take (i:=3) (oi:=⟨some 72,_,_,_,_,_⟩) (v := ?_) rfl (by kernel_rfl) (by kernel_rfl) (by kernel_rfl) (fun _ _ _ h=>h) (Or.inl ⟨by rfl, ?_⟩) (by assumption) ?_
      rotate_left
      ·intro w hSw
       obtain ⟨q0,q1,q2⟩:=hSw
       go_simp
       first | done | with_reducible rfl
      try simp only [Act.put,List.setIfInBounds_toArray,List.set_cons_zero,List.set_cons_succ]
      refine wpAnyH_take (i:=4) (oi:=⟨some 73,_,_,_,_,_⟩) (v := ?_) rfl (by kernel_rfl) (by kernel_rfl) (by kernel_rfl) (fun _ _ _ h=>h) (Or.inl ⟨by rfl, ?_⟩) (by assumption) ?_
      rotate_left
      ·intro w hSw
       obtain ⟨q0,q1,q2⟩:=hSw
       go_simp
       first | done | with_reducible rfl
      try simp only [Act.put,List.setIfInBounds_toArray,List.set_cons_zero,List.set_cons_succ]
      refine wpAnyH_take (i:=5) (oi:=⟨some 74,_,_,_,_,_⟩) (v := ?_) rfl (by kernel_rfl) (by kernel_rfl) (by kernel_rfl) (fun _ _ _ h=>h) (Or.inl ⟨by rfl, ?_⟩) (by assumption) ?_
      rotate_left
      ·intro w hSw
       obtain ⟨q0,q1,q2⟩:=hSw
       go_simp
       first | done | with_reducible rfl
      try simp only [Act.put,List.setIfInBounds_toArray,List.set_cons_zero,List.set_cons_succ]
      refine wpAnyH_take (i:=6) (oi:=⟨some 75,_,_,_,_,_⟩) (v := ?_) rfl (by kernel_rfl) (by kernel_rfl) (by kernel_rfl) (fun _ _ _ h=>h) (Or.inl ⟨by rfl, ?_⟩) (by assumption) ?_
      rotate_left
      ·intro w hSw
       obtain ⟨q0,q1,q2⟩:=hSw
       go_simp
       first | done | with_reducible rfl
      try simp only [Act.put,List.setIfInBounds_toArray,List.set_cons_zero,List.set_cons_succ]
      refine wpAnyH_take (i:=7) (oi:=⟨some 76,_,_,_,_,_⟩) (v := ?_) rfl (by kernel_rfl) (by kernel_rfl) (by kernel_rfl) (fun _ _ _ h=>h) (Or.inl ⟨by rfl, ?_⟩) (by assumption) ?_
      rotate_left
      ·intro w hSw
       obtain ⟨q0,q1,q2⟩:=hSw
       go_simp
       first | done | with_reducible rfl
      try simp only [Act.put,List.setIfInBounds_toArray,List.set_cons_zero,List.set_cons_succ]
      refine wpAnyH_ready (rs := [8,10]) (by kernel_rfl) (by simp) ?_
      refine AllReadyH.cons rfl (fun K hK => ?_) (AllReadyH.cons rfl (fun K hK => ?_) AllReadyH.nil)
      ·skip
       go_simp
       refine (HU.out _).mono ?_
       rintro q w3 ⟨rfl,hb⟩
       have F3:=Live.hb FW hb
       clear hb
       go_simp
       refine hK.out _ _ ⟨F3.out.cell 0 0 rfl rfl,F3.out.cell 0 1 rfl rfl,F3.out.cell 0 2 rfl rfl⟩ (fun hHeld => ?_)
       clear hK
       try simp only [Act.put,List.setIfInBounds_toArray,List.set_cons_zero,List.set_cons_succ]
       refine wpAnyH_ready (rs := [9,10]) (by kernel_rfl) (by simp) ?_
       refine AllReadyH.cons rfl (fun K hK => ?_) (AllReadyH.cons rfl (fun K hK => ?_) AllReadyH.nil)
       ·skip
        go_simp
        refine (HGa.out (fun _=>True) _ F3.out.b (fun _ _=>trivial) (fun _ _=>trivial)).mono ?_
        rintro q w4 ⟨A3,c3,B3,d3,rfl,r3,o3,hb⟩
        have F4:=Live.hb F3 hb
        have R3:=Lib.hid (And.intro r3 o3); clear r3 o3
        clear hb
        go_simp
        refine hK.out _ _ ⟨F4.out.cell 0 0 rfl rfl,F4.out.cell 0 1 rfl rfl,F4.out.cell 0 2 rfl rfl⟩ (fun hHeld => ?_)
        clear hK
        try simp only [Act.put,List.setIfInBounds_toArray,List.set_cons_zero,List.set_cons_succ]
        refine wpAnyH_ready (rs := [10]) (by kernel_rfl) (by simp) ?_
        refine AllReadyH.cons rfl (fun K hK => ?_) AllReadyH.nil
        go_simp
        have FM:=Live.ha F4 #[.slice none 0 0,.slice none 0 0,.bool false] 91
        have BM:=Lib.hid ((Below.refl _ w4).alloc (Nat.le_refl _) (.cells #[.slice none 0 0,.slice none 0 0,.bool false] 91))
        go_simp
        refine hK.out _ _ ⟨FM.out.cell 1 0 rfl rfl,FM.out.cell 1 1 rfl rfl,FM.out.cell 1 2 rfl rfl⟩ (fun hHeld => ?_)
        clear hK
        try simp only [Act.put,List.setIfInBounds_toArray,List.set_cons_zero,List.set_cons_succ]
        generalize World.alloc w4 _ = WM at FM BM hHeld ⊢
        obtain ⟨ob,hob⟩ : ∃ ob,w4.heap.size = ob:=⟨_,rfl⟩
        rw [hob] at FM ⊢
        have HOB:=Lib.hid (Nat.le_of_eq hob)
        clear hob
        refine wpAnyH_ready (rs := [11]) (by kernel_rfl) (by simp) ?_
        refine AllReadyH.cons rfl (fun K hK => ?_) AllReadyH.nil
        have d0 : WM.cell? ⟨ob,0,none⟩ = some (.slice none 0 0):=FM.out.cell 0 0 rfl rfl
        have d1 : WM.cell? ⟨ob,1,none⟩ = some (.slice none 0 0):=FM.out.cell 0 1 rfl rfl
        have d2 : WM.cell? ⟨ob,2,none⟩ = some (.bool false):=FM.out.cell 0 2 rfl rfl
        have f0:=FM.out.frozen 0 0 rfl
        have f1:=FM.out.frozen 0 1 rfl
        have f2:=FM.out.frozen 0 2 rfl
        have FE:=Lib.hid (FM.out.put3 (.slice A3 gl.length c3) (.slice B3 gf.length d3) (.bool true))
        go_simp
        refine hK.out _ _ ⟨FE.out.cell 1 0 rfl rfl,FE.out.cell 1 1 rfl rfl,FE.out.cell 1 2 rfl rfl⟩ (fun hHeld => ?_)
        clear hK d0 d1 d2 f0 f1 f2
        try simp only [Act.put,List.setIfInBounds_toArray,List.set_cons_zero,List.set_cons_succ]
        refine wpAnyH_done (by kernel_rfl) ?_ _
        refine NoPanic.normal ?_
        have HRX:=(R3.out.1.below (((BM.out.setCell (p:=⟨ob,0,none⟩) HOB.out (.slice A3 gl.length c3)).setCell (p:=⟨ob,1,none⟩) HOB.out (.slice B3 gf.length d3)).setCell (p:=⟨ob,2,none⟩) HOB.out (.bool true))).more (((BM.out.setCell (p:=⟨ob,0,none⟩) HOB.out (.slice A3 gl.length c3)).setCell (p:=⟨ob,1,none⟩) HOB.out (.slice B3 gf.length d3)).setCell (p:=⟨ob,2,none⟩) HOB.out (.bool true)).size
        have BWM : Hid (Below w.heap.size w (((WM.setCell ⟨ob,0,none⟩ (.slice A3 gl.length c3)).setCell ⟨ob,1,none⟩ (.slice B3 gf.length d3)).setCell ⟨ob,2,none⟩ (.bool true))):=Lib.hid FE.out.b
        clear hHeld
        generalize ((WM.setCell ⟨ob,0,none⟩ (.slice A3 gl.length c3)).setCell ⟨ob,1,none⟩ (.slice B3 gf.length d3)).setCell ⟨ob,2,none⟩ (.bool true) = WE at FE BWM HRX ⊢
        go_wp2_with fail
        go_meet
        exact ⟨ob,A3,c3,B3,d3,rfl,FE.out,HRX⟩
       ·skip
        go_simp
        have FM:=Live.ha F3 #[.slice none 0 0,.slice none 0 0,.bool false] 91
        have BM:=Lib.hid ((Below.refl _ w3).alloc (Nat.le_refl _) (.cells #[.slice none 0 0,.slice none 0 0,.bool false] 91))
        go_simp
        refine hK.out _ _ ⟨FM.out.cell 1 0 rfl rfl,FM.out.cell 1 1 rfl rfl,FM.out.cell 1 2 rfl rfl⟩ (fun hHeld => ?_)
        clear hK
        try simp only [Act.put,List.setIfInBounds_toArray,List.set_cons_zero,List.set_cons_succ]
        generalize World.alloc w3 _ = WM at FM BM hHeld ⊢
        obtain ⟨ob,hob⟩ : ∃ ob,w3.heap.size = ob:=⟨_,rfl⟩
        rw [hob] at FM ⊢
        have HOB:=Lib.hid (Nat.le_of_eq hob)
        clear hob
        refine wpAnyH_ready (rs := [9]) (by kernel_rfl) (by simp) ?_
        refine AllReadyH.cons rfl (fun K hK => ?_) AllReadyH.nil
        go_simp
        refine (HGa.out (fun b=>ob ≠ b) _ FM.out.b (fun b h e=>by have:=FM.out.lt 0 rfl; omega) (fun b h e=>by have:=FM.out.own 0 rfl; omega)).mono ?_
        rintro q w4 ⟨A3,c3,B3,d3,rfl,r3,o3,hb⟩
        have F4:=Live.hb FM hb
        have R3:=Lib.hid (And.intro r3 o3); clear r3 o3
        clear hb
        go_simp
        refine hK.out _ _ ⟨F4.out.cell 1 0 rfl rfl,F4.out.cell 1 1 rfl rfl,F4.out.cell 1 2 rfl rfl⟩ (fun hHeld => ?_)
        clear hK
        try simp only [Act.put,List.setIfInBounds_toArray,List.set_cons_zero,List.set_cons_succ]
        refine wpAnyH_ready (rs := [11]) (by kernel_rfl) (by simp) ?_
        refine AllReadyH.cons rfl (fun K hK => ?_) AllReadyH.nil
        have d0 : w4.cell? ⟨ob,0,none⟩ = some (.slice none 0 0):=F4.out.cell 0 0 rfl rfl
        have d1 : w4.cell? ⟨ob,1,none⟩ = some (.slice none 0 0):=F4.out.cell 0 1 rfl rfl
        have d2 : w4.cell? ⟨ob,2,none⟩ = some (.bool false):=F4.out.cell 0 2 rfl rfl
        have f0:=F4.out.frozen 0 0 rfl
        have f1:=F4.out.frozen 0 1 rfl
        have f2:=F4.out.frozen 0 2 rfl
        have FE:=Lib.hid (F4.out.put3 (.slice A3 gl.length c3) (.slice B3 gf.length d3) (.bool true))
        go_simp
        refine hK.out _ _ ⟨FE.out.cell 1 0 rfl rfl,FE.out.cell 1 1 rfl rfl,FE.out.cell 1 2 rfl rfl⟩ (fun hHeld => ?_)
        clear hK d0 d1 d2 f0 f1 f2
        try simp only [Act.put,List.setIfInBounds_toArray,List.set_cons_zero,List.set_cons_succ]
        refine wpAnyH_done (by kernel_rfl) ?_ _
        refine NoPanic.normal ?_
        have HRX:=(reads_apart (k:=2) (reads_apart (k:=1) (reads_apart (k:=0) R3.out.1 R3.out.2 (.slice A3 gl.length c3)) R3.out.2 (.slice B3 gf.length d3)) R3.out.2 (.bool true)).more (show w4.heap.size ≤ (((w4.setCell ⟨ob,0,none⟩ (.slice A3 gl.length c3)).setCell ⟨ob,1,none⟩ (.slice B3 gf.length d3)).setCell ⟨ob,2,none⟩ (.bool true)).heap.size by simp [World.setCell])
        have Bw4 : Hid (Below w.heap.size w (((w4.setCell ⟨ob,0,none⟩ (.slice A3 gl.length c3)).setCell ⟨ob,1,none⟩ (.slice B3 gf.length d3)).setCell ⟨ob,2,none⟩ (.bool true))):=Lib.hid FE.out.b
        clear hHeld
        generalize ((w4.setCell ⟨ob,0,none⟩ (.slice A3 gl.length c3)).setCell ⟨ob,1,none⟩ (.slice B3 gf.length d3)).setCell ⟨ob,2,none⟩ (.bool true) = WE at FE Bw4 HRX ⊢
        go_wp2_with fail
        go_meet
        exact ⟨ob,A3,c3,B3,d3,rfl,FE.out,HRX⟩
      ·skip
       go_simp
       have FM:=Live.ha FW #[.slice none 0 0,.slice none 0 0,.bool false] 91
       have BM:=Lib.hid ((Below.refl _ W1).alloc (Nat.le_refl _) (.cells #[.slice none 0 0,.slice none 0 0,.bool false] 91))
       go_simp
       refine hK.out _ _ ⟨FM.out.cell 1 0 rfl rfl,FM.out.cell 1 1 rfl rfl,FM.out.cell 1 2 rfl rfl⟩ (fun hHeld => ?_)
       clear hK
       try simp only [Act.put,List.setIfInBounds_toArray,List.set_cons_zero,List.set_cons_succ]
       generalize World.alloc W1 _ = WM at FM BM hHeld ⊢
       obtain ⟨ob,hob⟩ : ∃ ob,W1.heap.size = ob:=⟨_,rfl⟩
       rw [hob] at FM ⊢
       have HOB:=Lib.hid (Nat.le_of_eq hob)
       clear hob
       refine wpAnyH_ready (rs := [8]) (by kernel_rfl) (by simp) ?_
       refine AllReadyH.cons rfl (fun K hK => ?_) AllReadyH.nil
       go_simp
       refine (HU.out _).mono ?_
       rintro q w3 ⟨rfl,hb⟩
       have F3:=Live.hb FM hb
       clear hb
       go_simp
       refine hK.out _ _ ⟨F3.out.cell 1 0 rfl rfl,F3.out.cell 1 1 rfl rfl,F3.out.cell 1 2 rfl rfl⟩ (fun hHeld => ?_)
       clear hK
       try simp only [Act.put,List.setIfInBounds_toArray,List.set_cons_zero,List.set_cons_succ]
       refine wpAnyH_ready (rs := [9]) (by kernel_rfl) (by simp) ?_
       refine AllReadyH.cons rfl (fun K hK => ?_) AllReadyH.nil
       go_simp
       refine (HGa.out (fun b=>ob ≠ b) _ F3.out.b (fun b h e=>by have:=F3.out.lt 0 rfl; omega) (fun b h e=>by have:=F3.out.own 0 rfl; omega)).mono ?_
       rintro q w4 ⟨A3,c3,B3,d3,rfl,r3,o3,hb⟩
       have F4:=Live.hb F3 hb
       have R3:=Lib.hid (And.intro r3 o3); clear r3 o3
       clear hb
       go_simp
       refine hK.out _ _ ⟨F4.out.cell 1 0 rfl rfl,F4.out.cell 1 1 rfl rfl,F4.out.cell 1 2 rfl rfl⟩ (fun hHeld => ?_)
       clear hK
       try simp only [Act.put,List.setIfInBounds_toArray,List.set_cons_zero,List.set_cons_succ]
       refine wpAnyH_ready (rs := [11]) (by kernel_rfl) (by simp) ?_
       refine AllReadyH.cons rfl (fun K hK => ?_) AllReadyH.nil
       have d0 : w4.cell? ⟨ob,0,none⟩ = some (.slice none 0 0):=F4.out.cell 0 0 rfl rfl
       have d1 : w4.cell? ⟨ob,1,none⟩ = some (.slice none 0 0):=F4.out.cell 0 1 rfl rfl
       have d2 : w4.cell? ⟨ob,2,none⟩ = some (.bool false):=F4.out.cell 0 2 rfl rfl
       have f0:=F4.out.frozen 0 0 rfl
       have f1:=F4.out.frozen 0 1 rfl
       have f2:=F4.out.frozen 0 2 rfl
       have FE:=Lib.hid (F4.out.put3 (.slice A3 gl.length c3) (.slice B3 gf.length d3) (.bool true))
       go_simp
       refine hK.out _ _ ⟨FE.out.cell 1 0 rfl rfl,FE.out.cell 1 1 rfl rfl,FE.out.cell 1 2 rfl rfl⟩ (fun hHeld => ?_)
       clear hK d0 d1 d2 f0 f1 f2
       try simp only [Act.put,List.setIfInBounds_toArray,List.set_cons_zero,List.set_cons_succ]
       refine wpAnyH_done (by kernel_rfl) ?_ _
       refine NoPanic.normal ?_
       have HRX:=(reads_apart (k:=2) (reads_apart (k:=1) (reads_apart (k:=0) R3.out.1 R3.out.2 (.slice A3 gl.length c3)) R3.out.2 (.slice B3 gf.length d3)) R3.out.2 (.bool true)).more (show w4.heap.size ≤ (((w4.setCell ⟨ob,0,none⟩ (.slice A3 gl.length c3)).setCell ⟨ob,1,none⟩ (.slice B3 gf.length d3)).setCell ⟨ob,2,none⟩ (.bool true)).heap.size by simp [World.setCell])
       have Bw4 : Hid (Below w.heap.size w (((w4.setCell ⟨ob,0,none⟩ (.slice A3 gl.length c3)).setCell ⟨ob,1,none⟩ (.slice B3 gf.length d3)).setCell ⟨ob,2,none⟩ (.bool true))):=Lib.hid FE.out.b
       clear hHeld
       generalize ((w4.setCell ⟨ob,0,none⟩ (.slice A3 gl.length c3)).setCell ⟨ob,1,none⟩ (.slice B3 gf.length d3)).setCell ⟨ob,2,none⟩ (.bool true) = WE at FE Bw4 HRX ⊢
       go_wp2_with fail
       go_meet
       exact ⟨ob,A3,c3,B3,d3,rfl,FE.out,HRX⟩
     case rest =>
      obtain ⟨ob,A3,c3,B3,d3,rfl,hl2,hr2⟩:=hcut
      have F2:=Lib.hid hl2
      have R2:=Lib.hid hr2
      clear hl2 hr2 F1 k0_0 k0_1 k0_2 HGa HU
      by_cases hgf : gf = []
      ·subst hgf
       replace F2 : Hid (Live w wc [(ob,91,#[.slice A3 gl.length c3,.slice B3 0 d3,.bool true]),(bp,27,#[.slice A items.length c,.string ⟨nx.toArray⟩,.slice B nodes.length d])]):=F2
       by_cases hlen : gl.length = items.length
       ·have R2 : Hid (Reads wc wc.heap.size 2 A3 items.length (icells gl)):=Lib.hid (by rw [← hlen]; exact R2.out)
        rw [hlen] at F2
        have HLen:=Lib.hid hlen
        have hgl : gl.length = items.length:=hlen
        clear hlen
        have HXs : Hid (gl = items → X = (items,nx,0)):=Lib.hid (fun h=>HX.out.trans (if_neg (by rw [h]; simp)))
        have HXn : Hid (gl ≠ items → X = ([], [],130)):=Lib.hid (fun h=>HX.out.trans (if_pos (.inr (.inr h))))
        clear HX hgl
        have k0_0 : wc.cell? ⟨ob,0,none⟩ = some (.slice A3 items.length c3):=F2.out.cell 0 0 rfl rfl; have k0_1 : wc.cell? ⟨ob,1,none⟩ = some (.slice B3 0 d3):=F2.out.cell 0 1 rfl rfl; have k0_2 : wc.cell? ⟨ob,2,none⟩ = some (.bool true):=F2.out.cell 0 2 rfl rfl
        have k1_0 : wc.cell? ⟨bp,0,none⟩ = some (.slice A items.length c):=F2.out.cell 1 0 rfl rfl; have k1_1 : wc.cell? ⟨bp,1,none⟩ = some (.string ⟨nx.toArray⟩):=F2.out.cell 1 1 rfl rfl; have k1_2 : wc.cell? ⟨bp,2,none⟩ = some (.slice B nodes.length d):=F2.out.cell 1 2 rfl rfl
        go_wp2_with fail
        refine verR_loop w wc ob bp gl items items.length HLen.out rfl (by have:=HLn.out.1; omega) A3 B3 A B c3 d3 c d nodes.length nx [] F2.out R2.out ((HRd.out.1.below F2.out.b).more F2.out.b.size) _ ?_ ?_ _ _ _ _ _ _ _ _ _ _ _ _ _ _ _ _ _ _ _ _ _ _ _ _ _ _ _ _ _ _ _ _ _ _ _ _ _ _ _ _ _ _ _ _ _ _ _ _ _ _ _ _ _ _ _ _ _ _ _ _ _ _ _ _ _ _ _ _ _ _ _ _ _ _ _ _ _ _ _ _ _ _ _ _ _ _ _ _ _ _ _ _ _ _ _ _ _ _ _ _ _ _ _ _ _ _ _ _ _ _ _ _ _ _ _ _
        ·intro hEq W9 s0 s1 s2 s3 s4 s5 s6 s7 s8 s10 s11 s12 s14 s15 s16 s17 s18 s19 s20 s21 s22 s23 s24 s25 s26 s27 s28 s29 s30 s31 s32 s33 s34 s35 s36 s37 s38 s39 s40 s41 s42 s43 s44 s45 s46 s47 s48 s49 s50 s51 s52 s53 s54 s55 s56 s57 s58 s59 s60 s61 s62 s63 s64 s65 s66 s67 s68 s69 s70 s71 s72 s73 s74 s75 s76 s77 s78 s79 s80 s81 s82 s83 s84 s85 s86 s87 s88 s89 s90 s91 s92 s93 s94 s95 s96 s97 s98 s99 s100 s101 s102 s103 s104 s105 s106 s107 s108 s109 s110 s111 s112 s113 s114 s115 s116 s117 s118 hb9
         have F9:=Live.hb F2 hb9
         have R9 : Hid (Reads W9 W9.heap.size 2 A3 items.length (icells items)):=Lib.hid (by have:=(R2.out.below hb9).more hb9.size; rw [hEq] at this; exact this)
         have HX:=Lib.hid (HXs.out hEq)
         clear hEq hb9 HXs HXn R2 F2 k0_0 k0_1 k0_2 k1_0 k1_1 k1_2
         have k0_0 : W9.cell? ⟨ob,0,none⟩ = some (.slice A3 items.length c3):=F9.out.cell 0 0 rfl rfl; have k0_1 : W9.cell? ⟨ob,1,none⟩ = some (.slice B3 0 d3):=F9.out.cell 0 1 rfl rfl; have k0_2 : W9.cell? ⟨ob,2,none⟩ = some (.bool true):=F9.out.cell 0 2 rfl rfl
         have k1_0 : W9.cell? ⟨bp,0,none⟩ = some (.slice A items.length c):=F9.out.cell 1 0 rfl rfl; have k1_1 : W9.cell? ⟨bp,1,none⟩ = some (.string ⟨nx.toArray⟩):=F9.out.cell 1 1 rfl rfl; have k1_2 : W9.cell? ⟨bp,2,none⟩ = some (.slice B nodes.length d):=F9.out.cell 1 2 rfl rfl
         go_wp2_with fail
         go_quiet (fail)
         go_wp2_with fail
         exact HP.out items nx 0 _ _ _ HX.out (reads_drewN R9.out _) (below_drewN F9.out.b _)
        ·intro hNe W9 s0 s1 s2 s3 s4 s5 s6 s7 s8 s9 s13 s14 s15 s16 s17 s18 s19 s20 s21 s22 s23 s24 s25 s26 s27 s28 s29 s30 s31 s32 s33 s34 s35 s36 s37 s38 s39 s40 s41 s42 s43 s44 s45 s46 s47 s48 s49 s50 s51 s52 s53 s54 s55 s56 s57 s58 s59 s60 s61 s62 s63 s64 s65 s66 s67 s68 s69 s70 s71 s72 s73 s74 s75 s76 s77 s78 s79 s80 s81 s82 s83 s84 s85 s86 s87 s88 s89 s90 s91 s92 s93 s94 s95 s96 s97 s98 s99 s100 s101 s102 s103 s104 s105 s106 s107 s108 s109 s110 s111 s112 s113 s114 s115 s116 s117 s118 hb9
         have HX:=Lib.hid (HXn.out hNe)
         have B9:=Lib.hid (F2.out.b.nxt hb9)
         clear hNe hb9 HXs HXn
         first
         | (go_wp2_with fail; exact HNil.out 130 _ HX.out B9.out)
         | exact bodyPost_ret (v:=.tuple #[.slice none 0 0,.string ⟨#[]⟩,.int .i64 130]) (by simp [results,Tryz.f10,go_sem]) rfl (HNil.out 130 _ HX.out B9.out)
       ·have HX4:=Lib.hid (HX.out.trans (if_pos (.inr (.inr (fun h=>hlen (by rw [h]))))))
        clear HX
        have hlq : ((gl.length : Int) != (items.length : Int)) = true:=by rw [bne_iff_ne]; omega
        clear hlen
        have k0_0 : wc.cell? ⟨ob,0,none⟩ = some (.slice A3 gl.length c3):=F2.out.cell 0 0 rfl rfl; have k0_1 : wc.cell? ⟨ob,1,none⟩ = some (.slice B3 0 d3):=F2.out.cell 0 1 rfl rfl; have k0_2 : wc.cell? ⟨ob,2,none⟩ = some (.bool true):=F2.out.cell 0 2 rfl rfl
        have k1_0 : wc.cell? ⟨bp,0,none⟩ = some (.slice A items.length c):=F2.out.cell 1 0 rfl rfl; have k1_1 : wc.cell? ⟨bp,1,none⟩ = some (.string ⟨nx.toArray⟩):=F2.out.cell 1 1 rfl rfl; have k1_2 : wc.cell? ⟨bp,2,none⟩ = some (.slice B nodes.length d):=F2.out.cell 1 2 rfl rfl
        go_wp2_with fail
        exact HNil.out 130 _ HX4.out F2.out.b
      ·have HX4:=Lib.hid (HX.out.trans (if_pos (.inr (.inl hgf))))
       clear HX
       have hz3 : 0 < gf.length:=List.length_pos_iff.2 hgf
       clear hgf
       have k0_0 : wc.cell? ⟨ob,0,none⟩ = some (.slice A3 gl.length c3):=F2.out.cell 0 0 rfl rfl; have k0_1 : wc.cell? ⟨ob,1,none⟩ = some (.slice B3 gf.length d3):=F2.out.cell 0 1 rfl rfl; have k0_2 : wc.cell? ⟨ob,2,none⟩ = some (.bool true):=F2.out.cell 0 2 rfl rfl
       have k1_0 : wc.cell? ⟨bp,0,none⟩ = some (.slice A items.length c):=F2.out.cell 1 0 rfl rfl; have k1_1 : wc.cell? ⟨bp,1,none⟩ = some (.string ⟨nx.toArray⟩):=F2.out.cell 1 1 rfl rfl; have k1_2 : wc.cell? ⟨bp,2,none⟩ = some (.slice B nodes.length d):=F2.out.cell 1 2 rfl rfl
       go_wp2_with fail
       exact HNil.out 130 _ HX4.out F2.out.b
end Go.Proofs.YtomnlhbioijfhaaGreatDoor
