import Derived.Test.YtomnlhbioijfhaaGreatDoorJ36
import Derived.Test.YtomnlhbioijfhaaGreatDoorJ34
set_option linter.unusedSimpArgs false
set_option linter.unusedVariables false
namespace Go.Proofs.YtomnlhbioijfhaaGreatDoor
open Go.RowKit Go.Instr
attribute [local go_sem] ba_get ByteArray.mk_append_mk
attribute [local go_sem ↓] Go.wp_at_zero Go.wp_at_succ
def ItemsTEnd (w : World) (r : List Trie.KV × List UInt8 × Nat) (e : Ending) (w' : World) : Prop :=
 ∃ A c,e = .returned (.tuple #[.slice A r.1.length c,.string ⟨r.2.1.toArray⟩,.int .i64 (r.2.2 : Int)]) ∧ w'.ownsRow w.heap.size 77 2 (.slice A r.1.length c) r.1.length (icells r.1) ∧ Below w.heap.size w w'
theorem itemsT_nil (w w' : World) (cd : Nat) (h : Below w.heap.size w w') : ItemsTEnd w ([], [],cd) (.returned (.tuple #[.slice none 0 0,.string ⟨#[]⟩,.int .i64 (cd : Int)])) w':=⟨none,0,rfl,World.ownsRow_nil _ _ _ _,h⟩
set_option maxRecDepth 100000 in
set_option maxHeartbeats 2000000 in
theorem span_Verify_bad (w : World) (root f e : List UInt8) (most : Int) (hm : most < 1 ∨ 16 < most) (items : List Trie.KV) (A : Option Addr) (c : Nat) (nx : List UInt8) (nodes : List (List UInt8)) (B : Option Addr) (d : Nat) :
  Calls Tryz.prog 9 #[.string ⟨root.toArray⟩,.string ⟨f.toArray⟩,.string ⟨e.toArray⟩,.int .i64 most,.agg #[.slice A items.length c,.string ⟨nx.toArray⟩,.slice B nodes.length d]] w (ItemsTEnd w ([], [],1)):=by
 have HP:=Lib.hid (fun w' h=>itemsT_nil w w' 1 h)
 generalize ItemsTEnd w ([], [],1) = P at HP ⊢
 by_cases h1 : most < 1
 ·clear hm
  go_enter Tryz.func9,Tryz.ntmps9
  go_upto_region 1 with fail
  obtain ⟨bp,hbp⟩ : ∃ bp,w.heap.size = bp:=⟨_,rfl⟩
  have F1 : Hid (Live w (w.alloc (.cells #[.slice A items.length c,.string ⟨nx.toArray⟩,.slice B nodes.length d] 27)) [(bp,27,#[.slice A items.length c,.string ⟨nx.toArray⟩,.slice B nodes.length d])]):=Lib.hid (by subst hbp; exact Live.one ((Below.refl _ _).alloc (Nat.le_refl _) _) (Nat.le_refl _) (Blk.new _ _ _))
  try rw [hbp]
  generalize w.alloc (.cells #[.slice A items.length c,.string ⟨nx.toArray⟩,.slice B nodes.length d] 27) = W1 at F1 ⊢
  clear hbp
  have k0_0 : W1.cell? ⟨bp,0,none⟩ = some (.slice A items.length c):=F1.out.cell 0 0 rfl rfl; have k0_1 : W1.cell? ⟨bp,1,none⟩ = some (.string ⟨nx.toArray⟩):=F1.out.cell 0 1 rfl rfl; have k0_2 : W1.cell? ⟨bp,2,none⟩ = some (.slice B nodes.length d):=F1.out.cell 0 2 rfl rfl
  go_wp2_with fail
  exact HP.out _ F1.out.b
 ·have h2 : (16 : Int) < most:=by omega
  have h3 : (most < 1) = False:=by simp; omega
  clear hm h1
  go_enter Tryz.func9,Tryz.ntmps9
  go_upto_region 1 with fail
  obtain ⟨bp,hbp⟩ : ∃ bp,w.heap.size = bp:=⟨_,rfl⟩
  have F1 : Hid (Live w (w.alloc (.cells #[.slice A items.length c,.string ⟨nx.toArray⟩,.slice B nodes.length d] 27)) [(bp,27,#[.slice A items.length c,.string ⟨nx.toArray⟩,.slice B nodes.length d])]):=Lib.hid (by subst hbp; exact Live.one ((Below.refl _ _).alloc (Nat.le_refl _) _) (Nat.le_refl _) (Blk.new _ _ _))
  try rw [hbp]
  generalize w.alloc (.cells #[.slice A items.length c,.string ⟨nx.toArray⟩,.slice B nodes.length d] 27) = W1 at F1 ⊢
  clear hbp
  have k0_0 : W1.cell? ⟨bp,0,none⟩ = some (.slice A items.length c):=F1.out.cell 0 0 rfl rfl; have k0_1 : W1.cell? ⟨bp,1,none⟩ = some (.string ⟨nx.toArray⟩):=F1.out.cell 0 1 rfl rfl; have k0_2 : W1.cell? ⟨bp,2,none⟩ = some (.slice B nodes.length d):=F1.out.cell 0 2 rfl rfl
  go_wp2_with fail
  exact HP.out _ F1.out.b
set_option maxRecDepth 100000 in
set_option maxHeartbeats 8000000 in
theorem span_Verify (w : World) (root f e : List UInt8) (hf : f.length ≤ 1048576) (he : e.length ≤ 1048576) (m : Nat) (h1 : 1 ≤ m) (h2 : m ≤ 16) (items : List Trie.KV) (A : Option Addr) (c : Nat) (HR : Reads w w.heap.size 2 A items.length (icells items)) (hil : items.length ≤ 40000)
  (nx : List UInt8) (hnx : nx.length ≤ 1048576) (nodes : List (List UInt8)) (B : Option Addr) (d : Nat) (HN : Reads w w.heap.size 1 B nodes.length (strv nodes)) (hd : nodes.length ≤ d) (hnl : nodes.length ≤ 40000) (hns : ∀ x ∈ nodes,x.length ≤ 999999) (hT : Tbl w) :
  Calls Tryz.prog 9 #[.string ⟨root.toArray⟩,.string ⟨f.toArray⟩,.string ⟨e.toArray⟩,.int .i64 (m : Int),.agg #[.slice A items.length c,.string ⟨nx.toArray⟩,.slice B nodes.length d]] w (ItemsTEnd w (Trie.verifyP root f e m items nx nodes)):=by
 have HP : Hid (∀ l s (cd : Nat) A c w',Trie.verifyP root f e m items nx nodes = (l,s,cd) → w'.ownsRow w.heap.size 77 2 (.slice A l.length c) l.length (icells l) → Below w.heap.size w w' → ItemsTEnd w (Trie.verifyP root f e m items nx nodes) (.returned (.tuple #[.slice A l.length c,.string ⟨s.toArray⟩,.int .i64 (cd : Int)])) w'):=Lib.hid (fun l s cd A c w' e1 h1 h2=>by rw [e1]; exact ⟨A,c,rfl,h1,h2⟩)
 have HNil : Hid (∀ (cd : Nat) w',Trie.verifyP root f e m items nx nodes = ([], [],cd) → Below w.heap.size w w' → ItemsTEnd w (Trie.verifyP root f e m items nx nodes) (.returned (.tuple #[.slice none 0 0,.string ⟨#[]⟩,.int .i64 (cd : Int)])) w'):=Lib.hid (fun cd w' e1 h=>by rw [e1]; exact itemsT_nil w w' cd h)
 have HX : Hid (Trie.verifyP root f e m items nx nodes = if Trie.goesOnW items nx e m = false then ([], [],130)
 else if root = [] then (if nodes ≠ [] ∨ items ≠ [] then ([], [],130) else ([], [],0))
 else if (Trie.gotW root f (Trie.upToW nx e) nodes).1 = false ∨ (Trie.gotW root f (Trie.upToW nx e) nodes).2.2 ≠ [] ∨ (Trie.gotW root f (Trie.upToW nx e) nodes).2.1 ≠ items then ([], [],130)
 else (items,nx,0)):=Lib.hid rfl
 generalize ItemsTEnd w (Trie.verifyP root f e m items nx nodes) = P at HP HNil ⊢
 generalize Trie.verifyP root f e m items nx nodes = X at *
 have hm1 : ((m : Int) < 1) = False:=by simp; omega
 have hm2 : ((16 : Int) < m) = False:=by simp; omega
 have HGo:=Lib.hid (fun W (hW : Below w.heap.size w W)=>span_goesOn W items A c ((HR.below hW).more hW.size) nx e (.slice B nodes.length d) m h1 h2 rfl (by omega))
 have HRd:=Lib.hid (And.intro HR HN)
 have HTb:=Lib.hid hT
 have HLn:=Lib.hid (And.intro hil (And.intro hnl (And.intro hns hd)))
 clear HR HN hT h1 h2
 cases hg : Trie.goesOnW items nx e m with
 | false =>
  rw [if_pos hg] at HX
  rw [hg] at HGo
  clear hg hf he hnx hil hnl hns hd
  go_enter Tryz.func9,Tryz.ntmps9
  go_upto_region 1 with fail
  obtain ⟨bp,hbp⟩ : ∃ bp,w.heap.size = bp:=⟨_,rfl⟩
  have F1 : Hid (Live w (w.alloc (.cells #[.slice A items.length c,.string ⟨nx.toArray⟩,.slice B nodes.length d] 27)) [(bp,27,#[.slice A items.length c,.string ⟨nx.toArray⟩,.slice B nodes.length d])]):=Lib.hid (by subst hbp; exact Live.one ((Below.refl _ _).alloc (Nat.le_refl _) _) (Nat.le_refl _) (Blk.new _ _ _))
  try rw [hbp]
  generalize w.alloc (.cells #[.slice A items.length c,.string ⟨nx.toArray⟩,.slice B nodes.length d] 27) = W1 at F1 ⊢
  clear hbp
  have k0_0 : W1.cell? ⟨bp,0,none⟩ = some (.slice A items.length c):=F1.out.cell 0 0 rfl rfl; have k0_1 : W1.cell? ⟨bp,1,none⟩ = some (.string ⟨nx.toArray⟩):=F1.out.cell 0 1 rfl rfl; have k0_2 : W1.cell? ⟨bp,2,none⟩ = some (.slice B nodes.length d):=F1.out.cell 0 2 rfl rfl
  go_wp2_with fail
  refine (HGo.out _ F1.out.b).mono ?_
  rintro q w2 ⟨rfl,hb⟩
  have F2:=Live.hb F1 hb
  clear hb k0_0 k0_1 k0_2 HGo
  have k0_0 : w2.cell? ⟨bp,0,none⟩ = some (.slice A items.length c):=F2.out.cell 0 0 rfl rfl; have k0_1 : w2.cell? ⟨bp,1,none⟩ = some (.string ⟨nx.toArray⟩):=F2.out.cell 0 1 rfl rfl; have k0_2 : w2.cell? ⟨bp,2,none⟩ = some (.slice B nodes.length d):=F2.out.cell 0 2 rfl rfl
  go_wp2_with fail
  exact HNil.out 130 _ HX.out F2.out.b
 | true =>
  rw [if_neg (by simp [hg])] at HX
  rw [hg] at HGo
  clear hg
  by_cases hr : root = []
  ·subst hr
   rw [if_pos rfl] at HX
   clear hf he hnx hil hnl hns hd
   by_cases hn : nodes = []
   ·subst hn
    cases items with
    | nil =>
     rw [if_neg (by simp)] at HX
     go_enter Tryz.func9,Tryz.ntmps9
     go_upto_region 1 with fail
     obtain ⟨bp,hbp⟩ : ∃ bp,w.heap.size = bp:=⟨_,rfl⟩
     have F1 : Hid (Live w (w.alloc (.cells #[.slice A 0 c,.string ⟨nx.toArray⟩,.slice B 0 d] 27)) [(bp,27,#[.slice A 0 c,.string ⟨nx.toArray⟩,.slice B 0 d])]):=Lib.hid (by subst hbp; exact Live.one ((Below.refl _ _).alloc (Nat.le_refl _) _) (Nat.le_refl _) (Blk.new _ _ _))
     try rw [hbp]
     generalize w.alloc (.cells #[.slice A 0 c,.string ⟨nx.toArray⟩,.slice B 0 d] 27) = W1 at F1 ⊢
     clear hbp
     have k0_0 : W1.cell? ⟨bp,0,none⟩ = some (.slice A 0 c):=F1.out.cell 0 0 rfl rfl; have k0_1 : W1.cell? ⟨bp,1,none⟩ = some (.string ⟨nx.toArray⟩):=F1.out.cell 0 1 rfl rfl; have k0_2 : W1.cell? ⟨bp,2,none⟩ = some (.slice B 0 d):=F1.out.cell 0 2 rfl rfl
     go_wp2_with fail
     refine (HGo.out _ F1.out.b).mono ?_
     rintro q w2 ⟨rfl,hb⟩
     have F2:=Live.hb F1 hb
     clear hb k0_0 k0_1 k0_2 HGo
     have k0_0 : w2.cell? ⟨bp,0,none⟩ = some (.slice A 0 c):=F2.out.cell 0 0 rfl rfl; have k0_1 : w2.cell? ⟨bp,1,none⟩ = some (.string ⟨nx.toArray⟩):=F2.out.cell 0 1 rfl rfl; have k0_2 : w2.cell? ⟨bp,2,none⟩ = some (.slice B 0 d):=F2.out.cell 0 2 rfl rfl
     go_wp2_with fail
     exact HNil.out 0 _ HX.out F2.out.b
    | cons x items =>
     rw [if_pos (.inr (by simp))] at HX
     have hI : (0 : Int) < (items.length : Int) + 1:=by omega
     go_enter Tryz.func9,Tryz.ntmps9
     go_upto_region 1 with fail
     obtain ⟨bp,hbp⟩ : ∃ bp,w.heap.size = bp:=⟨_,rfl⟩
     have F1 : Hid (Live w (w.alloc (.cells #[.slice A (items.length + 1) c,.string ⟨nx.toArray⟩,.slice B 0 d] 27)) [(bp,27,#[.slice A (items.length + 1) c,.string ⟨nx.toArray⟩,.slice B 0 d])]):=Lib.hid (by subst hbp; exact Live.one ((Below.refl _ _).alloc (Nat.le_refl _) _) (Nat.le_refl _) (Blk.new _ _ _))
     try rw [hbp]
     generalize w.alloc (.cells #[.slice A (items.length + 1) c,.string ⟨nx.toArray⟩,.slice B 0 d] 27) = W1 at F1 ⊢
     clear hbp
     have k0_0 : W1.cell? ⟨bp,0,none⟩ = some (.slice A (items.length + 1) c):=F1.out.cell 0 0 rfl rfl; have k0_1 : W1.cell? ⟨bp,1,none⟩ = some (.string ⟨nx.toArray⟩):=F1.out.cell 0 1 rfl rfl; have k0_2 : W1.cell? ⟨bp,2,none⟩ = some (.slice B 0 d):=F1.out.cell 0 2 rfl rfl
     go_wp2_with fail
     refine (HGo.out _ F1.out.b).mono ?_
     rintro q w2 ⟨rfl,hb⟩
     have F2:=Live.hb F1 hb
     clear hb k0_0 k0_1 k0_2 HGo
     have k0_0 : w2.cell? ⟨bp,0,none⟩ = some (.slice A (items.length + 1) c):=F2.out.cell 0 0 rfl rfl; have k0_1 : w2.cell? ⟨bp,1,none⟩ = some (.string ⟨nx.toArray⟩):=F2.out.cell 0 1 rfl rfl; have k0_2 : w2.cell? ⟨bp,2,none⟩ = some (.slice B 0 d):=F2.out.cell 0 2 rfl rfl
     go_wp2_with fail
     exact HNil.out 130 _ HX.out F2.out.b
   ·rw [if_pos (.inl hn)] at HX
    cases nodes with
    | nil=>exact absurd rfl hn
    | cons x nodes =>
     have hI : (0 : Int) < (nodes.length : Int) + 1:=by omega
     clear hn
     go_enter Tryz.func9,Tryz.ntmps9
     go_upto_region 1 with fail
     obtain ⟨bp,hbp⟩ : ∃ bp,w.heap.size = bp:=⟨_,rfl⟩
     have F1 : Hid (Live w (w.alloc (.cells #[.slice A items.length c,.string ⟨nx.toArray⟩,.slice B (nodes.length + 1) d] 27)) [(bp,27,#[.slice A items.length c,.string ⟨nx.toArray⟩,.slice B (nodes.length + 1) d])]):=Lib.hid (by subst hbp; exact Live.one ((Below.refl _ _).alloc (Nat.le_refl _) _) (Nat.le_refl _) (Blk.new _ _ _))
     try rw [hbp]
     generalize w.alloc (.cells #[.slice A items.length c,.string ⟨nx.toArray⟩,.slice B (nodes.length + 1) d] 27) = W1 at F1 ⊢
     clear hbp
     have k0_0 : W1.cell? ⟨bp,0,none⟩ = some (.slice A items.length c):=F1.out.cell 0 0 rfl rfl; have k0_1 : W1.cell? ⟨bp,1,none⟩ = some (.string ⟨nx.toArray⟩):=F1.out.cell 0 1 rfl rfl; have k0_2 : W1.cell? ⟨bp,2,none⟩ = some (.slice B (nodes.length + 1) d):=F1.out.cell 0 2 rfl rfl
     go_wp2_with fail
     refine (HGo.out _ F1.out.b).mono ?_
     rintro q w2 ⟨rfl,hb⟩
     have F2:=Live.hb F1 hb
     clear hb k0_0 k0_1 k0_2 HGo
     have k0_0 : w2.cell? ⟨bp,0,none⟩ = some (.slice A items.length c):=F2.out.cell 0 0 rfl rfl; have k0_1 : w2.cell? ⟨bp,1,none⟩ = some (.string ⟨nx.toArray⟩):=F2.out.cell 0 1 rfl rfl; have k0_2 : w2.cell? ⟨bp,2,none⟩ = some (.slice B (nodes.length + 1) d):=F2.out.cell 0 2 rfl rfl
     go_wp2_with fail
     exact HNil.out 130 _ HX.out F2.out.b
  ·have ne1 : (root.toArray = #[]) = False:=by simp [hr]
   have ne2 : root.isEmpty = false:=by simp [hr]
   rw [if_neg hr] at HX
   have HU:=Lib.hid (fun W=>span_upTo W nx e)
   have hul : (Trie.upToW nx e).length ≤ 1048576:=by unfold Trie.upToW; split <;> assumption
   have HOf:=Lib.hid (fun W=>nib_Of f W hf)
   have HOu:=Lib.hid (fun W=>nib_Of (Trie.upToW nx e) W hul)
   have HGa : Hid (∀ bg bl W,SpI w bg bl f (Trie.upToW nx e) ([],nodes) W → Calls Tryz.prog 38 #[.pointer (some ⟨bg,0,none⟩),.string ⟨root.toArray⟩,.string ⟨#[]⟩,.func (.func 37) #[] #[.pointer (some ⟨bl,0,none⟩)]] W (GaEnd w bg bl f (Trie.upToW nx e) W (Trie.gotW root f (Trie.upToW nx e) nodes))):=Lib.hid (fun bg bl W hS=>by
    have:=span_gather w bg bl f (Trie.upToW nx e) hf hul HTb.out (nodes.length + 17) ([],nodes) W root [] (by simp) (by simp; omega) hns (by simp; omega) hS
    exact this)
   have HGl : Hid ((Trie.gotW root f (Trie.upToW nx e) nodes).2.1.length ≤ 40000 ∧ (Trie.gotW root f (Trie.upToW nx e) nodes).2.2.length ≤ 40000):=Lib.hid (by
    have:=Trie.gathW_sz (coverW (Nib.of f) (Nib.of (Trie.upToW nx e)) (Trie.upToW nx e)) f (Trie.upToW nx e) (nodes.length + 17) root [] ([],nodes)
    have a:=this.both
    have b:=this.left
    unfold Trie.gotW
    simp only [List.length_nil] at a b
    omega)
   generalize Trie.gotW root f (Trie.upToW nx e) nodes = gt at *
   generalize Trie.upToW nx e = u at *
   clear hf he hnx hil hnl hns hd hr hul
   go_enter Tryz.func9,Tryz.ntmps9
   go_upto_region 1 with fail
   obtain ⟨bp,hbp⟩ : ∃ bp,w.heap.size = bp:=⟨_,rfl⟩
   have F1 : Hid (Live w (w.alloc (.cells #[.slice A items.length c,.string ⟨nx.toArray⟩,.slice B nodes.length d] 27)) [(bp,27,#[.slice A items.length c,.string ⟨nx.toArray⟩,.slice B nodes.length d])]):=Lib.hid (by subst hbp; exact Live.one ((Below.refl _ _).alloc (Nat.le_refl _) _) (Nat.le_refl _) (Blk.new _ _ _))
   try rw [hbp]
   generalize w.alloc (.cells #[.slice A items.length c,.string ⟨nx.toArray⟩,.slice B nodes.length d] 27) = W1 at F1 ⊢
   clear hbp
   have k0_0 : W1.cell? ⟨bp,0,none⟩ = some (.slice A items.length c):=F1.out.cell 0 0 rfl rfl; have k0_1 : W1.cell? ⟨bp,1,none⟩ = some (.string ⟨nx.toArray⟩):=F1.out.cell 0 1 rfl rfl; have k0_2 : W1.cell? ⟨bp,2,none⟩ = some (.slice B nodes.length d):=F1.out.cell 0 2 rfl rfl
   go_wp2_with fail
   refine (HGo.out _ F1.out.b).mono ?_
   rintro q w2 ⟨rfl,hb⟩
   have F2:=Live.hb F1 hb
   clear hb k0_0 k0_1 k0_2 HGo
   have k0_0 : w2.cell? ⟨bp,0,none⟩ = some (.slice A items.length c):=F2.out.cell 0 0 rfl rfl; have k0_1 : w2.cell? ⟨bp,1,none⟩ = some (.string ⟨nx.toArray⟩):=F2.out.cell 0 1 rfl rfl; have k0_2 : w2.cell? ⟨bp,2,none⟩ = some (.slice B nodes.length d):=F2.out.cell 0 2 rfl rfl
   go_wp2_with fail
   refine (HU.out _).mono ?_
   rintro q w3 ⟨rfl,rfl⟩
   go_wp2_with fail
   refine (HOf.out _).mono ?_
   rintro q w4 ⟨rfl,hb⟩
   have F4:=Live.hb F2 hb
   clear hb k0_0 k0_1 k0_2
   go_upto_region 10 with fail
   have F5:=Live.ha F4 #[.string ⟨f.toArray⟩,.string ⟨u.toArray⟩,.string ⟨(Nib.of f).toArray⟩,.string ⟨#[]⟩,.slice none 0 0] 87
   generalize World.alloc w4 _ = W5 at F5 ⊢
   generalize w4.heap.size = bg at F5 ⊢
   clear F4 HOf HU
   have k0_0 : W5.cell? ⟨bg,0,none⟩ = some (.string ⟨f.toArray⟩):=F5.out.cell 0 0 rfl rfl; have k0_1 : W5.cell? ⟨bg,1,none⟩ = some (.string ⟨u.toArray⟩):=F5.out.cell 0 1 rfl rfl; have k0_2 : W5.cell? ⟨bg,2,none⟩ = some (.string ⟨(Nib.of f).toArray⟩):=F5.out.cell 0 2 rfl rfl; have k0_3 : W5.cell? ⟨bg,3,none⟩ = some (.string ⟨#[]⟩):=F5.out.cell 0 3 rfl rfl; have k0_4 : W5.cell? ⟨bg,4,none⟩ = some (.slice none 0 0):=F5.out.cell 0 4 rfl rfl
   go_wp2_with fail
   refine (HOu.out _).mono ?_
   rintro q w6 ⟨rfl,hb⟩
   have F6:=Live.hb F5 hb
   clear hb k0_0 k0_1 k0_2 k0_3 k0_4 F5 HOu
   have k0_0 : w6.cell? ⟨bg,0,none⟩ = some (.string ⟨f.toArray⟩):=F6.out.cell 0 0 rfl rfl; have k0_1 : w6.cell? ⟨bg,1,none⟩ = some (.string ⟨u.toArray⟩):=F6.out.cell 0 1 rfl rfl; have k0_2 : w6.cell? ⟨bg,2,none⟩ = some (.string ⟨(Nib.of f).toArray⟩):=F6.out.cell 0 2 rfl rfl; have k0_3 : w6.cell? ⟨bg,3,none⟩ = some (.string ⟨#[]⟩):=F6.out.cell 0 3 rfl rfl; have k0_4 : w6.cell? ⟨bg,4,none⟩ = some (.slice none 0 0):=F6.out.cell 0 4 rfl rfl
   have f0_0 : w6.frozen? ⟨bg,0,none⟩ = false:=F6.out.frozen 0 0 rfl; have f0_1 : w6.frozen? ⟨bg,1,none⟩ = false:=F6.out.frozen 0 1 rfl; have f0_2 : w6.frozen? ⟨bg,2,none⟩ = false:=F6.out.frozen 0 2 rfl; have f0_3 : w6.frozen? ⟨bg,3,none⟩ = false:=F6.out.frozen 0 3 rfl; have f0_4 : w6.frozen? ⟨bg,4,none⟩ = false:=F6.out.frozen 0 4 rfl
   go_upto_region 11 with fail
   have F7:=Live.hs F6 0 3 (.string ⟨(Nib.of u).toArray⟩) rfl
   generalize World.setCell w6 _ _ = W7 at F7 ⊢
   clear k0_0 k0_1 k0_2 k0_3 k0_4 f0_0 f0_1 f0_2 f0_3 f0_4 F6
   have k1_0 : W7.cell? ⟨bp,0,none⟩ = some (.slice A items.length c):=F7.out.cell 1 0 rfl rfl; have k1_1 : W7.cell? ⟨bp,1,none⟩ = some (.string ⟨nx.toArray⟩):=F7.out.cell 1 1 rfl rfl; have k1_2 : W7.cell? ⟨bp,2,none⟩ = some (.slice B nodes.length d):=F7.out.cell 1 2 rfl rfl
   go_upto_region 13 with fail
   have F8:=Live.ha F7 #[.slice B nodes.length d] 25
   generalize World.alloc W7 _ = W8 at F8 ⊢
   generalize W7.heap.size = bl at F8 ⊢
   clear F7 k1_0 k1_1 k1_2
   have HS : Hid (SpI w bg bl f u ([],nodes) W8):=Lib.hid ⟨none,0,0,B,nodes.length,d,F8.out.blk 1 rfl,rfl,World.ownsRow_nil _ _ _ _,F8.out.blk 0 rfl,rfl,HLn.out.2.2.2,HRd.out.2,F8.out.b,F8.out.own 1 rfl,F8.out.own 0 rfl⟩
   have HPg:=Lib.hid (F8.out.blk 2 rfl)
   have HG2:=Lib.hid (fun W (hW : Below W8.heap.size W8 W)=>HGa.out bg bl W (HS.out.next hW))
   clear F8 HGa
   obtain ⟨gb,gl,gf⟩:=gt
   unfold GaEnd at HG2
   simp only at HG2 HX HGl
   cases gb with
   | false =>
    rw [if_pos (.inl rfl)] at HX
    refine wp_region_held_drew (S:=fun _=>True) (by kernel_rfl) trivial (fun hHeld => ?_)
    refine wpAnyH_take (i:=0) (oi:=⟨some 59,_,_,_,_,_⟩) (v := ?_) rfl (by kernel_rfl) (by kernel_rfl) (by kernel_rfl) (fun _ _ _ h=>h) (Or.inl ⟨by rfl, ?_⟩) (by assumption) ?_
    rotate_left
    ·intro w hSw
     try dsimp only at hSw
     go_simp
     first | done | with_reducible rfl
    try simp only [Act.put,List.setIfInBounds_toArray,List.set_cons_zero,List.set_cons_succ]
    refine wpAnyH_take (i:=1) (oi:=⟨some 60,_,_,_,_,_⟩) (v := ?_) rfl (by kernel_rfl) (by kernel_rfl) (by kernel_rfl) (fun _ _ _ h=>h) (Or.inl ⟨by rfl, ?_⟩) (by assumption) ?_
    rotate_left
    ·intro w hSw
     try dsimp only at hSw
     go_simp
     first | done | with_reducible rfl
    try simp only [Act.put,List.setIfInBounds_toArray,List.set_cons_zero,List.set_cons_succ]
    refine wpAnyH_take (i:=2) (oi:=⟨some 61,_,_,_,_,_⟩) (v := ?_) rfl (by kernel_rfl) (by kernel_rfl) (by kernel_rfl) (fun _ _ _ h=>h) (Or.inl ⟨by rfl, ?_⟩) (by assumption) ?_
    rotate_left
    ·intro w hSw
     try dsimp only at hSw
     go_simp
     first | done | with_reducible rfl
    try simp only [Act.put,List.setIfInBounds_toArray,List.set_cons_zero,List.set_cons_succ]
    refine wpAnyH_ready (rs := [3]) (by kernel_rfl) (by simp) ?_
    refine AllReadyH.cons rfl (fun K hK => ?_) AllReadyH.nil
    go_simp
    refine (HG2.out _ (by first | exact (Below.refl _ _) | exact (Below.refl _ _).drew)).mono ?_
    rintro q w9 ⟨rfl,hs9,hk9⟩
    have O9:=Lib.hid (And.intro hs9 (hk9 _ _ _ (by decide) (by decide) (by decide) HPg.out))
    go_simp
    refine hK.out _ _ trivial (fun hHeld => ?_)
    clear hK K
    try simp only [Act.put,List.setIfInBounds_toArray,List.set_cons_zero,List.set_cons_succ]
    refine wpAnyH_take (i:=4) (oi:=⟨some 63,_,_,_,_,_⟩) (v := ?_) rfl (by kernel_rfl) (by kernel_rfl) (by kernel_rfl) (fun _ _ _ h=>h) (Or.inl ⟨by rfl, ?_⟩) (by assumption) ?_
    rotate_left
    ·intro w hSw
     try dsimp only at hSw
     go_simp
     first | done | with_reducible rfl
    try simp only [Act.put,List.setIfInBounds_toArray,List.set_cons_zero,List.set_cons_succ]
    refine wpAnyH_take (i:=5) (oi:=⟨some 64,_,_,_,_,_⟩) (v := ?_) rfl (by kernel_rfl) (by kernel_rfl) (by kernel_rfl) (fun _ _ _ h=>h) (Or.inl ⟨by rfl, ?_⟩) (by assumption) ?_
    rotate_left
    ·intro w hSw
     try dsimp only at hSw
     go_simp
     first | done | with_reducible rfl
    try simp only [Act.put,List.setIfInBounds_toArray,List.set_cons_zero,List.set_cons_succ]
    clear hs9 hk9
    refine wpAnyH_take (i:=6) (oi:=⟨some 65,_,_,_,_,_⟩) (v:=undef) rfl (by kernel_rfl) (by kernel_rfl) (by kernel_rfl) (fun _ _ _ h=>h) (Or.inr ⟨by rfl,rfl⟩) (by assumption) ?_
    try simp only [Act.put,List.setIfInBounds_toArray,List.set_cons_zero,List.set_cons_succ]
    refine wpAnyH_take (i:=7) (oi:=⟨some 66,_,_,_,_,_⟩) (v:=undef) rfl (by kernel_rfl) (by kernel_rfl) (by kernel_rfl) (fun _ _ _ h=>h) (Or.inr ⟨by rfl,rfl⟩) (by assumption) ?_
    try simp only [Act.put,List.setIfInBounds_toArray,List.set_cons_zero,List.set_cons_succ]
    refine wpAnyH_take (i:=8) (oi:=⟨some 67,_,_,_,_,_⟩) (v:=undef) rfl (by kernel_rfl) (by kernel_rfl) (by kernel_rfl) (fun _ _ _ h=>h) (Or.inr ⟨by rfl,rfl⟩) (by assumption) ?_
    try simp only [Act.put,List.setIfInBounds_toArray,List.set_cons_zero,List.set_cons_succ]
    refine wpAnyH_take (i:=9) (oi:=⟨some 68,_,_,_,_,_⟩) (v := ?_) rfl (by kernel_rfl) (by kernel_rfl) (by kernel_rfl) (fun _ _ _ h=>h) (Or.inl ⟨by rfl, ?_⟩) (by assumption) ?_
    rotate_left
    ·intro w hSw
     try dsimp only at hSw
     go_simp
     first | done | with_reducible rfl
    try simp only [Act.put,List.setIfInBounds_toArray,List.set_cons_zero,List.set_cons_succ]
    refine wpAnyH_take (i:=10) (oi:=⟨some 69,_,_,_,_,_⟩) (v := ?_) rfl (by kernel_rfl) (by kernel_rfl) (by kernel_rfl) (fun _ _ _ h=>h) (Or.inl ⟨by rfl, ?_⟩) (by assumption) ?_
    rotate_left
    ·intro w hSw
     try dsimp only at hSw
     go_simp
     first | done | with_reducible rfl
    try simp only [Act.put,List.setIfInBounds_toArray,List.set_cons_zero,List.set_cons_succ]
    refine wpAnyH_take (i:=11) (oi:=⟨some 70,_,_,_,_,_⟩) (v:=undef) rfl (by kernel_rfl) (by kernel_rfl) (by kernel_rfl) (fun _ _ _ h=>h) (Or.inr ⟨by rfl,rfl⟩) (by assumption) ?_
    try simp only [Act.put,List.setIfInBounds_toArray,List.set_cons_zero,List.set_cons_succ]
    refine wpAnyH_take (i:=12) (oi:=⟨some 71,_,_,_,_,_⟩) (v:=undef) rfl (by kernel_rfl) (by kernel_rfl) (by kernel_rfl) (fun _ _ _ h=>h) (Or.inr ⟨by rfl,rfl⟩) (by assumption) ?_
    try simp only [Act.put,List.setIfInBounds_toArray,List.set_cons_zero,List.set_cons_succ]
    refine wpAnyH_take (i:=13) (oi:=⟨some 72,_,_,_,_,_⟩) (v:=undef) rfl (by kernel_rfl) (by kernel_rfl) (by kernel_rfl) (fun _ _ _ h=>h) (Or.inr ⟨by rfl,rfl⟩) (by assumption) ?_
    try simp only [Act.put,List.setIfInBounds_toArray,List.set_cons_zero,List.set_cons_succ]
    refine wpAnyH_take (i:=14) (oi:=⟨some 73,_,_,_,_,_⟩) (v:=undef) rfl (by kernel_rfl) (by kernel_rfl) (by kernel_rfl) (fun _ _ _ h=>h) (Or.inr ⟨by rfl,rfl⟩) (by assumption) ?_
    try simp only [Act.put,List.setIfInBounds_toArray,List.set_cons_zero,List.set_cons_succ]
    refine wpAnyH_take (i:=15) (oi:=⟨some 74,_,_,_,_,_⟩) (v:=undef) rfl (by kernel_rfl) (by kernel_rfl) (by kernel_rfl) (fun _ _ _ h=>h) (Or.inr ⟨by rfl,rfl⟩) (by assumption) ?_
    try simp only [Act.put,List.setIfInBounds_toArray,List.set_cons_zero,List.set_cons_succ]
    refine wpAnyH_take (i:=16) (oi:=⟨some 75,_,_,_,_,_⟩) (v:=undef) rfl (by kernel_rfl) (by kernel_rfl) (by kernel_rfl) (fun _ _ _ h=>h) (Or.inr ⟨by rfl,rfl⟩) (by assumption) ?_
    try simp only [Act.put,List.setIfInBounds_toArray,List.set_cons_zero,List.set_cons_succ]
    refine wpAnyH_take (i:=17) (oi:=⟨some 76,_,_,_,_,_⟩) (v:=undef) rfl (by kernel_rfl) (by kernel_rfl) (by kernel_rfl) (fun _ _ _ h=>h) (Or.inr ⟨by rfl,rfl⟩) (by assumption) ?_
    try simp only [Act.put,List.setIfInBounds_toArray,List.set_cons_zero,List.set_cons_succ]
    refine wpAnyH_take (i:=18) (oi:=⟨some 77,_,_,_,_,_⟩) (v:=undef) rfl (by kernel_rfl) (by kernel_rfl) (by kernel_rfl) (fun _ _ _ h=>h) (Or.inr ⟨by rfl,rfl⟩) (by assumption) ?_
    try simp only [Act.put,List.setIfInBounds_toArray,List.set_cons_zero,List.set_cons_succ]
    refine wpAnyH_take (i:=19) (oi:=⟨some 78,_,_,_,_,_⟩) (v := ?_) rfl (by kernel_rfl) (by kernel_rfl) (by kernel_rfl) (fun _ _ _ h=>h) (Or.inl ⟨by rfl, ?_⟩) (by assumption) ?_
    rotate_left
    ·intro w hSw
     try dsimp only at hSw
     go_simp
     first | done | with_reducible rfl
    try simp only [Act.put,List.setIfInBounds_toArray,List.set_cons_zero,List.set_cons_succ]
    refine wpAnyH_done (by kernel_rfl) ?_ _
    go_wp2
    exact HNil.out 130 _ HX.out O9.out.1.low
   | true =>
    cases gf with
    | cons x gf =>
     rw [if_pos (.inr (.inl (by simp)))] at HX
     have hgp : (0 : Int) < (gf.length : Int) + 1:=by omega
     refine wp_region_held_drew (S:=fun _=>True) (by kernel_rfl) trivial (fun hHeld => ?_)
     refine wpAnyH_take (i:=0) (oi:=⟨some 59,_,_,_,_,_⟩) (v := ?_) rfl (by kernel_rfl) (by kernel_rfl) (by kernel_rfl) (fun _ _ _ h=>h) (Or.inl ⟨by rfl, ?_⟩) (by assumption) ?_
     rotate_left
     ·intro w hSw
      try dsimp only at hSw
      go_simp
      first | done | with_reducible rfl
     try simp only [Act.put,List.setIfInBounds_toArray,List.set_cons_zero,List.set_cons_succ]
     refine wpAnyH_take (i:=1) (oi:=⟨some 60,_,_,_,_,_⟩) (v := ?_) rfl (by kernel_rfl) (by kernel_rfl) (by kernel_rfl) (fun _ _ _ h=>h) (Or.inl ⟨by rfl, ?_⟩) (by assumption) ?_
     rotate_left
     ·intro w hSw
      try dsimp only at hSw
      go_simp
      first | done | with_reducible rfl
     try simp only [Act.put,List.setIfInBounds_toArray,List.set_cons_zero,List.set_cons_succ]
     refine wpAnyH_take (i:=2) (oi:=⟨some 61,_,_,_,_,_⟩) (v := ?_) rfl (by kernel_rfl) (by kernel_rfl) (by kernel_rfl) (fun _ _ _ h=>h) (Or.inl ⟨by rfl, ?_⟩) (by assumption) ?_
     rotate_left
     ·intro w hSw
      try dsimp only at hSw
      go_simp
      first | done | with_reducible rfl
     try simp only [Act.put,List.setIfInBounds_toArray,List.set_cons_zero,List.set_cons_succ]
     refine wpAnyH_ready (rs := [3]) (by kernel_rfl) (by simp) ?_
     refine AllReadyH.cons rfl (fun K hK => ?_) AllReadyH.nil
     go_simp
     refine (HG2.out _ (by first | exact (Below.refl _ _) | exact (Below.refl _ _).drew)).mono ?_
     rintro q w9 ⟨rfl,hs9,hk9⟩
     have O9:=Lib.hid (And.intro hs9 (hk9 _ _ _ (by decide) (by decide) (by decide) HPg.out))
     go_simp
     refine hK.out _ _ trivial (fun hHeld => ?_)
     clear hK K
     try simp only [Act.put,List.setIfInBounds_toArray,List.set_cons_zero,List.set_cons_succ]
     refine wpAnyH_take (i:=4) (oi:=⟨some 63,_,_,_,_,_⟩) (v := ?_) rfl (by kernel_rfl) (by kernel_rfl) (by kernel_rfl) (fun _ _ _ h=>h) (Or.inl ⟨by rfl, ?_⟩) (by assumption) ?_
     rotate_left
     ·intro w hSw
      try dsimp only at hSw
      go_simp
      first | done | with_reducible rfl
     try simp only [Act.put,List.setIfInBounds_toArray,List.set_cons_zero,List.set_cons_succ]
     refine wpAnyH_take (i:=5) (oi:=⟨some 64,_,_,_,_,_⟩) (v := ?_) rfl (by kernel_rfl) (by kernel_rfl) (by kernel_rfl) (fun _ _ _ h=>h) (Or.inl ⟨by rfl, ?_⟩) (by assumption) ?_
     rotate_left
     ·intro w hSw
      try dsimp only at hSw
      go_simp
      first | done | with_reducible rfl
     try simp only [Act.put,List.setIfInBounds_toArray,List.set_cons_zero,List.set_cons_succ]
     obtain ⟨A9,n9,c9,B9,m9,d9,g1,g2,g3,g4,g5,_⟩:=id hs9
     simp only [List.length_cons] at g5
     subst g5
     have cl:=g4.cell 0
     clear hs9 hk9 g1 g2 g3 g4
     refine wpAnyH_ready (rs := [6]) (by kernel_rfl) (by simp) ?_
     refine AllReadyH.cons rfl (fun K hK => ?_) AllReadyH.nil
     go_simp
     refine hK.out _ _ trivial (fun hHeld => ?_)
     clear hK K
     try simp only [Act.put,List.setIfInBounds_toArray,List.set_cons_zero,List.set_cons_succ]
     refine wpAnyH_take (i:=7) (oi:=⟨some 66,_,_,_,_,_⟩) (v := ?_) rfl (by kernel_rfl) (by kernel_rfl) (by kernel_rfl) (fun _ _ _ h=>h) (Or.inl ⟨by rfl, ?_⟩) (by assumption) ?_
     rotate_left
     ·intro w hSw
      try dsimp only at hSw
      go_simp
      first | done | with_reducible rfl
     try simp only [Act.put,List.setIfInBounds_toArray,List.set_cons_zero,List.set_cons_succ]
     refine wpAnyH_take (i:=8) (oi:=⟨some 67,_,_,_,_,_⟩) (v := ?_) rfl (by kernel_rfl) (by kernel_rfl) (by kernel_rfl) (fun _ _ _ h=>h) (Or.inl ⟨by rfl, ?_⟩) (by assumption) ?_
     rotate_left
     ·intro w hSw
      try dsimp only at hSw
      go_simp
      first | done | with_reducible rfl
     try simp only [Act.put,List.setIfInBounds_toArray,List.set_cons_zero,List.set_cons_succ]
     refine wpAnyH_take (i:=9) (oi:=⟨some 68,_,_,_,_,_⟩) (v := ?_) rfl (by kernel_rfl) (by kernel_rfl) (by kernel_rfl) (fun _ _ _ h=>h) (Or.inl ⟨by rfl, ?_⟩) (by assumption) ?_
     rotate_left
     ·intro w hSw
      try dsimp only at hSw
      go_simp
      first | done | with_reducible rfl
     try simp only [Act.put,List.setIfInBounds_toArray,List.set_cons_zero,List.set_cons_succ]
     refine wpAnyH_take (i:=10) (oi:=⟨some 69,_,_,_,_,_⟩) (v := ?_) rfl (by kernel_rfl) (by kernel_rfl) (by kernel_rfl) (fun _ _ _ h=>h) (Or.inl ⟨by rfl, ?_⟩) (by assumption) ?_
     rotate_left
     ·intro w hSw
      try dsimp only at hSw
      go_simp
      first | done | with_reducible rfl
     try simp only [Act.put,List.setIfInBounds_toArray,List.set_cons_zero,List.set_cons_succ]
     refine wpAnyH_take (i:=11) (oi:=⟨some 70,_,_,_,_,_⟩) (v:=undef) rfl (by kernel_rfl) (by kernel_rfl) (by kernel_rfl) (fun _ _ _ h=>h) (Or.inr ⟨by rfl,rfl⟩) (by assumption) ?_
     try simp only [Act.put,List.setIfInBounds_toArray,List.set_cons_zero,List.set_cons_succ]
     refine wpAnyH_take (i:=12) (oi:=⟨some 71,_,_,_,_,_⟩) (v:=undef) rfl (by kernel_rfl) (by kernel_rfl) (by kernel_rfl) (fun _ _ _ h=>h) (Or.inr ⟨by rfl,rfl⟩) (by assumption) ?_
     try simp only [Act.put,List.setIfInBounds_toArray,List.set_cons_zero,List.set_cons_succ]
     refine wpAnyH_take (i:=13) (oi:=⟨some 72,_,_,_,_,_⟩) (v:=undef) rfl (by kernel_rfl) (by kernel_rfl) (by kernel_rfl) (fun _ _ _ h=>h) (Or.inr ⟨by rfl,rfl⟩) (by assumption) ?_
     try simp only [Act.put,List.setIfInBounds_toArray,List.set_cons_zero,List.set_cons_succ]
     refine wpAnyH_take (i:=14) (oi:=⟨some 73,_,_,_,_,_⟩) (v:=undef) rfl (by kernel_rfl) (by kernel_rfl) (by kernel_rfl) (fun _ _ _ h=>h) (Or.inr ⟨by rfl,rfl⟩) (by assumption) ?_
     try simp only [Act.put,List.setIfInBounds_toArray,List.set_cons_zero,List.set_cons_succ]
     refine wpAnyH_take (i:=15) (oi:=⟨some 74,_,_,_,_,_⟩) (v:=undef) rfl (by kernel_rfl) (by kernel_rfl) (by kernel_rfl) (fun _ _ _ h=>h) (Or.inr ⟨by rfl,rfl⟩) (by assumption) ?_
     try simp only [Act.put,List.setIfInBounds_toArray,List.set_cons_zero,List.set_cons_succ]
     refine wpAnyH_take (i:=16) (oi:=⟨some 75,_,_,_,_,_⟩) (v:=undef) rfl (by kernel_rfl) (by kernel_rfl) (by kernel_rfl) (fun _ _ _ h=>h) (Or.inr ⟨by rfl,rfl⟩) (by assumption) ?_
     try simp only [Act.put,List.setIfInBounds_toArray,List.set_cons_zero,List.set_cons_succ]
     refine wpAnyH_take (i:=17) (oi:=⟨some 76,_,_,_,_,_⟩) (v:=undef) rfl (by kernel_rfl) (by kernel_rfl) (by kernel_rfl) (fun _ _ _ h=>h) (Or.inr ⟨by rfl,rfl⟩) (by assumption) ?_
     try simp only [Act.put,List.setIfInBounds_toArray,List.set_cons_zero,List.set_cons_succ]
     refine wpAnyH_take (i:=18) (oi:=⟨some 77,_,_,_,_,_⟩) (v:=undef) rfl (by kernel_rfl) (by kernel_rfl) (by kernel_rfl) (fun _ _ _ h=>h) (Or.inr ⟨by rfl,rfl⟩) (by assumption) ?_
     try simp only [Act.put,List.setIfInBounds_toArray,List.set_cons_zero,List.set_cons_succ]
     refine wpAnyH_take (i:=19) (oi:=⟨some 78,_,_,_,_,_⟩) (v := ?_) rfl (by kernel_rfl) (by kernel_rfl) (by kernel_rfl) (fun _ _ _ h=>h) (Or.inl ⟨by rfl, ?_⟩) (by assumption) ?_
     rotate_left
     ·intro w hSw
      try dsimp only at hSw
      go_simp
      first | done | with_reducible rfl
     try simp only [Act.put,List.setIfInBounds_toArray,List.set_cons_zero,List.set_cons_succ]
     refine wpAnyH_done (by kernel_rfl) ?_ _
     go_wp2
     exact HNil.out 130 _ HX.out O9.out.1.low
    | nil =>
     have HEq : Hid (∀ W An (cn : Nat),Below w.heap.size w W → W.ownsRow w.heap.size 77 2 (.slice An gl.length cn) gl.length (icells gl) → Calls Tryz.prog 39 #[.slice An gl.length cn,.slice A items.length c] W (Ret W (.bool (decide (gl = items))))):=Lib.hid (fun W An cn hW own=>items_Equal An A _ _ cn c gl items W (Reads.of_own own) ((HRd.out.1.below hW).more hW.size) (by have:=HGl.out.1; omega) (by have:=HLn.out.1; omega))
     by_cases hgi : gl = items
     ·subst hgi
      rw [if_neg (by simp)] at HX
      rw [decide_eq_true rfl] at HEq
      refine wp_region_held_drew (S:=fun _=>True) (by kernel_rfl) trivial (fun hHeld => ?_)
      refine wpAnyH_take (i:=0) (oi:=⟨some 59,_,_,_,_,_⟩) (v := ?_) rfl (by kernel_rfl) (by kernel_rfl) (by kernel_rfl) (fun _ _ _ h=>h) (Or.inl ⟨by rfl, ?_⟩) (by assumption) ?_
      rotate_left
      ·intro w hSw
       try dsimp only at hSw
       go_simp
       first | done | with_reducible rfl
      try simp only [Act.put,List.setIfInBounds_toArray,List.set_cons_zero,List.set_cons_succ]
      refine wpAnyH_take (i:=1) (oi:=⟨some 60,_,_,_,_,_⟩) (v := ?_) rfl (by kernel_rfl) (by kernel_rfl) (by kernel_rfl) (fun _ _ _ h=>h) (Or.inl ⟨by rfl, ?_⟩) (by assumption) ?_
      rotate_left
      ·intro w hSw
       try dsimp only at hSw
       go_simp
       first | done | with_reducible rfl
      try simp only [Act.put,List.setIfInBounds_toArray,List.set_cons_zero,List.set_cons_succ]
      refine wpAnyH_take (i:=2) (oi:=⟨some 61,_,_,_,_,_⟩) (v := ?_) rfl (by kernel_rfl) (by kernel_rfl) (by kernel_rfl) (fun _ _ _ h=>h) (Or.inl ⟨by rfl, ?_⟩) (by assumption) ?_
      rotate_left
      ·intro w hSw
       try dsimp only at hSw
       go_simp
       first | done | with_reducible rfl
      try simp only [Act.put,List.setIfInBounds_toArray,List.set_cons_zero,List.set_cons_succ]
      refine wpAnyH_ready (rs := [3]) (by kernel_rfl) (by simp) ?_
      refine AllReadyH.cons rfl (fun K hK => ?_) AllReadyH.nil
      go_simp
      refine (HG2.out _ (by first | exact (Below.refl _ _) | exact (Below.refl _ _).drew)).mono ?_
      rintro q w9 ⟨rfl,hs9,hk9⟩
      have O9:=Lib.hid (And.intro hs9 (hk9 _ _ _ (by decide) (by decide) (by decide) HPg.out))
      go_simp
      refine hK.out _ _ trivial (fun hHeld => ?_)
      clear hK K
      try simp only [Act.put,List.setIfInBounds_toArray,List.set_cons_zero,List.set_cons_succ]
      refine wpAnyH_take (i:=4) (oi:=⟨some 63,_,_,_,_,_⟩) (v := ?_) rfl (by kernel_rfl) (by kernel_rfl) (by kernel_rfl) (fun _ _ _ h=>h) (Or.inl ⟨by rfl, ?_⟩) (by assumption) ?_
      rotate_left
      ·intro w hSw
       try dsimp only at hSw
       go_simp
       first | done | with_reducible rfl
      try simp only [Act.put,List.setIfInBounds_toArray,List.set_cons_zero,List.set_cons_succ]
      refine wpAnyH_take (i:=5) (oi:=⟨some 64,_,_,_,_,_⟩) (v := ?_) rfl (by kernel_rfl) (by kernel_rfl) (by kernel_rfl) (fun _ _ _ h=>h) (Or.inl ⟨by rfl, ?_⟩) (by assumption) ?_
      rotate_left
      ·intro w hSw
       try dsimp only at hSw
       go_simp
       first | done | with_reducible rfl
      try simp only [Act.put,List.setIfInBounds_toArray,List.set_cons_zero,List.set_cons_succ]
      obtain ⟨A9,n9,c9,B9,m9,d9,g1,rfl,g3,g4,g5,_⟩:=id hs9
      simp only [List.length_nil] at g5
      subst g5
      have cl:=g4.cell 0
      have ci:=g1.cell 4
      have cp:=O9.out.2.cell 0
      have cq:=O9.out.2.cell 1
      have O3:=Lib.hid (And.intro g1 g3)
      clear hs9 hk9 g1 g3 g4
      refine wpAnyH_ready (rs := [6]) (by kernel_rfl) (by simp) ?_
      refine AllReadyH.cons rfl (fun K hK => ?_) AllReadyH.nil
      go_simp
      refine hK.out _ _ trivial (fun hHeld => ?_)
      clear hK K
      try simp only [Act.put,List.setIfInBounds_toArray,List.set_cons_zero,List.set_cons_succ]
      refine wpAnyH_take (i:=7) (oi:=⟨some 66,_,_,_,_,_⟩) (v := ?_) rfl (by kernel_rfl) (by kernel_rfl) (by kernel_rfl) (fun _ _ _ h=>h) (Or.inl ⟨by rfl, ?_⟩) (by assumption) ?_
      rotate_left
      ·intro w hSw
       try dsimp only at hSw
       go_simp
       first | done | with_reducible rfl
      try simp only [Act.put,List.setIfInBounds_toArray,List.set_cons_zero,List.set_cons_succ]
      refine wpAnyH_take (i:=8) (oi:=⟨some 67,_,_,_,_,_⟩) (v := ?_) rfl (by kernel_rfl) (by kernel_rfl) (by kernel_rfl) (fun _ _ _ h=>h) (Or.inl ⟨by rfl, ?_⟩) (by assumption) ?_
      rotate_left
      ·intro w hSw
       try dsimp only at hSw
       go_simp
       first | done | with_reducible rfl
      try simp only [Act.put,List.setIfInBounds_toArray,List.set_cons_zero,List.set_cons_succ]
      refine wpAnyH_take (i:=9) (oi:=⟨some 68,_,_,_,_,_⟩) (v := ?_) rfl (by kernel_rfl) (by kernel_rfl) (by kernel_rfl) (fun _ _ _ h=>h) (Or.inl ⟨by rfl, ?_⟩) (by assumption) ?_
      rotate_left
      ·intro w hSw
       try dsimp only at hSw
       go_simp
       first | done | with_reducible rfl
      try simp only [Act.put,List.setIfInBounds_toArray,List.set_cons_zero,List.set_cons_succ]
      refine wpAnyH_take (i:=10) (oi:=⟨some 69,_,_,_,_,_⟩) (v := ?_) rfl (by kernel_rfl) (by kernel_rfl) (by kernel_rfl) (fun _ _ _ h=>h) (Or.inl ⟨by rfl, ?_⟩) (by assumption) ?_
      rotate_left
      ·intro w hSw
       try dsimp only at hSw
       go_simp
       first | done | with_reducible rfl
      try simp only [Act.put,List.setIfInBounds_toArray,List.set_cons_zero,List.set_cons_succ]
      refine wpAnyH_take (i:=11) (oi:=⟨some 70,_,_,_,_,_⟩) (v := ?_) rfl (by kernel_rfl) (by kernel_rfl) (by kernel_rfl) (fun _ _ _ h=>h) (Or.inl ⟨by rfl, ?_⟩) (by assumption) ?_
      rotate_left
      ·intro w hSw
       try dsimp only at hSw
       go_simp
       first | done | with_reducible rfl
      try simp only [Act.put,List.setIfInBounds_toArray,List.set_cons_zero,List.set_cons_succ]
      refine wpAnyH_take (i:=12) (oi:=⟨some 71,_,_,_,_,_⟩) (v := ?_) rfl (by kernel_rfl) (by kernel_rfl) (by kernel_rfl) (fun _ _ _ h=>h) (Or.inl ⟨by rfl, ?_⟩) (by assumption) ?_
      rotate_left
      ·intro w hSw
       try dsimp only at hSw
       go_simp
       first | done | with_reducible rfl
      try simp only [Act.put,List.setIfInBounds_toArray,List.set_cons_zero,List.set_cons_succ]
      refine wpAnyH_take (i:=13) (oi:=⟨some 72,_,_,_,_,_⟩) (v := ?_) rfl (by kernel_rfl) (by kernel_rfl) (by kernel_rfl) (fun _ _ _ h=>h) (Or.inl ⟨by rfl, ?_⟩) (by assumption) ?_
      rotate_left
      ·intro w hSw
       try dsimp only at hSw
       go_simp
       first | done | with_reducible rfl
      try simp only [Act.put,List.setIfInBounds_toArray,List.set_cons_zero,List.set_cons_succ]
      refine wpAnyH_take (i:=15) (oi:=⟨some 74,_,_,_,_,_⟩) (v := ?_) rfl (by kernel_rfl) (by kernel_rfl) (by kernel_rfl) (fun _ _ _ h=>h) (Or.inl ⟨by rfl, ?_⟩) (by assumption) ?_
      rotate_left
      ·intro w hSw
       try dsimp only at hSw
       go_simp
       first | done | with_reducible rfl
      try simp only [Act.put,List.setIfInBounds_toArray,List.set_cons_zero,List.set_cons_succ]
      refine wpAnyH_ready (rs := [14,16]) (by kernel_rfl) (by simp) ?_
      refine AllReadyH.cons rfl (fun K hK => ?_) (AllReadyH.cons rfl (fun K hK => ?_) AllReadyH.nil)
      ·
       go_simp
       refine hK.out _ _ trivial (fun hHeld => ?_)
       clear hK K
       try simp only [Act.put,List.setIfInBounds_toArray,List.set_cons_zero,List.set_cons_succ]
       refine wpAnyH_ready (rs := [16]) (by kernel_rfl) (by simp) ?_
       refine AllReadyH.cons rfl (fun K hK => ?_) AllReadyH.nil
       go_simp
       refine hK.out _ _ trivial (fun hHeld => ?_)
       clear hK K
       try simp only [Act.put,List.setIfInBounds_toArray,List.set_cons_zero,List.set_cons_succ]
       refine wpAnyH_ready (rs := [17]) (by kernel_rfl) (by simp) ?_
       refine AllReadyH.cons rfl (fun K hK => ?_) AllReadyH.nil
       go_simp
       refine (HEq.out _ _ _ (by first | exact O9.out.1.low | exact O9.out.1.low.drew) (by first | exact O3.out.2)).mono ?_
       rintro q w10 ⟨rfl,hb10⟩
       have B10 : Below w9.heap.size w9 w10:=(by first | exact hb10 | exact hb10.start)
       clear hb10
       go_simp
       refine hK.out _ _ trivial (fun hHeld => ?_)
       clear hK K
       try simp only [Act.put,List.setIfInBounds_toArray,List.set_cons_zero,List.set_cons_succ]
       refine wpAnyH_take (i:=18) (oi:=⟨some 77,_,_,_,_,_⟩) (v := ?_) rfl (by kernel_rfl) (by kernel_rfl) (by kernel_rfl) (fun _ _ _ h=>h) (Or.inl ⟨by rfl, ?_⟩) (by assumption) ?_
       rotate_left
       ·intro w hSw
        try dsimp only at hSw
        go_simp
        first | done | with_reducible rfl
       try simp only [Act.put,List.setIfInBounds_toArray,List.set_cons_zero,List.set_cons_succ]
       refine wpAnyH_take (i:=19) (oi:=⟨some 78,_,_,_,_,_⟩) (v := ?_) rfl (by kernel_rfl) (by kernel_rfl) (by kernel_rfl) (fun _ _ _ h=>h) (Or.inl ⟨by rfl, ?_⟩) (by assumption) ?_
       rotate_left
       ·intro w hSw
        try dsimp only at hSw
        go_simp
        first | done | with_reducible rfl
       try simp only [Act.put,List.setIfInBounds_toArray,List.set_cons_zero,List.set_cons_succ]
       refine wpAnyH_done (by kernel_rfl) ?_ _
       have cg:=(B10.cell (p:=⟨bg,4,none⟩) O3.out.1.lt).trans ci
       have cn:=(B10.cell (p:=⟨bp,1,none⟩) O9.out.2.lt).trans cq
       have O10:=Lib.hid (own_below O3.out.2 B10)
       clear ci cq cp cl
       go_wp2
       go_quiet (fail)
       go_wp2
       exact HP.out gl nx 0 _ _ _ HX.out O10.out (below_drewN (O9.out.1.low.nxt B10) _)
      ·
       go_simp
       refine hK.out _ _ trivial (fun hHeld => ?_)
       clear hK K
       try simp only [Act.put,List.setIfInBounds_toArray,List.set_cons_zero,List.set_cons_succ]
       refine wpAnyH_ready (rs := [14]) (by kernel_rfl) (by simp) ?_
       refine AllReadyH.cons rfl (fun K hK => ?_) AllReadyH.nil
       go_simp
       refine hK.out _ _ trivial (fun hHeld => ?_)
       clear hK K
       try simp only [Act.put,List.setIfInBounds_toArray,List.set_cons_zero,List.set_cons_succ]
       refine wpAnyH_ready (rs := [17]) (by kernel_rfl) (by simp) ?_
       refine AllReadyH.cons rfl (fun K hK => ?_) AllReadyH.nil
       go_simp
       refine (HEq.out _ _ _ (by first | exact O9.out.1.low | exact O9.out.1.low.drew) (by first | exact O3.out.2)).mono ?_
       rintro q w10 ⟨rfl,hb10⟩
       have B10 : Below w9.heap.size w9 w10:=(by first | exact hb10 | exact hb10.start)
       clear hb10
       go_simp
       refine hK.out _ _ trivial (fun hHeld => ?_)
       clear hK K
       try simp only [Act.put,List.setIfInBounds_toArray,List.set_cons_zero,List.set_cons_succ]
       refine wpAnyH_take (i:=18) (oi:=⟨some 77,_,_,_,_,_⟩) (v := ?_) rfl (by kernel_rfl) (by kernel_rfl) (by kernel_rfl) (fun _ _ _ h=>h) (Or.inl ⟨by rfl, ?_⟩) (by assumption) ?_
       rotate_left
       ·intro w hSw
        try dsimp only at hSw
        go_simp
        first | done | with_reducible rfl
       try simp only [Act.put,List.setIfInBounds_toArray,List.set_cons_zero,List.set_cons_succ]
       refine wpAnyH_take (i:=19) (oi:=⟨some 78,_,_,_,_,_⟩) (v := ?_) rfl (by kernel_rfl) (by kernel_rfl) (by kernel_rfl) (fun _ _ _ h=>h) (Or.inl ⟨by rfl, ?_⟩) (by assumption) ?_
       rotate_left
       ·intro w hSw
        try dsimp only at hSw
        go_simp
        first | done | with_reducible rfl
       try simp only [Act.put,List.setIfInBounds_toArray,List.set_cons_zero,List.set_cons_succ]
       refine wpAnyH_done (by kernel_rfl) ?_ _
       have cg:=(B10.cell (p:=⟨bg,4,none⟩) O3.out.1.lt).trans ci
       have cn:=(B10.cell (p:=⟨bp,1,none⟩) O9.out.2.lt).trans cq
       have O10:=Lib.hid (own_below O3.out.2 B10)
       clear ci cq cp cl
       go_wp2
       go_quiet (fail)
       go_wp2
       exact HP.out gl nx 0 _ _ _ HX.out O10.out (below_drewN (O9.out.1.low.nxt B10) _)
     ·rw [if_pos (.inr (.inr hgi))] at HX
      rw [decide_eq_false hgi] at HEq
      clear hgi
      refine wp_region_held_drew (S:=fun _=>True) (by kernel_rfl) trivial (fun hHeld => ?_)
      refine wpAnyH_take (i:=0) (oi:=⟨some 59,_,_,_,_,_⟩) (v := ?_) rfl (by kernel_rfl) (by kernel_rfl) (by kernel_rfl) (fun _ _ _ h=>h) (Or.inl ⟨by rfl, ?_⟩) (by assumption) ?_
      rotate_left
      ·intro w hSw
       try dsimp only at hSw
       go_simp
       first | done | with_reducible rfl
      try simp only [Act.put,List.setIfInBounds_toArray,List.set_cons_zero,List.set_cons_succ]
      refine wpAnyH_take (i:=1) (oi:=⟨some 60,_,_,_,_,_⟩) (v := ?_) rfl (by kernel_rfl) (by kernel_rfl) (by kernel_rfl) (fun _ _ _ h=>h) (Or.inl ⟨by rfl, ?_⟩) (by assumption) ?_
      rotate_left
      ·intro w hSw
       try dsimp only at hSw
       go_simp
       first | done | with_reducible rfl
      try simp only [Act.put,List.setIfInBounds_toArray,List.set_cons_zero,List.set_cons_succ]
      refine wpAnyH_take (i:=2) (oi:=⟨some 61,_,_,_,_,_⟩) (v := ?_) rfl (by kernel_rfl) (by kernel_rfl) (by kernel_rfl) (fun _ _ _ h=>h) (Or.inl ⟨by rfl, ?_⟩) (by assumption) ?_
      rotate_left
      ·intro w hSw
       try dsimp only at hSw
       go_simp
       first | done | with_reducible rfl
      try simp only [Act.put,List.setIfInBounds_toArray,List.set_cons_zero,List.set_cons_succ]
      refine wpAnyH_ready (rs := [3]) (by kernel_rfl) (by simp) ?_
      refine AllReadyH.cons rfl (fun K hK => ?_) AllReadyH.nil
      go_simp
      refine (HG2.out _ (by first | exact (Below.refl _ _) | exact (Below.refl _ _).drew)).mono ?_
      rintro q w9 ⟨rfl,hs9,hk9⟩
      have O9:=Lib.hid (And.intro hs9 (hk9 _ _ _ (by decide) (by decide) (by decide) HPg.out))
      go_simp
      refine hK.out _ _ trivial (fun hHeld => ?_)
      clear hK K
      try simp only [Act.put,List.setIfInBounds_toArray,List.set_cons_zero,List.set_cons_succ]
      refine wpAnyH_take (i:=4) (oi:=⟨some 63,_,_,_,_,_⟩) (v := ?_) rfl (by kernel_rfl) (by kernel_rfl) (by kernel_rfl) (fun _ _ _ h=>h) (Or.inl ⟨by rfl, ?_⟩) (by assumption) ?_
      rotate_left
      ·intro w hSw
       try dsimp only at hSw
       go_simp
       first | done | with_reducible rfl
      try simp only [Act.put,List.setIfInBounds_toArray,List.set_cons_zero,List.set_cons_succ]
      refine wpAnyH_take (i:=5) (oi:=⟨some 64,_,_,_,_,_⟩) (v := ?_) rfl (by kernel_rfl) (by kernel_rfl) (by kernel_rfl) (fun _ _ _ h=>h) (Or.inl ⟨by rfl, ?_⟩) (by assumption) ?_
      rotate_left
      ·intro w hSw
       try dsimp only at hSw
       go_simp
       first | done | with_reducible rfl
      try simp only [Act.put,List.setIfInBounds_toArray,List.set_cons_zero,List.set_cons_succ]
      obtain ⟨A9,n9,c9,B9,m9,d9,g1,rfl,g3,g4,g5,_⟩:=id hs9
      simp only [List.length_nil] at g5
      subst g5
      have cl:=g4.cell 0
      have ci:=g1.cell 4
      have cp:=O9.out.2.cell 0
      have cq:=O9.out.2.cell 1
      have O3:=Lib.hid (And.intro g1 g3)
      clear hs9 hk9 g1 g3 g4
      refine wpAnyH_ready (rs := [6]) (by kernel_rfl) (by simp) ?_
      refine AllReadyH.cons rfl (fun K hK => ?_) AllReadyH.nil
      go_simp
      refine hK.out _ _ trivial (fun hHeld => ?_)
      clear hK K
      try simp only [Act.put,List.setIfInBounds_toArray,List.set_cons_zero,List.set_cons_succ]
      refine wpAnyH_take (i:=7) (oi:=⟨some 66,_,_,_,_,_⟩) (v := ?_) rfl (by kernel_rfl) (by kernel_rfl) (by kernel_rfl) (fun _ _ _ h=>h) (Or.inl ⟨by rfl, ?_⟩) (by assumption) ?_
      rotate_left
      ·intro w hSw
       try dsimp only at hSw
       go_simp
       first | done | with_reducible rfl
      try simp only [Act.put,List.setIfInBounds_toArray,List.set_cons_zero,List.set_cons_succ]
      refine wpAnyH_take (i:=8) (oi:=⟨some 67,_,_,_,_,_⟩) (v := ?_) rfl (by kernel_rfl) (by kernel_rfl) (by kernel_rfl) (fun _ _ _ h=>h) (Or.inl ⟨by rfl, ?_⟩) (by assumption) ?_
      rotate_left
      ·intro w hSw
       try dsimp only at hSw
       go_simp
       first | done | with_reducible rfl
      try simp only [Act.put,List.setIfInBounds_toArray,List.set_cons_zero,List.set_cons_succ]
      refine wpAnyH_take (i:=9) (oi:=⟨some 68,_,_,_,_,_⟩) (v := ?_) rfl (by kernel_rfl) (by kernel_rfl) (by kernel_rfl) (fun _ _ _ h=>h) (Or.inl ⟨by rfl, ?_⟩) (by assumption) ?_
      rotate_left
      ·intro w hSw
       try dsimp only at hSw
       go_simp
       first | done | with_reducible rfl
      try simp only [Act.put,List.setIfInBounds_toArray,List.set_cons_zero,List.set_cons_succ]
      refine wpAnyH_take (i:=10) (oi:=⟨some 69,_,_,_,_,_⟩) (v := ?_) rfl (by kernel_rfl) (by kernel_rfl) (by kernel_rfl) (fun _ _ _ h=>h) (Or.inl ⟨by rfl, ?_⟩) (by assumption) ?_
      rotate_left
      ·intro w hSw
       try dsimp only at hSw
       go_simp
       first | done | with_reducible rfl
      try simp only [Act.put,List.setIfInBounds_toArray,List.set_cons_zero,List.set_cons_succ]
      refine wpAnyH_take (i:=11) (oi:=⟨some 70,_,_,_,_,_⟩) (v := ?_) rfl (by kernel_rfl) (by kernel_rfl) (by kernel_rfl) (fun _ _ _ h=>h) (Or.inl ⟨by rfl, ?_⟩) (by assumption) ?_
      rotate_left
      ·intro w hSw
       try dsimp only at hSw
       go_simp
       first | done | with_reducible rfl
      try simp only [Act.put,List.setIfInBounds_toArray,List.set_cons_zero,List.set_cons_succ]
      refine wpAnyH_take (i:=12) (oi:=⟨some 71,_,_,_,_,_⟩) (v := ?_) rfl (by kernel_rfl) (by kernel_rfl) (by kernel_rfl) (fun _ _ _ h=>h) (Or.inl ⟨by rfl, ?_⟩) (by assumption) ?_
      rotate_left
      ·intro w hSw
       try dsimp only at hSw
       go_simp
       first | done | with_reducible rfl
      try simp only [Act.put,List.setIfInBounds_toArray,List.set_cons_zero,List.set_cons_succ]
      refine wpAnyH_take (i:=13) (oi:=⟨some 72,_,_,_,_,_⟩) (v := ?_) rfl (by kernel_rfl) (by kernel_rfl) (by kernel_rfl) (fun _ _ _ h=>h) (Or.inl ⟨by rfl, ?_⟩) (by assumption) ?_
      rotate_left
      ·intro w hSw
       try dsimp only at hSw
       go_simp
       first | done | with_reducible rfl
      try simp only [Act.put,List.setIfInBounds_toArray,List.set_cons_zero,List.set_cons_succ]
      refine wpAnyH_take (i:=15) (oi:=⟨some 74,_,_,_,_,_⟩) (v := ?_) rfl (by kernel_rfl) (by kernel_rfl) (by kernel_rfl) (fun _ _ _ h=>h) (Or.inl ⟨by rfl, ?_⟩) (by assumption) ?_
      rotate_left
      ·intro w hSw
       try dsimp only at hSw
       go_simp
       first | done | with_reducible rfl
      try simp only [Act.put,List.setIfInBounds_toArray,List.set_cons_zero,List.set_cons_succ]
      refine wpAnyH_ready (rs := [14,16]) (by kernel_rfl) (by simp) ?_
      refine AllReadyH.cons rfl (fun K hK => ?_) (AllReadyH.cons rfl (fun K hK => ?_) AllReadyH.nil)
      ·
       go_simp
       refine hK.out _ _ trivial (fun hHeld => ?_)
       clear hK K
       try simp only [Act.put,List.setIfInBounds_toArray,List.set_cons_zero,List.set_cons_succ]
       refine wpAnyH_ready (rs := [16]) (by kernel_rfl) (by simp) ?_
       refine AllReadyH.cons rfl (fun K hK => ?_) AllReadyH.nil
       go_simp
       refine hK.out _ _ trivial (fun hHeld => ?_)
       clear hK K
       try simp only [Act.put,List.setIfInBounds_toArray,List.set_cons_zero,List.set_cons_succ]
       refine wpAnyH_ready (rs := [17]) (by kernel_rfl) (by simp) ?_
       refine AllReadyH.cons rfl (fun K hK => ?_) AllReadyH.nil
       go_simp
       refine (HEq.out _ _ _ (by first | exact O9.out.1.low | exact O9.out.1.low.drew) (by first | exact O3.out.2)).mono ?_
       rintro q w10 ⟨rfl,hb10⟩
       have B10 : Below w9.heap.size w9 w10:=(by first | exact hb10 | exact hb10.start)
       clear hb10
       go_simp
       refine hK.out _ _ trivial (fun hHeld => ?_)
       clear hK K
       try simp only [Act.put,List.setIfInBounds_toArray,List.set_cons_zero,List.set_cons_succ]
       refine wpAnyH_take (i:=18) (oi:=⟨some 77,_,_,_,_,_⟩) (v := ?_) rfl (by kernel_rfl) (by kernel_rfl) (by kernel_rfl) (fun _ _ _ h=>h) (Or.inl ⟨by rfl, ?_⟩) (by assumption) ?_
       rotate_left
       ·intro w hSw
        try dsimp only at hSw
        go_simp
        first | done | with_reducible rfl
       try simp only [Act.put,List.setIfInBounds_toArray,List.set_cons_zero,List.set_cons_succ]
       refine wpAnyH_take (i:=19) (oi:=⟨some 78,_,_,_,_,_⟩) (v := ?_) rfl (by kernel_rfl) (by kernel_rfl) (by kernel_rfl) (fun _ _ _ h=>h) (Or.inl ⟨by rfl, ?_⟩) (by assumption) ?_
       rotate_left
       ·intro w hSw
        try dsimp only at hSw
        go_simp
        first | done | with_reducible rfl
       try simp only [Act.put,List.setIfInBounds_toArray,List.set_cons_zero,List.set_cons_succ]
       refine wpAnyH_done (by kernel_rfl) ?_ _
       go_wp2
       exact HNil.out 130 _ HX.out (O9.out.1.low.nxt B10)
      ·
       go_simp
       refine hK.out _ _ trivial (fun hHeld => ?_)
       clear hK K
       try simp only [Act.put,List.setIfInBounds_toArray,List.set_cons_zero,List.set_cons_succ]
       refine wpAnyH_ready (rs := [14]) (by kernel_rfl) (by simp) ?_
       refine AllReadyH.cons rfl (fun K hK => ?_) AllReadyH.nil
       go_simp
       refine hK.out _ _ trivial (fun hHeld => ?_)
       clear hK K
       try simp only [Act.put,List.setIfInBounds_toArray,List.set_cons_zero,List.set_cons_succ]
       refine wpAnyH_ready (rs := [17]) (by kernel_rfl) (by simp) ?_
       refine AllReadyH.cons rfl (fun K hK => ?_) AllReadyH.nil
       go_simp
       refine (HEq.out _ _ _ (by first | exact O9.out.1.low | exact O9.out.1.low.drew) (by first | exact O3.out.2)).mono ?_
       rintro q w10 ⟨rfl,hb10⟩
       have B10 : Below w9.heap.size w9 w10:=(by first | exact hb10 | exact hb10.start)
       clear hb10
       go_simp
       refine hK.out _ _ trivial (fun hHeld => ?_)
       clear hK K
       try simp only [Act.put,List.setIfInBounds_toArray,List.set_cons_zero,List.set_cons_succ]
       refine wpAnyH_take (i:=18) (oi:=⟨some 77,_,_,_,_,_⟩) (v := ?_) rfl (by kernel_rfl) (by kernel_rfl) (by kernel_rfl) (fun _ _ _ h=>h) (Or.inl ⟨by rfl, ?_⟩) (by assumption) ?_
       rotate_left
       ·intro w hSw
        try dsimp only at hSw
        go_simp
        first | done | with_reducible rfl
       try simp only [Act.put,List.setIfInBounds_toArray,List.set_cons_zero,List.set_cons_succ]
       refine wpAnyH_take (i:=19) (oi:=⟨some 78,_,_,_,_,_⟩) (v := ?_) rfl (by kernel_rfl) (by kernel_rfl) (by kernel_rfl) (fun _ _ _ h=>h) (Or.inl ⟨by rfl, ?_⟩) (by assumption) ?_
       rotate_left
       ·intro w hSw
        try dsimp only at hSw
        go_simp
        first | done | with_reducible rfl
       try simp only [Act.put,List.setIfInBounds_toArray,List.set_cons_zero,List.set_cons_succ]
       refine wpAnyH_done (by kernel_rfl) ?_ _
       go_wp2
       exact HNil.out 130 _ HX.out (O9.out.1.low.nxt B10)
end Go.Proofs.YtomnlhbioijfhaaGreatDoor
