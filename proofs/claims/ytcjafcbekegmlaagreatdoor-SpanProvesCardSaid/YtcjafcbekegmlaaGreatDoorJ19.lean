import Derived.Test.YtcjafcbekegmlaaGreatDoorJ18
import Derived.Deep.CutBlock
set_option linter.unusedSimpArgs false
set_option linter.unusedVariables false
namespace Go.Proofs.YtcjafcbekegmlaaGreatDoor
set_option linter.unusedVariables false
open Go.RowKit Go.Instr
attribute [local go_sem] ba_get ByteArray.mk_append_mk
attribute [local go_sem ↓] Go.wp_at_zero Go.wp_at_succ
def KidsIn (w : World) (gk : Nat) (ks : Fin 16 → Trie.T) (wx : World) : Prop :=
  ∃ ps1 : List Value, ps1.length = 16 ∧ Blk wx gk 108 ps1.toArray ∧ (∀ i : Fin 16, KnotP wx (ks i) (ps1.getD i.val undef)) ∧ Below w.heap.size w wx
theorem KidsIn.next {w wx wy : World} {gk : Nat} {ks : Fin 16 → Trie.T} (h : KidsIn w gk ks wx) (hb : Below wx.heap.size wx wy) : KidsIn w gk ks wy := by
  obtain ⟨ps, h1, h2, h3, h4⟩ := h
  exact ⟨ps, h1, h2.below hb h2.lt, fun i => (h3 i).next hb, h4.nxt hb⟩
theorem KidsIn.set {w wx : World} {gk : Nat} {ks : Fin 16 → Trie.T} (h : KidsIn w gk ks wx) (hg : w.heap.size ≤ gk) (b : UInt8) (hb : b ≤ 15) (t : Trie.T) (x : Value) (hx : KnotP wx t x) : KidsIn w gk (Trie.setKid ks b t) (wx.setCell ⟨gk, b.toNat, none⟩ x) := by
  obtain ⟨ps, h1, h2, h3, h4⟩ := h
  refine ⟨ps.set b.toNat x, by rw [List.length_set]; exact h1, ?_, fun i => (kids_set h1 h3 b hb t x hx i).setKids h2 _ _, h4.setCell hg _⟩
  have := h2.set_ b.toNat x
  rwa [List.setIfInBounds_toArray] at this
theorem KidsIn.made (w : World) : KidsIn w w.heap.size Trie.noKids (w.alloc (.cells #[.pointer none, .pointer none, .pointer none, .pointer none, .pointer none, .pointer none, .pointer none, .pointer none, .pointer none, .pointer none, .pointer none, .pointer none, .pointer none, .pointer none, .pointer none, .pointer none] 108)) :=
  ⟨List.replicate 16 (.pointer none), rfl, Blk.new _ _ _, fun i => by rw [rep_getD _ _ _ _ i.isLt]; exact .nil, by go_grown⟩
set_option maxRecDepth 100000 in
set_option maxHeartbeats 2000000 in
theorem parted_leaf0 (p w0 q v : List UInt8) (c : Nat) (hcp : c ≤ p.length) (hp : p.length ≤ 1000) (hd : p.drop c = []) (hfq : Nib.fit q = true)
    (hw : Trie.wf (Trie.partedG (p.drop c) (fun r => .leaf r w0) w0 q v)) (hs : Trie.small (Trie.partedG (p.drop c) (fun r => .leaf r w0) w0 q v)) (hc : Trie.count (Trie.partedG (p.drop c) (fun r => .leaf r w0) w0 q v) ≤ 1000000)
    (g : Nat) (ps : List Value) (hps : ps.length = 16) (w : World) (hT : Tbl w) (hbk : Blk w g 110 (knotC (.leaf p w0) ps).toArray) :
    Calls Tryz.prog 113 #[.pointer (some ⟨g, 0, none⟩), .int .i64 (c : Int), .string ⟨q.toArray⟩, .string ⟨v.toArray⟩] w (KnotEnd w (Trie.partedG (p.drop c) (fun r => .leaf r w0) w0 q v)) := by
  have HP : Hid (∀ x w', KnotP w' (Trie.partedG (p.drop c) (fun r => .leaf r w0) w0 q v) x → Below w.heap.size w w' → KnotEnd w (Trie.partedG (p.drop c) (fun r => .leaf r w0) w0 q v) (.returned x) w') := Lib.hid (fun x w' h1 h2 => ⟨x, rfl, h1, h2⟩)
  have HW := Lib.hid (And.intro hw (And.intro hs hc))
  have HTb := Lib.hid hT
  have Hfq := Lib.hid hfq
  have Hd := Lib.hid hd
  have HTd := run_drop p c hcp
  rw [hd] at HTd
  have hcq : (c : Int) ≤ p.length := by omega
  obtain ⟨⟨c0, c1, c2, _, _⟩, kr, _, _, _, _⟩ := KnotAt.of (Trie.sumsT_length _) hps hbk
  rename_i j1 j2 j4 j5 j6 j7
  replace c0 : w.cell? ⟨g, 0, none⟩ = some (.int .i64 1) := c0
  replace c1 : w.cell? ⟨g, 1, none⟩ = some (.string ⟨p.toArray⟩) := c1
  replace c2 : w.cell? ⟨g, 2, none⟩ = some (.string ⟨w0.toArray⟩) := c2
  have hgl : g < w.heap.size := hbk.lt
  have HMade := Lib.hid (KidsIn.made w)
  generalize KnotEnd w (Trie.partedG (p.drop c) (fun r => .leaf r w0) w0 q v) = P at HP ⊢
  clear hw hs hT hbk hps hc hd hfq j1 j2 j4 j5 j6 j7 kr
  go_enter Tryz.func113, Tryz.ntmps113
  go_upto_block 0 with fail
  go_cut [10] (fun s10 wx => s10 = .string ⟨(Trie.oneOwn (p.drop c) w0).toArray⟩ ∧ KidsIn w w.heap.size (Trie.oneKids (p.drop c) (fun r => .leaf r w0)) wx)
  case first =>
    go_wp2
    go_meet
    exact ⟨by rw [Hd.out]; rfl, by rw [Hd.out]; exact HMade.out⟩
  case rest =>
    obtain ⟨rfl, hK⟩ := hcut
    cases q with
    | nil =>
      have HR : Hid (Trie.partedG (p.drop c) (fun r => .leaf r w0) w0 [] v = .branch v (Trie.oneKids (p.drop c) (fun r => .leaf r w0))) := Lib.hid rfl
      obtain ⟨ps1, h1, h2, h3, h4⟩ := hK
      have HBr : Hid (∀ W, Below wc.heap.size wc W → Calls Tryz.prog 111 #[.string ⟨v.toArray⟩, .agg ps1.toArray] W (KnotEnd W (Trie.partedG (p.drop c) (fun r => .leaf r w0) w0 [] v))) :=
        Lib.hid (fun W hW => by
          have hw' := HW.out.1; have hs' := HW.out.2.1; have hc' := HW.out.2.2
          rw [HR.out] at hw' hs' hc' ⊢
          exact trie_branch v _ hw' hs' hc' ps1 h1 W (HTb.out.next (h4.nxt hW)) (fun i => (h3 i).next hW))
      have RP := h2.range
      have SZR : (Tryz.prog.info? 108).map (·.size) = some ps1.length := by rw [h1]; exact info_ptrs
      have HX := Lib.hid (And.intro h1 (And.intro h2 (And.intro h3 h4)))
      clear h1 h2 h3 h4
      go_wp2_with (first | (with_reducible refine at_load 67 ?_; refine wpList_load_mid rfl 108 _ rfl w.heap.size 0 rfl _ _ RP Tryz.underlying108 rfl SZR ?_) | (go_at_call 111; refine (HBr.out _ (Below.refl _ _)).mono ?_; rintro e w5 ⟨x, rfl, hk, hb⟩))
      exact HP.out _ _ hk (HX.out.2.2.2.nxt hb)
    | cons b r =>
      have hb15 : b ≤ 15 := (Trie.fit_cons'.1 Hfq.out).1
      have hb16 : b.toNat < 16 := by rw [UInt8.le_iff_toNat_le] at hb15; simp at hb15; omega
      have hbi : (b.toNat : Int) < 16 := by omega
      have hbx : 0 ≤ (b.toNat : Int) := by omega
      have Hb15 := Lib.hid hb15
      clear hb15
      have HR : Hid (Trie.partedG (p.drop c) (fun r => .leaf r w0) w0 (b :: r) v = .branch (Trie.oneOwn (p.drop c) w0) (Trie.setKid (Trie.oneKids (p.drop c) (fun r => .leaf r w0)) b (.leaf r v))) := Lib.hid rfl
      have HLf : Hid (∀ W, Below w.heap.size w W → Calls Tryz.prog 110 #[.string ⟨r.toArray⟩, .string ⟨v.toArray⟩] W (KnotEnd W (.leaf r v))) :=
        Lib.hid (fun W hW => by
          have hw' := HW.out.1; have hs' := HW.out.2.1
          rw [HR.out] at hw' hs'
          have hw2 := hw'.1 (Trie.ix b)
          have hs2 := Trie.small_kid hs' (Trie.ix b)
          rw [Trie.setKid_same] at hw2 hs2
          exact trie_leaf r v hw2 hs2 W (HTb.out.next hW))
      have HK := Lib.hid hK
      have HWc : Hid (Below w.heap.size w wc ∧ w.heap.size < wc.heap.size) := Lib.hid (by obtain ⟨ps1, h1, h2, h3, h4⟩ := hK; exact ⟨h4, h2.lt⟩)
      clear hK
      have cb : ∃ y, wc.cell? ⟨w.heap.size, b.toNat, none⟩ = some y := by
        obtain ⟨ps1, h1, h2, h3, h4⟩ := HK.out
        exact ⟨ps1[b.toNat]'(by omega), by rw [h2.cell, List.getElem?_toArray, List.getElem?_eq_getElem (by omega)]⟩
      obtain ⟨y, cb⟩ := cb
      have fb : wc.frozen? ⟨w.heap.size, b.toNat, none⟩ = false := by
        obtain ⟨ps1, h1, h2, h3, h4⟩ := HK.out
        exact h2.frozen _
      have HTl := run_tail b r
      go_upto_region 11 with fail
      go_cut [64] (fun s64 wx => KidsIn w w.heap.size (Trie.setKid (Trie.oneKids (p.drop c) (fun r => .leaf r w0)) b (.leaf r v)) wx)
      case first =>
        go_region_with (go_at_call 110; refine (HLf.out _ (by first | exact HWc.out.1 | exact HWc.out.1.drew)).mono ?_; rintro e w3 ⟨x, rfl, hk, hb⟩; obtain ⟨b3, rfl⟩ := hk.ptr (by simp); have hb2 : Below wc.heap.size wc w3 := (by first | exact hb | exact hb.start); clear hb; have d1 := (hb2.cell (p := ⟨w.heap.size, b.toNat, none⟩) HWc.out.2).trans cb; have d2 := (hb2.frozen (p := ⟨w.heap.size, b.toNat, none⟩) HWc.out.2).trans fb)
        all_goals go_wp2
        all_goals go_meet
        all_goals first | exact (HK.out.next hb2).set (Nat.le_refl _) b Hb15.out _ _ hk | exact ((HK.out.next hb2).set (Nat.le_refl _) b Hb15.out _ _ hk).next (Below.refl _ _).drew
      case rest =>
        clear cb fb HTl HK HWc
        obtain ⟨ps1, h1, h2, h3, h4⟩ := hcut
        rename World => wd
        have HBr : Hid (∀ W, Below wd.heap.size wd W → Calls Tryz.prog 111 #[.string ⟨(Trie.oneOwn (p.drop c) w0).toArray⟩, .agg ps1.toArray] W (KnotEnd W (Trie.partedG (p.drop c) (fun r => .leaf r w0) w0 (b :: r) v))) :=
          Lib.hid (fun W hW => by
            have hw' := HW.out.1; have hs' := HW.out.2.1; have hc' := HW.out.2.2
            rw [HR.out] at hw' hs' hc' ⊢
            exact trie_branch _ _ hw' hs' hc' ps1 h1 W (HTb.out.next (h4.nxt hW)) (fun i => (h3 i).next hW))
        have RP := h2.range
        have SZR : (Tryz.prog.info? 108).map (·.size) = some ps1.length := by rw [h1]; exact info_ptrs
        have HX := Lib.hid (And.intro h1 (And.intro h2 (And.intro h3 h4)))
        clear h1 h2 h3 h4
        go_wp2_with (first | (with_reducible refine at_load 67 ?_; refine wpList_load_mid rfl 108 _ rfl w.heap.size 0 rfl _ _ RP Tryz.underlying108 rfl SZR ?_) | (go_at_call 111; refine (HBr.out _ (Below.refl _ _)).mono ?_; rintro e w5 ⟨x, rfl, hk, hb⟩))
        exact HP.out _ _ hk (HX.out.2.2.2.nxt hb)
end Go.Proofs.YtcjafcbekegmlaaGreatDoor

namespace Go.Proofs.YtcjafcbekegmlaaGreatDoor
set_option linter.unusedVariables false
open Go.RowKit Go.Instr
attribute [local go_sem] ba_get ByteArray.mk_append_mk
attribute [local go_sem ↓] Go.wp_at_zero Go.wp_at_succ
set_option maxRecDepth 100000 in
set_option maxHeartbeats 2000000 in
theorem parted_leaf1 (p w0 : List UInt8) (q v : List UInt8) (c : Nat) (hcp : c ≤ p.length) (hp : p.length ≤ 1000) (a : UInt8) (o : List UInt8) (hd : p.drop c = a :: o) (hfp : Nib.fit p = true) (hfq : Nib.fit q = true)
    (hw : Trie.wf (Trie.partedG (p.drop c) (fun r => .leaf r w0) w0 q v)) (hs : Trie.small (Trie.partedG (p.drop c) (fun r => .leaf r w0) w0 q v)) (hc : Trie.count (Trie.partedG (p.drop c) (fun r => .leaf r w0) w0 q v) ≤ 1000000) (hsub : Trie.wf (.leaf o w0) ∧ Trie.small (.leaf o w0))
    (g : Nat) (ps : List Value) (hps : ps.length = 16) (w : World) (hT : Tbl w) (hbk : Blk w g 110 (knotC (.leaf p w0) ps).toArray)  :
    Calls Tryz.prog 113 #[.pointer (some ⟨g, 0, none⟩), .int .i64 (c : Int), .string ⟨q.toArray⟩, .string ⟨v.toArray⟩] w (KnotEnd w (Trie.partedG (p.drop c) (fun r => .leaf r w0) w0 q v)) := by
  have HP : Hid (∀ x w', KnotP w' (Trie.partedG (p.drop c) (fun r => .leaf r w0) w0 q v) x → Below w.heap.size w w' → KnotEnd w (Trie.partedG (p.drop c) (fun r => .leaf r w0) w0 q v) (.returned x) w') := Lib.hid (fun x w' h1 h2 => ⟨x, rfl, h1, h2⟩)
  have HW := Lib.hid (And.intro hw (And.intro hs hc))
  have HTb := Lib.hid hT
  have Hfq := Lib.hid hfq
  have Hd := Lib.hid hd
  have HTd := run_drop p c hcp
  rw [hd] at HTd
  have HTa := run_tail a o
  have hcq : (c : Int) ≤ p.length := by omega
  have ha15 : a ≤ 15 := by
    have := Trie.fit_drop c hfp
    rw [hd] at this
    exact (Trie.fit_cons'.1 this).1
  have Ha15 := Lib.hid ha15
  have ha16 : a.toNat < 16 := by rw [UInt8.le_iff_toNat_le] at ha15; simp at ha15; omega
  have hai : (a.toNat : Int) < 16 := by omega
  have hax : 0 ≤ (a.toNat : Int) := by omega
  have HSub : Hid (∀ W, Below w.heap.size w W → Calls Tryz.prog 110 #[.string ⟨o.toArray⟩, .string ⟨w0.toArray⟩] W (KnotEnd W (.leaf o w0))) :=
    Lib.hid (fun W hW => trie_leaf o w0 hsub.1 hsub.2 W (hT.next hW))
  have HSN : Hid (Trie.T.leaf o w0 ≠ .nil) := Lib.hid (by simp)
  have HBK := Lib.hid hbk
  have Hps := Lib.hid hps
  have HMade := Lib.hid (KidsIn.made w)
  generalize KnotEnd w (Trie.partedG (p.drop c) (fun r => .leaf r w0) w0 q v) = P at HP ⊢
  clear hw hs hT hbk hps hc hd hfq hfp ha15 hsub
  go_enter Tryz.func113, Tryz.ntmps113
  go_upto_region 2 with fail
  have HMade2 : Hid (KidsIn w w.heap.size Trie.noKids (w.alloc (.cells #[.pointer none, .pointer none, .pointer none, .pointer none, .pointer none, .pointer none, .pointer none, .pointer none, .pointer none, .pointer none, .pointer none, .pointer none, .pointer none, .pointer none, .pointer none, .pointer none] 108))) := Lib.hid HMade.out
  have HBK2 : Hid (Blk (w.alloc (.cells #[.pointer none, .pointer none, .pointer none, .pointer none, .pointer none, .pointer none, .pointer none, .pointer none, .pointer none, .pointer none, .pointer none, .pointer none, .pointer none, .pointer none, .pointer none, .pointer none] 108)) g 110 (knotC (.leaf p w0) ps).toArray) := Lib.hid (HBK.out.alloc _)
  clear HMade
  generalize w.alloc (.cells #[.pointer none, .pointer none, .pointer none, .pointer none, .pointer none, .pointer none, .pointer none, .pointer none, .pointer none, .pointer none, .pointer none, .pointer none, .pointer none, .pointer none, .pointer none, .pointer none] 108) = W0 at HMade2 HBK2 ⊢
  obtain ⟨⟨c0, c1, c2, _, _⟩, kr, _, _, _, _⟩ := KnotAt.of (Trie.sumsT_length _) Hps.out HBK2.out
  rename_i j1 j2 j4 j5 j6 j7
  replace c0 : W0.cell? ⟨g, 0, none⟩ = some (.int .i64 1) := c0
  replace c1 : W0.cell? ⟨g, 1, none⟩ = some (.string ⟨p.toArray⟩) := c1
  replace c2 : W0.cell? ⟨g, 2, none⟩ = some (.string ⟨w0.toArray⟩) := c2
  clear j1 j2 j4 j5 j6 j7 kr
  have HWc : Hid (Below w.heap.size w W0 ∧ w.heap.size < W0.heap.size ∧ g < W0.heap.size) := Lib.hid (by obtain ⟨ps1, h1, h2, h3, h4⟩ := HMade2.out; exact ⟨h4, h2.lt, HBK2.out.lt⟩)
  have cb : ∃ y, W0.cell? ⟨w.heap.size, a.toNat, none⟩ = some y := by
    obtain ⟨ps1, h1, h2, h3, h4⟩ := HMade2.out
    exact ⟨ps1[a.toNat]'(by omega), by rw [h2.cell, List.getElem?_toArray, List.getElem?_eq_getElem (by omega)]⟩
  obtain ⟨y, cb⟩ := cb
  have fb : W0.frozen? ⟨w.heap.size, a.toNat, none⟩ = false := by
    obtain ⟨ps1, h1, h2, h3, h4⟩ := HMade2.out
    exact h2.frozen _
  go_upto_block 0 with fail
  go_cut [10] (fun s10 wx => s10 = .string ⟨(Trie.oneOwn (p.drop c) w0).toArray⟩ ∧ KidsIn w w.heap.size (Trie.oneKids (p.drop c) (fun r => .leaf r w0)) wx)
  case first =>
    go_wp2_with fail
    go_region_with (go_at_call 110; refine (HSub.out _ (by first | exact HWc.out.1 | exact HWc.out.1.drew)).mono ?_; rintro e w3 ⟨x, rfl, hk, hb⟩; obtain ⟨b3, rfl⟩ := hk.ptr HSN.out; have hb2 : Below W0.heap.size W0 w3 := (by first | exact hb | exact hb.start); clear hb; have d1 := (hb2.cell (p := ⟨w.heap.size, a.toNat, none⟩) HWc.out.2.1).trans cb; have d2 := (hb2.frozen (p := ⟨w.heap.size, a.toNat, none⟩) HWc.out.2.1).trans fb; have d3 := (hb2.cell (p := ⟨g, 2, none⟩) HWc.out.2.2).trans c2)
    all_goals go_wp2
    all_goals go_meet
    all_goals rw [Hd.out]
    all_goals first | exact ⟨rfl, (HMade2.out.next hb2).set (Nat.le_refl _) a Ha15.out _ _ hk⟩ | exact ⟨rfl, ((HMade2.out.next hb2).set (Nat.le_refl _) a Ha15.out _ _ hk).next (Below.refl _ _).drew⟩
  case rest =>
    obtain ⟨rfl, hK⟩ := hcut
    cases q with
    | nil =>
      have HR : Hid (Trie.partedG (p.drop c) (fun r => .leaf r w0) w0 [] v = .branch v (Trie.oneKids (p.drop c) (fun r => .leaf r w0))) := Lib.hid rfl
      obtain ⟨ps1, h1, h2, h3, h4⟩ := hK
      have HBr : Hid (∀ W, Below wc.heap.size wc W → Calls Tryz.prog 111 #[.string ⟨v.toArray⟩, .agg ps1.toArray] W (KnotEnd W (Trie.partedG (p.drop c) (fun r => .leaf r w0) w0 [] v))) :=
        Lib.hid (fun W hW => by
          have hw' := HW.out.1; have hs' := HW.out.2.1; have hc' := HW.out.2.2
          rw [HR.out] at hw' hs' hc' ⊢
          exact trie_branch v _ hw' hs' hc' ps1 h1 W (HTb.out.next (h4.nxt hW)) (fun i => (h3 i).next hW))
      have RP := h2.range
      have SZR : (Tryz.prog.info? 108).map (·.size) = some ps1.length := by rw [h1]; exact info_ptrs
      have HX := Lib.hid (And.intro h1 (And.intro h2 (And.intro h3 h4)))
      clear h1 h2 h3 h4
      go_wp2_with (first | (with_reducible refine at_load 67 ?_; refine wpList_load_mid rfl 108 _ rfl w.heap.size 0 rfl _ _ RP Tryz.underlying108 rfl SZR ?_) | (go_at_call 111; refine (HBr.out _ (Below.refl _ _)).mono ?_; rintro e w5 ⟨x, rfl, hk, hb⟩))
      exact HP.out _ _ hk (HX.out.2.2.2.nxt hb)
    | cons b r =>
      have hb15 : b ≤ 15 := (Trie.fit_cons'.1 Hfq.out).1
      have hb16 : b.toNat < 16 := by rw [UInt8.le_iff_toNat_le] at hb15; simp at hb15; omega
      have hbi : (b.toNat : Int) < 16 := by omega
      have hbx : 0 ≤ (b.toNat : Int) := by omega
      have Hb15 := Lib.hid hb15
      clear hb15
      have HR : Hid (Trie.partedG (p.drop c) (fun r => .leaf r w0) w0 (b :: r) v = .branch (Trie.oneOwn (p.drop c) w0) (Trie.setKid (Trie.oneKids (p.drop c) (fun r => .leaf r w0)) b (.leaf r v))) := Lib.hid rfl
      have HLf : Hid (∀ W, Below w.heap.size w W → Calls Tryz.prog 110 #[.string ⟨r.toArray⟩, .string ⟨v.toArray⟩] W (KnotEnd W (.leaf r v))) :=
        Lib.hid (fun W hW => by
          have hw' := HW.out.1; have hs' := HW.out.2.1
          rw [HR.out] at hw' hs'
          have hw2 := hw'.1 (Trie.ix b)
          have hs2 := Trie.small_kid hs' (Trie.ix b)
          rw [Trie.setKid_same] at hw2 hs2
          exact trie_leaf r v hw2 hs2 W (HTb.out.next hW))
      have HK := Lib.hid hK
      have HWc : Hid (Below w.heap.size w wc ∧ w.heap.size < wc.heap.size) := Lib.hid (by obtain ⟨ps1, h1, h2, h3, h4⟩ := hK; exact ⟨h4, h2.lt⟩)
      clear hK
      have cb : ∃ y, wc.cell? ⟨w.heap.size, b.toNat, none⟩ = some y := by
        obtain ⟨ps1, h1, h2, h3, h4⟩ := HK.out
        exact ⟨ps1[b.toNat]'(by omega), by rw [h2.cell, List.getElem?_toArray, List.getElem?_eq_getElem (by omega)]⟩
      obtain ⟨y, cb⟩ := cb
      have fb : wc.frozen? ⟨w.heap.size, b.toNat, none⟩ = false := by
        obtain ⟨ps1, h1, h2, h3, h4⟩ := HK.out
        exact h2.frozen _
      have HTl := run_tail b r
      go_upto_region 11 with fail
      go_cut [64] (fun s64 wx => KidsIn w w.heap.size (Trie.setKid (Trie.oneKids (p.drop c) (fun r => .leaf r w0)) b (.leaf r v)) wx)
      case first =>
        go_region_with (go_at_call 110; refine (HLf.out _ (by first | exact HWc.out.1 | exact HWc.out.1.drew)).mono ?_; rintro e w3 ⟨x, rfl, hk, hb⟩; obtain ⟨b3, rfl⟩ := hk.ptr (by simp); have hb2 : Below wc.heap.size wc w3 := (by first | exact hb | exact hb.start); clear hb; have d1 := (hb2.cell (p := ⟨w.heap.size, b.toNat, none⟩) HWc.out.2).trans cb; have d2 := (hb2.frozen (p := ⟨w.heap.size, b.toNat, none⟩) HWc.out.2).trans fb)
        all_goals go_wp2
        all_goals go_meet
        all_goals first | exact (HK.out.next hb2).set (Nat.le_refl _) b Hb15.out _ _ hk | exact ((HK.out.next hb2).set (Nat.le_refl _) b Hb15.out _ _ hk).next (Below.refl _ _).drew
      case rest =>
        clear cb fb HTl HK HWc
        obtain ⟨ps1, h1, h2, h3, h4⟩ := hcut
        rename World => wd
        have HBr : Hid (∀ W, Below wd.heap.size wd W → Calls Tryz.prog 111 #[.string ⟨(Trie.oneOwn (p.drop c) w0).toArray⟩, .agg ps1.toArray] W (KnotEnd W (Trie.partedG (p.drop c) (fun r => .leaf r w0) w0 (b :: r) v))) :=
          Lib.hid (fun W hW => by
            have hw' := HW.out.1; have hs' := HW.out.2.1; have hc' := HW.out.2.2
            rw [HR.out] at hw' hs' hc' ⊢
            exact trie_branch _ _ hw' hs' hc' ps1 h1 W (HTb.out.next (h4.nxt hW)) (fun i => (h3 i).next hW))
        have RP := h2.range
        have SZR : (Tryz.prog.info? 108).map (·.size) = some ps1.length := by rw [h1]; exact info_ptrs
        have HX := Lib.hid (And.intro h1 (And.intro h2 (And.intro h3 h4)))
        clear h1 h2 h3 h4
        go_wp2_with (first | (with_reducible refine at_load 67 ?_; refine wpList_load_mid rfl 108 _ rfl w.heap.size 0 rfl _ _ RP Tryz.underlying108 rfl SZR ?_) | (go_at_call 111; refine (HBr.out _ (Below.refl _ _)).mono ?_; rintro e w5 ⟨x, rfl, hk, hb⟩))
        exact HP.out _ _ hk (HX.out.2.2.2.nxt hb)
end Go.Proofs.YtcjafcbekegmlaaGreatDoor

namespace Go.Proofs.YtcjafcbekegmlaaGreatDoor
set_option linter.unusedVariables false
open Go.RowKit Go.Instr
attribute [local go_sem] ba_get ByteArray.mk_append_mk
attribute [local go_sem ↓] Go.wp_at_zero Go.wp_at_succ
set_option maxRecDepth 100000 in
set_option maxHeartbeats 2000000 in
theorem parted_ext (p : List UInt8) (s : Trie.T) (q v : List UInt8) (c : Nat) (hcp : c ≤ p.length) (hp : p.length ≤ 1000) (a : UInt8) (o : List UInt8) (hd : p.drop c = a :: o) (hfp : Nib.fit p = true) (hfq : Nib.fit q = true)
    (hw : Trie.wf (Trie.partedG (p.drop c) (fun r => Trie.joined r s) [] q v)) (hs : Trie.small (Trie.partedG (p.drop c) (fun r => Trie.joined r s) [] q v)) (hc : Trie.count (Trie.partedG (p.drop c) (fun r => Trie.joined r s) [] q v) ≤ 1000000) (hns : s ≠ .nil) (hsub : Trie.wf (Trie.joined o s) ∧ Trie.small (Trie.joined o s) ∧ Trie.count s ≤ 1000000)
    (g : Nat) (ps : List Value) (hps : ps.length = 16) (w : World) (hT : Tbl w) (hbk : Blk w g 110 (knotC (.ext p s) ps).toArray) (hk0 : KnotP w s (ps.getD 0 undef)) :
    Calls Tryz.prog 113 #[.pointer (some ⟨g, 0, none⟩), .int .i64 (c : Int), .string ⟨q.toArray⟩, .string ⟨v.toArray⟩] w (KnotEnd w (Trie.partedG (p.drop c) (fun r => Trie.joined r s) [] q v)) := by
  have HP : Hid (∀ x w', KnotP w' (Trie.partedG (p.drop c) (fun r => Trie.joined r s) [] q v) x → Below w.heap.size w w' → KnotEnd w (Trie.partedG (p.drop c) (fun r => Trie.joined r s) [] q v) (.returned x) w') := Lib.hid (fun x w' h1 h2 => ⟨x, rfl, h1, h2⟩)
  have HW := Lib.hid (And.intro hw (And.intro hs hc))
  have HTb := Lib.hid hT
  have Hfq := Lib.hid hfq
  have Hd := Lib.hid hd
  have HTd := run_drop p c hcp
  rw [hd] at HTd
  have HTa := run_tail a o
  have hcq : (c : Int) ≤ p.length := by omega
  have ha15 : a ≤ 15 := by
    have := Trie.fit_drop c hfp
    rw [hd] at this
    exact (Trie.fit_cons'.1 this).1
  have Ha15 := Lib.hid ha15
  have ha16 : a.toNat < 16 := by rw [UInt8.le_iff_toNat_le] at ha15; simp at ha15; omega
  have hai : (a.toNat : Int) < 16 := by omega
  have hax : 0 ≤ (a.toNat : Int) := by omega
  obtain ⟨b2, hy⟩ := hk0.ptr hns
  rw [hy] at hk0
  have HSub : Hid (∀ W, Below w.heap.size w W → Calls Tryz.prog 112 #[.string ⟨o.toArray⟩, .pointer (some ⟨b2, 0, none⟩)] W (KnotEnd W (Trie.joined o s))) :=
    Lib.hid (fun W hW => trie_joined o s hns hsub.1 hsub.2.1 hsub.2.2 _ W (hT.next hW) (hk0.next hW))
  have HSN : Hid (Trie.joined o s ≠ .nil) := Lib.hid (Trie.joined_nn hns)
  have HBK := Lib.hid hbk
  have Hps := Lib.hid hps
  have HMade := Lib.hid (KidsIn.made w)
  have HY := Lib.hid hy
  generalize KnotEnd w (Trie.partedG (p.drop c) (fun r => Trie.joined r s) [] q v) = P at HP ⊢
  clear hw hs hT hbk hps hc hd hfq hfp ha15 hsub hy hk0 hns
  go_enter Tryz.func113, Tryz.ntmps113
  go_upto_region 2 with fail
  have HMade2 : Hid (KidsIn w w.heap.size Trie.noKids (w.alloc (.cells #[.pointer none, .pointer none, .pointer none, .pointer none, .pointer none, .pointer none, .pointer none, .pointer none, .pointer none, .pointer none, .pointer none, .pointer none, .pointer none, .pointer none, .pointer none, .pointer none] 108))) := Lib.hid HMade.out
  have HBK2 : Hid (Blk (w.alloc (.cells #[.pointer none, .pointer none, .pointer none, .pointer none, .pointer none, .pointer none, .pointer none, .pointer none, .pointer none, .pointer none, .pointer none, .pointer none, .pointer none, .pointer none, .pointer none, .pointer none] 108)) g 110 (knotC (.ext p s) ps).toArray) := Lib.hid (HBK.out.alloc _)
  clear HMade
  generalize w.alloc (.cells #[.pointer none, .pointer none, .pointer none, .pointer none, .pointer none, .pointer none, .pointer none, .pointer none, .pointer none, .pointer none, .pointer none, .pointer none, .pointer none, .pointer none, .pointer none, .pointer none] 108) = W0 at HMade2 HBK2 ⊢
  obtain ⟨⟨c0, c1, c2, _, _⟩, kr, _, _, _, _⟩ := KnotAt.of (Trie.sumsT_length _) Hps.out HBK2.out
  rename_i j1 j2 j4 j5 j6 j7
  replace c0 : W0.cell? ⟨g, 0, none⟩ = some (.int .i64 2) := c0
  replace c1 : W0.cell? ⟨g, 1, none⟩ = some (.string ⟨p.toArray⟩) := c1
  have c19 : W0.cell? ⟨g, 19, none⟩ = some (.pointer (some ⟨b2, 0, none⟩)) := by
    rw [← HY.out]
    exact kr 0 _ (by have := Hps.out; rw [List.getD_eq_getElem?_getD, List.getElem?_eq_getElem (show 0 < ps.length by omega)]; rfl)
  clear j1 j2 j4 j5 j6 j7 kr
  have HWc : Hid (Below w.heap.size w W0 ∧ w.heap.size < W0.heap.size ∧ g < W0.heap.size) := Lib.hid (by obtain ⟨ps1, h1, h2, h3, h4⟩ := HMade2.out; exact ⟨h4, h2.lt, HBK2.out.lt⟩)
  have cb : ∃ y, W0.cell? ⟨w.heap.size, a.toNat, none⟩ = some y := by
    obtain ⟨ps1, h1, h2, h3, h4⟩ := HMade2.out
    exact ⟨ps1[a.toNat]'(by omega), by rw [h2.cell, List.getElem?_toArray, List.getElem?_eq_getElem (by omega)]⟩
  obtain ⟨y, cb⟩ := cb
  have fb : W0.frozen? ⟨w.heap.size, a.toNat, none⟩ = false := by
    obtain ⟨ps1, h1, h2, h3, h4⟩ := HMade2.out
    exact h2.frozen _
  go_upto_block 0 with fail
  go_cut [10] (fun s10 wx => s10 = .string ⟨(Trie.oneOwn (p.drop c) []).toArray⟩ ∧ KidsIn w w.heap.size (Trie.oneKids (p.drop c) (fun r => Trie.joined r s)) wx)
  case first =>
    go_wp2_with fail
    go_region_with (go_at_call 112; refine (HSub.out _ (by first | exact HWc.out.1 | exact HWc.out.1.drew)).mono ?_; rintro e w3 ⟨x, rfl, hk, hb⟩; obtain ⟨b3, rfl⟩ := hk.ptr HSN.out; have hb2 : Below W0.heap.size W0 w3 := (by first | exact hb | exact hb.start); clear hb; have d1 := (hb2.cell (p := ⟨w.heap.size, a.toNat, none⟩) HWc.out.2.1).trans cb; have d2 := (hb2.frozen (p := ⟨w.heap.size, a.toNat, none⟩) HWc.out.2.1).trans fb; have d3 := (hb2.cell (p := ⟨g, 19, none⟩) HWc.out.2.2).trans c19)
    all_goals go_wp2
    all_goals go_meet
    all_goals rw [Hd.out]
    all_goals first | exact ⟨rfl, (HMade2.out.next hb2).set (Nat.le_refl _) a Ha15.out _ _ hk⟩ | exact ⟨rfl, ((HMade2.out.next hb2).set (Nat.le_refl _) a Ha15.out _ _ hk).next (Below.refl _ _).drew⟩
  case rest =>
    obtain ⟨rfl, hK⟩ := hcut
    cases q with
    | nil =>
      have HR : Hid (Trie.partedG (p.drop c) (fun r => Trie.joined r s) [] [] v = .branch v (Trie.oneKids (p.drop c) (fun r => Trie.joined r s))) := Lib.hid rfl
      obtain ⟨ps1, h1, h2, h3, h4⟩ := hK
      have HBr : Hid (∀ W, Below wc.heap.size wc W → Calls Tryz.prog 111 #[.string ⟨v.toArray⟩, .agg ps1.toArray] W (KnotEnd W (Trie.partedG (p.drop c) (fun r => Trie.joined r s) [] [] v))) :=
        Lib.hid (fun W hW => by
          have hw' := HW.out.1; have hs' := HW.out.2.1; have hc' := HW.out.2.2
          rw [HR.out] at hw' hs' hc' ⊢
          exact trie_branch v _ hw' hs' hc' ps1 h1 W (HTb.out.next (h4.nxt hW)) (fun i => (h3 i).next hW))
      have RP := h2.range
      have SZR : (Tryz.prog.info? 108).map (·.size) = some ps1.length := by rw [h1]; exact info_ptrs
      have HX := Lib.hid (And.intro h1 (And.intro h2 (And.intro h3 h4)))
      clear h1 h2 h3 h4
      go_wp2_with (first | (with_reducible refine at_load 67 ?_; refine wpList_load_mid rfl 108 _ rfl w.heap.size 0 rfl _ _ RP Tryz.underlying108 rfl SZR ?_) | (go_at_call 111; refine (HBr.out _ (Below.refl _ _)).mono ?_; rintro e w5 ⟨x, rfl, hk, hb⟩))
      exact HP.out _ _ hk (HX.out.2.2.2.nxt hb)
    | cons b r =>
      have hb15 : b ≤ 15 := (Trie.fit_cons'.1 Hfq.out).1
      have hb16 : b.toNat < 16 := by rw [UInt8.le_iff_toNat_le] at hb15; simp at hb15; omega
      have hbi : (b.toNat : Int) < 16 := by omega
      have hbx : 0 ≤ (b.toNat : Int) := by omega
      have Hb15 := Lib.hid hb15
      clear hb15
      have HR : Hid (Trie.partedG (p.drop c) (fun r => Trie.joined r s) [] (b :: r) v = .branch (Trie.oneOwn (p.drop c) []) (Trie.setKid (Trie.oneKids (p.drop c) (fun r => Trie.joined r s)) b (.leaf r v))) := Lib.hid rfl
      have HLf : Hid (∀ W, Below w.heap.size w W → Calls Tryz.prog 110 #[.string ⟨r.toArray⟩, .string ⟨v.toArray⟩] W (KnotEnd W (.leaf r v))) :=
        Lib.hid (fun W hW => by
          have hw' := HW.out.1; have hs' := HW.out.2.1
          rw [HR.out] at hw' hs'
          have hw2 := hw'.1 (Trie.ix b)
          have hs2 := Trie.small_kid hs' (Trie.ix b)
          rw [Trie.setKid_same] at hw2 hs2
          exact trie_leaf r v hw2 hs2 W (HTb.out.next hW))
      have HK := Lib.hid hK
      have HWc : Hid (Below w.heap.size w wc ∧ w.heap.size < wc.heap.size) := Lib.hid (by obtain ⟨ps1, h1, h2, h3, h4⟩ := hK; exact ⟨h4, h2.lt⟩)
      clear hK
      have cb : ∃ y, wc.cell? ⟨w.heap.size, b.toNat, none⟩ = some y := by
        obtain ⟨ps1, h1, h2, h3, h4⟩ := HK.out
        exact ⟨ps1[b.toNat]'(by omega), by rw [h2.cell, List.getElem?_toArray, List.getElem?_eq_getElem (by omega)]⟩
      obtain ⟨y, cb⟩ := cb
      have fb : wc.frozen? ⟨w.heap.size, b.toNat, none⟩ = false := by
        obtain ⟨ps1, h1, h2, h3, h4⟩ := HK.out
        exact h2.frozen _
      have HTl := run_tail b r
      go_upto_region 11 with fail
      go_cut [64] (fun s64 wx => KidsIn w w.heap.size (Trie.setKid (Trie.oneKids (p.drop c) (fun r => Trie.joined r s)) b (.leaf r v)) wx)
      case first =>
        go_region_with (go_at_call 110; refine (HLf.out _ (by first | exact HWc.out.1 | exact HWc.out.1.drew)).mono ?_; rintro e w3 ⟨x, rfl, hk, hb⟩; obtain ⟨b3, rfl⟩ := hk.ptr (by simp); have hb2 : Below wc.heap.size wc w3 := (by first | exact hb | exact hb.start); clear hb; have d1 := (hb2.cell (p := ⟨w.heap.size, b.toNat, none⟩) HWc.out.2).trans cb; have d2 := (hb2.frozen (p := ⟨w.heap.size, b.toNat, none⟩) HWc.out.2).trans fb)
        all_goals go_wp2
        all_goals go_meet
        all_goals first | exact (HK.out.next hb2).set (Nat.le_refl _) b Hb15.out _ _ hk | exact ((HK.out.next hb2).set (Nat.le_refl _) b Hb15.out _ _ hk).next (Below.refl _ _).drew
      case rest =>
        clear cb fb HTl HK HWc
        obtain ⟨ps1, h1, h2, h3, h4⟩ := hcut
        rename World => wd
        have HBr : Hid (∀ W, Below wd.heap.size wd W → Calls Tryz.prog 111 #[.string ⟨(Trie.oneOwn (p.drop c) []).toArray⟩, .agg ps1.toArray] W (KnotEnd W (Trie.partedG (p.drop c) (fun r => Trie.joined r s) [] (b :: r) v))) :=
          Lib.hid (fun W hW => by
            have hw' := HW.out.1; have hs' := HW.out.2.1; have hc' := HW.out.2.2
            rw [HR.out] at hw' hs' hc' ⊢
            exact trie_branch _ _ hw' hs' hc' ps1 h1 W (HTb.out.next (h4.nxt hW)) (fun i => (h3 i).next hW))
        have RP := h2.range
        have SZR : (Tryz.prog.info? 108).map (·.size) = some ps1.length := by rw [h1]; exact info_ptrs
        have HX := Lib.hid (And.intro h1 (And.intro h2 (And.intro h3 h4)))
        clear h1 h2 h3 h4
        go_wp2_with (first | (with_reducible refine at_load 67 ?_; refine wpList_load_mid rfl 108 _ rfl w.heap.size 0 rfl _ _ RP Tryz.underlying108 rfl SZR ?_) | (go_at_call 111; refine (HBr.out _ (Below.refl _ _)).mono ?_; rintro e w5 ⟨x, rfl, hk, hb⟩))
        exact HP.out _ _ hk (HX.out.2.2.2.nxt hb)
end Go.Proofs.YtcjafcbekegmlaaGreatDoor
