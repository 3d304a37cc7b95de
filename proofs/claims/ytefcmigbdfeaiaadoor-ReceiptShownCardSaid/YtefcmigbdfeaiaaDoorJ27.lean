import Derived.Test.YtefcmigbdfeaiaaDoorJ26
set_option linter.unusedSimpArgs false
set_option linter.unusedVariables false
namespace Go.Proofs.YtefcmigbdfeaiaaDoor
set_option linter.unusedVariables false
open Go.RowKit Go.Instr
attribute [local go_sem] ba_get ByteArray.mk_append_mk
attribute [local go_sem ↓] Go.wp_at_zero Go.wp_at_succ
set_option maxRecDepth 100000 in
set_option maxHeartbeats 4000000 in
theorem del_own (v0 : List UInt8) (kids : Fin 16 → Trie.T) (hw : Trie.wf (Trie.shrunk [] kids)) (hs : Trie.small (Trie.shrunk [] kids)) (hc : Trie.count (Trie.shrunk [] kids) ≤ 1000000) (g : Nat) (ps : List Value) (hps : ps.length = 16) (w : World) (hT : Tbl w)
    (hbk : Blk w g 101 (knotC (.branch v0 kids) ps).toArray) (hks : ∀ i : Fin 16, KnotP w (kids i) (ps.getD i.val undef)) :
    Calls Tryd.prog 88 #[.pointer (some ⟨g, 0, none⟩), .string ⟨#[]⟩] w (KnotEnd w (Trie.shrunk [] kids)) := by
  have HP : Hid (∀ x w', KnotP w' (Trie.shrunk [] kids) x → Below w.heap.size w w' → KnotEnd w (Trie.shrunk [] kids) (.returned x) w') := Lib.hid (fun x w' h1 h2 => ⟨x, rfl, h1, h2⟩)
  have HW := Lib.hid (And.intro hw (And.intro hs hc))
  have HTb := Lib.hid hT
  generalize KnotEnd w (Trie.shrunk [] kids) = P at HP ⊢
  clear hw hs hc hT
  obtain ⟨⟨c0, c1, c2, _, _⟩, kr, _, _, _, _⟩ := KnotAt.of (Trie.sumsT_length _) hps hbk
  rename_i j1 j2 j4 j5 j6 j7
  replace c0 : w.cell? ⟨g, 0, none⟩ = some (.int .i64 3) := c0
  replace c2 : w.cell? ⟨g, 2, none⟩ = some (.string ⟨v0.toArray⟩) := c2
  have HA := kids_one hps hks
  have SZR : (Tryd.prog.info? 99).map (·.size) = some ps.length := by rw [hps]; exact info_ptrs
  have HU := Tryd.underlying99
  have HLt := Lib.hid hbk.lt
  have HCp := Lib.hid (KidsIn.copied hps hks)
  have HTh : (w.alloc (.cells #[.pointer none, .pointer none, .pointer none, .pointer none, .pointer none, .pointer none, .pointer none, .pointer none, .pointer none, .pointer none, .pointer none, .pointer none, .pointer none, .pointer none, .pointer none, .pointer none] 99)).drew.there w.heap.size 0 16 := there_new _ _ _ _ (Nat.le_refl 16)
  clear j1 j2 j4 j5 j6 j7 hbk hks c1
  go_enter Tryd.func88, Tryd.ntmps88
  go_upto_region 5 with fail
  go_region_held3 (fun w' => w'.cell? ⟨g, 2, none⟩ = some (.string ⟨v0.toArray⟩) ∧ w'.rangeAt g 19 ps) (first | go_keep_ranges | exact held_alloc c2 kr HLt.out _ | exact held_setCells (held_alloc c2 kr HLt.out _) (by have := HLt.out; omega) | (constructor <;> assumption)) (fail)
  clear HTh HA SZR HU hps kr c0 c2
  have HCp2 := Lib.hid HCp.out
  clear HCp
  rename_i hHeld
  clear hHeld
  generalize World.setCells _ w.heap.size 0 ps = wc at HCp2 ⊢
  have hKI := HCp2.out
  clear HCp2
  go_upto_region 10 with fail
  have HKI := Lib.hid hKI
  clear hKI
  obtain ⟨ps1, k1, k2, k3, k4⟩ := HKI.out
  have HX := Lib.hid (And.intro k1 (And.intro k2 (And.intro k3 k4)))
  have RP := k2.range
  have SZQ : (Tryd.prog.info? 99).map (·.size) = some ps1.length := by rw [k1]; exact info_ptrs
  clear k1 k2 k3 k4
  go_wp2_with (with_reducible refine at_load 66 ?_; refine wpList_load_mid rfl 99 _ rfl w.heap.size 0 rfl _ _ RP Tryd.underlying99 rfl SZQ ?_)
  refine del_loop kids ps1 HX.out.1 wc _ (fun i => HX.out.2.2.1 i) _ w.heap.size _ ?_ _ _ _ _ _ _ _ _ _ _ _ _ _ _ _ _ _ _ _ _ _ _ _ _ _ _ _ _ _ _ _ _ _ _ _ _ _ _ _ _ _ _ _ _ _ _ _ _ _ _ _ _ _ _ _ _ _ _ _ _ _ _ _ _ _ _ _ _ _ _ _ _ _ _ _ _ _ _ _ _ _ _ _ _ _ _ _ _ _ _ _ _ _ _
  intro s0 s1 s2 s3 s4 s9 s10 s11 s12 s13 s14 s15 s16 s17 s18 s19 s20 s21 s22 s23 s24 s25 s26 s27 s28 s29 s30 s31 s32 s33 s34 s35 s36 s37 s38 s39 s40 s41 s42 s43 s44 s45 s46 s47 s48 s49 s50 s51 s52 s53 s54 s55 s56 s57 s58 s59 s60 s61 s62 s63 s64 s65 s66 s67 s68 s69 s70 s71 s72 s73 s74 s75 s76 s77 s78 s79 s80 s81 s82 s83 s84 s85 s86 s87 s88 s89 s90 s91 s92 s93 s94 s95 s96 s97 s98 s99 m l hm hl
  have Hm := Lib.hid hm
  have Hl := Lib.hid hl
  have hm16 : m ≤ 16 := by rw [hm]; unfold Trie.many; have := List.length_filter_le (fun i => !Trie.isNil ((kids) i)) (List.finRange 16); rw [List.length_finRange] at this; exact this
  have hl16 : l < 16 := by rw [hl]; exact (Trie.lastKid (kids)).isLt
  clear hm hl
  by_cases m0 : m = 0
  · have HR : Hid (Trie.shrunk ([] : List UInt8) (kids) = .leaf [] ([] : List UInt8)) := Lib.hid (by unfold Trie.shrunk; rw [if_pos (by rw [← Hm.out]; exact m0)])
    subst m0
    have HLf : Hid (∀ W, Below w.heap.size w W → Calls Tryd.prog 104 #[.string ⟨#[]⟩, .string ⟨(([] : List UInt8)).toArray⟩] W (KnotEnd W (Trie.shrunk ([] : List UInt8) (kids)))) := Lib.hid (fun W hW => by
      have h1 := HW.out.1; have h2 := HW.out.2.1
      rw [HR.out] at h1 h2 ⊢
      exact trie_leaf [] ([] : List UInt8) h1 h2 W (HTb.out.next hW))
    clear RP SZQ
    go_wp2_with (go_at_call 104; refine (HLf.out _ HX.out.2.2.2).mono ?_; rintro e w5 ⟨x, rfl, hk, hb⟩)
    exact HP.out _ _ hk (HX.out.2.2.2.nxt hb)
  · have em0 : ((m : Int) == 0) = false := by rw [beq_eq_false_iff_ne]; omega
    by_cases m1 : m = 1 ∧ ([] : List UInt8) = []
    · obtain ⟨m1, hvv⟩ := m1
      have HR : Hid (Trie.shrunk ([] : List UInt8) (kids) = Trie.joined [UInt8.ofNat (Trie.lastKid (kids)).val] ((kids) (Trie.lastKid (kids)))) := Lib.hid (by unfold Trie.shrunk; rw [if_neg (by rw [← Hm.out]; exact m0), if_pos ⟨by rw [← Hm.out]; exact m1, hvv⟩])
      have hone := Trie.lastKid_one (show Trie.many (kids) = 1 by rw [← Hm.out]; exact m1)
      have hln : (kids) (Trie.lastKid (kids)) ≠ .nil := fun e => by have := hone.1; rw [e] at this; simp [Trie.isNil] at this
      have hkl := HX.out.2.2.1 (Trie.lastKid (kids))
      rw [← Hl.out] at hkl
      obtain ⟨b2, hy⟩ := hkl.ptr hln
      rw [hy] at hkl
      have cl : wc.cell? ⟨w.heap.size, l, none⟩ = some (.pointer (some ⟨b2, 0, none⟩)) := by
        have h2 := HX.out.2.1.cell l
        have h16 := HX.out.1
        rw [h2, ← hy, List.getD_eq_getElem?_getD, List.getElem?_toArray, List.getElem?_eq_getElem (by omega)]
        rfl
      have HJ : Hid (∀ W, Below wc.heap.size wc W → Calls Tryd.prog 106 #[.string ⟨#[UInt8.ofNat l]⟩, .pointer (some ⟨b2, 0, none⟩)] W (KnotEnd W (Trie.shrunk ([] : List UInt8) (kids)))) := Lib.hid (fun W hW => by
        have h1 := HW.out.1; have h2 := HW.out.2.1; have h3 := HW.out.2.2
        rw [HR.out] at h1 h2 h3 ⊢
        rw [Trie.count_joined] at h3
        have := trie_joined [UInt8.ofNat (Trie.lastKid (kids)).val] _ hln h1 h2 h3 _ W (HTb.out.next (HX.out.2.2.2.nxt hW)) (hkl.next hW)
        rw [← Hl.out] at this
        rw [← Hl.out]
        exact this)
      have HLt : Hid (w.heap.size < wc.heap.size) := Lib.hid HX.out.2.1.lt
      have Hv0 := Lib.hid hvv
      subst m1
      have hli : (l : Int) < 16 := by omega
      have hlx : (0 : Int) ≤ l := by omega
      have cv := conv1d wc (l : Int) hlx (by omega)
      have cv2 := conv1 wc (l : Int) hlx (by omega)
      rw [show UInt8.ofNat ((l : Int)).toNat = UInt8.ofNat l by congr 1] at cv cv2
      clear RP SZQ hkl hy hone hln m0
      skip
      have ew : IntKind.u8.wrap (l : Int) = (l : Int) := IntWalk.u8_in _ (by omega)
      rw [← ew] at cv cv2
      clear ew
      have hal : ∀ o : Obj, (wc.alloc o).drew.cell? ⟨w.heap.size, l, none⟩ = some (.pointer (some ⟨b2, 0, none⟩)) := fun o => (((Below.refl _ _).alloc (Nat.le_refl _) _).drew.cell (p := ⟨w.heap.size, l, none⟩) HLt.out).trans cl
      go_upto_region 19 with fail
      go_region_with (go_at_call 106; refine (HJ.out _ (by first | exact ((Below.refl _ _).alloc (Nat.le_refl _) _).drew | exact ((Below.refl _ _).alloc (Nat.le_refl _) _) | exact (Below.refl _ _).drew)).mono ?_; rintro e w5 ⟨x, rfl, hk, hb⟩; have hb5 : Below wc.heap.size wc w5 := ((((Below.refl _ _).alloc (Nat.le_refl _) _).drew).trans (hb.mono (by simp))); clear hb)
      all_goals go_wp2
      all_goals go_ret
      all_goals exact HP.out _ _ hk (HX.out.2.2.2.nxt hb5)
    · have HR : Hid (Trie.shrunk ([] : List UInt8) (kids) = .branch ([] : List UInt8) (kids)) := Lib.hid (by unfold Trie.shrunk; rw [if_neg (by rw [← Hm.out]; exact m0), if_neg (by rw [← Hm.out]; exact m1)])
      have HBr : Hid (∀ W, Below wc.heap.size wc W → Calls Tryd.prog 105 #[.string ⟨(([] : List UInt8)).toArray⟩, .agg ps1.toArray] W (KnotEnd W (Trie.shrunk ([] : List UInt8) (kids)))) := Lib.hid (fun W hW => by
        have h1 := HW.out.1; have h2 := HW.out.2.1; have h3 := HW.out.2.2
        rw [HR.out] at h1 h2 h3 ⊢
        exact trie_branch _ _ h1 h2 h3 ps1 HX.out.1 W (HTb.out.next (HX.out.2.2.2.nxt hW)) (fun i => (HX.out.2.2.1 i).next hW))
      by_cases m1' : m = 1
      · have hvn : ¬ ([] : List UInt8) = [] := fun e => m1 ⟨m1', e⟩
        subst m1'
        clear m1 m0
        first | exact absurd rfl hvn | skip
        all_goals have ne1 : ((([] : List UInt8)).toArray = #[]) = False := by simp [hvn]
        all_goals have ne2 : (([] : List UInt8)).isEmpty = false := by simp [hvn]
        all_goals go_wp2_with (first | (with_reducible refine at_load 98 ?_; refine wpList_load_mid rfl 99 _ rfl w.heap.size 0 rfl _ _ RP Tryd.underlying99 rfl SZQ ?_) | (go_at_call 105; refine (HBr.out _ (Below.refl _ _)).mono ?_; rintro e w5 ⟨x, rfl, hk, hb⟩))
        all_goals exact HP.out _ _ hk (HX.out.2.2.2.nxt hb)
      · have em1 : ((m : Int) == 1) = false := by rw [beq_eq_false_iff_ne]; omega
        clear m1 m0 m1'
        go_wp2_with (first | (with_reducible refine at_load 98 ?_; refine wpList_load_mid rfl 99 _ rfl w.heap.size 0 rfl _ _ RP Tryd.underlying99 rfl SZQ ?_) | (go_at_call 105; refine (HBr.out _ (Below.refl _ _)).mono ?_; rintro e w5 ⟨x, rfl, hk, hb⟩))
        exact HP.out _ _ hk (HX.out.2.2.2.nxt hb)
end Go.Proofs.YtefcmigbdfeaiaaDoor

namespace Go.Proofs.YtefcmigbdfeaiaaDoor
set_option linter.unusedVariables false
open Go.RowKit Go.Instr
attribute [local go_sem] ba_get ByteArray.mk_append_mk
attribute [local go_sem ↓] Go.wp_at_zero Go.wp_at_succ
set_option maxRecDepth 100000 in
set_option maxHeartbeats 4000000 in
theorem del_kid0 (v0 : List UInt8) (kids : Fin 16 → Trie.T) (b : UInt8) (r : List UInt8) (n : Trie.T) (hb : b ≤ 15) (hnil : n = .nil) (hw : Trie.wf (Trie.shrunk v0 (Trie.setKid kids b n))) (hs : Trie.small (Trie.shrunk v0 (Trie.setKid kids b n))) (hc : Trie.count (Trie.shrunk v0 (Trie.setKid kids b n)) ≤ 1000000) (g : Nat) (ps : List Value) (hps : ps.length = 16) (w : World) (hT : Tbl w)
    (hbk : Blk w g 101 (knotC (.branch v0 kids) ps).toArray) (hks : ∀ i : Fin 16, KnotP w (kids i) (ps.getD i.val undef))
    (IH : ∀ (x : Value) (W : World), Tbl W → KnotP W (kids (Trie.ix b)) x → Calls Tryd.prog 88 #[x, .string ⟨r.toArray⟩] W (KnotEnd W n)) :
    Calls Tryd.prog 88 #[.pointer (some ⟨g, 0, none⟩), .string ⟨(b :: r).toArray⟩] w (KnotEnd w (Trie.shrunk v0 (Trie.setKid kids b n))) := by
  have HP : Hid (∀ x w', KnotP w' (Trie.shrunk v0 (Trie.setKid kids b n)) x → Below w.heap.size w w' → KnotEnd w (Trie.shrunk v0 (Trie.setKid kids b n)) (.returned x) w') := Lib.hid (fun x w' h1 h2 => ⟨x, rfl, h1, h2⟩)
  have HW := Lib.hid (And.intro hw (And.intro hs hc))
  have HTb := Lib.hid hT
  have HIH := Lib.hid IH
  have Hb := Lib.hid hb
  have HN := Lib.hid hnil
  have hb16 : b.toNat < 16 := by rw [UInt8.le_iff_toNat_le] at hb; simp at hb; omega
  have Hix : Hid ((Trie.ix b).val = b.toNat) := Lib.hid (by simp [Trie.ix]; omega)
  have hbi : (b.toNat : Int) < 16 := by omega
  have hbx : 0 ≤ (b.toNat : Int) := by omega
  generalize KnotEnd w (Trie.shrunk v0 (Trie.setKid kids b n)) = P at HP ⊢
  clear hw hs hc hT IH hb hnil
  obtain ⟨⟨c0, c1, c2, _, _⟩, kr, _, _, _, _⟩ := KnotAt.of (Trie.sumsT_length _) hps hbk
  rename_i j1 j2 j4 j5 j6 j7
  replace c0 : w.cell? ⟨g, 0, none⟩ = some (.int .i64 3) := c0
  replace c2 : w.cell? ⟨g, 2, none⟩ = some (.string ⟨v0.toArray⟩) := c2
  have HA := kids_one hps hks
  have SZR : (Tryd.prog.info? 99).map (·.size) = some ps.length := by rw [hps]; exact info_ptrs
  have HU := Tryd.underlying99
  have HLt := Lib.hid hbk.lt
  have HCp := Lib.hid (KidsIn.copied hps hks)
  have HTh : (w.alloc (.cells #[.pointer none, .pointer none, .pointer none, .pointer none, .pointer none, .pointer none, .pointer none, .pointer none, .pointer none, .pointer none, .pointer none, .pointer none, .pointer none, .pointer none, .pointer none, .pointer none] 99)).drew.there w.heap.size 0 16 := there_new _ _ _ _ (Nat.le_refl 16)
  clear j1 j2 j4 j5 j6 j7 hbk hks c1
  go_enter Tryd.func88, Tryd.ntmps88
  go_upto_region 5 with fail
  go_region_held3 (fun w' => w'.cell? ⟨g, 2, none⟩ = some (.string ⟨v0.toArray⟩) ∧ w'.rangeAt g 19 ps) (first | go_keep_ranges | exact held_alloc c2 kr HLt.out _ | exact held_setCells (held_alloc c2 kr HLt.out _) (by have := HLt.out; omega) | (constructor <;> assumption)) (fail)
  clear HTh HA SZR HU hps kr c0 c2
  have HCp2 := Lib.hid HCp.out
  clear HCp
  rename_i hHeld
  clear hHeld
  generalize World.setCells _ w.heap.size 0 ps = wc at HCp2 ⊢
  obtain ⟨y, cb, Hyk⟩ : ∃ y, wc.cell? ⟨w.heap.size, b.toNat, none⟩ = some y ∧ Hid (KnotP wc (kids (Trie.ix b)) y) := by
    obtain ⟨ps1, h1, h2, h3, h4⟩ := HCp2.out
    refine ⟨ps1.getD b.toNat undef, ?_, Lib.hid (by have := h3 (Trie.ix b); rwa [Hix.out] at this)⟩
    rw [h2.cell, List.getElem?_toArray, List.getD_eq_getElem?_getD, List.getElem?_eq_getElem (by omega)]; rfl
  have fb : wc.frozen? ⟨w.heap.size, b.toNat, none⟩ = false := by
    obtain ⟨ps1, h1, h2, h3, h4⟩ := HCp2.out
    exact h2.frozen _
  have HWc : Hid (Below w.heap.size w wc ∧ w.heap.size < wc.heap.size) := Lib.hid (by obtain ⟨ps1, h1, h2, h3, h4⟩ := HCp2.out; exact ⟨h4, h2.lt⟩)
  have HDel : Hid (∀ W, Below wc.heap.size wc W → Calls Tryd.prog 88 #[y, .string ⟨r.toArray⟩] W (KnotEnd W n)) := Lib.hid (fun W hW => HIH.out y W (HTb.out.next (HWc.out.1.nxt hW)) (Hyk.out.next hW))
  have HTl := run_tail b r
  go_upto_region 8 with fail
  go_cut [64] (fun s64 wx => KidsIn w w.heap.size (Trie.setKid kids b n) wx)
  case first =>
    go_region_with (go_at_call 88; refine (HDel.out _ (by first | exact Below.refl _ _ | exact (Below.refl _ _).drew)).mono ?_; rintro e w3 ⟨x, rfl, hk, hb⟩; obtain rfl := hk.nil_iff.1 HN.out; have hb2 : Below wc.heap.size wc w3 := (by first | exact hb | exact hb.start); clear hb; have d1 := (hb2.cell (p := ⟨w.heap.size, b.toNat, none⟩) HWc.out.2).trans cb; have d2 := (hb2.frozen (p := ⟨w.heap.size, b.toNat, none⟩) HWc.out.2).trans fb)
    all_goals go_wp2
    all_goals go_meet
    all_goals first | exact (HCp2.out.next hb2).set (Nat.le_refl _) b Hb.out _ _ hk | exact ((HCp2.out.next hb2).set (Nat.le_refl _) b Hb.out _ _ hk).next (Below.refl _ _).drew
  case rest =>
    have hKI := hcut
    clear hcut HCp2 HDel HWc fb cb Hyk HTl
    go_upto_region 10 with fail
    have HKI := Lib.hid hKI
    clear hKI
    obtain ⟨ps1, k1, k2, k3, k4⟩ := HKI.out
    have HX := Lib.hid (And.intro k1 (And.intro k2 (And.intro k3 k4)))
    have RP := k2.range
    have SZQ : (Tryd.prog.info? 99).map (·.size) = some ps1.length := by rw [k1]; exact info_ptrs
    clear k1 k2 k3 k4
    go_wp2_with (with_reducible refine at_load 66 ?_; refine wpList_load_mid rfl 99 _ rfl w.heap.size 0 rfl _ _ RP Tryd.underlying99 rfl SZQ ?_)
    refine del_loop (Trie.setKid kids b n) ps1 HX.out.1 wc _ (fun i => HX.out.2.2.1 i) _ w.heap.size _ ?_ _ _ _ _ _ _ _ _ _ _ _ _ _ _ _ _ _ _ _ _ _ _ _ _ _ _ _ _ _ _ _ _ _ _ _ _ _ _ _ _ _ _ _ _ _ _ _ _ _ _ _ _ _ _ _ _ _ _ _ _ _ _ _ _ _ _ _ _ _ _ _ _ _ _ _ _ _ _ _ _ _ _ _ _ _ _ _ _ _ _ _ _ _ _
    intro s0 s1 s2 s3 s4 s9 s10 s11 s12 s13 s14 s15 s16 s17 s18 s19 s20 s21 s22 s23 s24 s25 s26 s27 s28 s29 s30 s31 s32 s33 s34 s35 s36 s37 s38 s39 s40 s41 s42 s43 s44 s45 s46 s47 s48 s49 s50 s51 s52 s53 s54 s55 s56 s57 s58 s59 s60 s61 s62 s63 s64 s65 s66 s67 s68 s69 s70 s71 s72 s73 s74 s75 s76 s77 s78 s79 s80 s81 s82 s83 s84 s85 s86 s87 s88 s89 s90 s91 s92 s93 s94 s95 s96 s97 s98 s99 m l hm hl
    have Hm := Lib.hid hm
    have Hl := Lib.hid hl
    have hm16 : m ≤ 16 := by rw [hm]; unfold Trie.many; have := List.length_filter_le (fun i => !Trie.isNil (((Trie.setKid kids b n)) i)) (List.finRange 16); rw [List.length_finRange] at this; exact this
    have hl16 : l < 16 := by rw [hl]; exact (Trie.lastKid ((Trie.setKid kids b n))).isLt
    clear hm hl
    by_cases m0 : m = 0
    · have HR : Hid (Trie.shrunk v0 ((Trie.setKid kids b n)) = .leaf [] v0) := Lib.hid (by unfold Trie.shrunk; rw [if_pos (by rw [← Hm.out]; exact m0)])
      subst m0
      have HLf : Hid (∀ W, Below w.heap.size w W → Calls Tryd.prog 104 #[.string ⟨#[]⟩, .string ⟨(v0).toArray⟩] W (KnotEnd W (Trie.shrunk v0 ((Trie.setKid kids b n))))) := Lib.hid (fun W hW => by
        have h1 := HW.out.1; have h2 := HW.out.2.1
        rw [HR.out] at h1 h2 ⊢
        exact trie_leaf [] v0 h1 h2 W (HTb.out.next hW))
      clear RP SZQ
      go_wp2_with (go_at_call 104; refine (HLf.out _ HX.out.2.2.2).mono ?_; rintro e w5 ⟨x, rfl, hk, hb⟩)
      exact HP.out _ _ hk (HX.out.2.2.2.nxt hb)
    · have em0 : ((m : Int) == 0) = false := by rw [beq_eq_false_iff_ne]; omega
      by_cases m1 : m = 1 ∧ v0 = []
      · obtain ⟨m1, hvv⟩ := m1
        have HR : Hid (Trie.shrunk v0 ((Trie.setKid kids b n)) = Trie.joined [UInt8.ofNat (Trie.lastKid ((Trie.setKid kids b n))).val] (((Trie.setKid kids b n)) (Trie.lastKid ((Trie.setKid kids b n))))) := Lib.hid (by unfold Trie.shrunk; rw [if_neg (by rw [← Hm.out]; exact m0), if_pos ⟨by rw [← Hm.out]; exact m1, hvv⟩])
        have hone := Trie.lastKid_one (show Trie.many ((Trie.setKid kids b n)) = 1 by rw [← Hm.out]; exact m1)
        have hln : ((Trie.setKid kids b n)) (Trie.lastKid ((Trie.setKid kids b n))) ≠ .nil := fun e => by have := hone.1; rw [e] at this; simp [Trie.isNil] at this
        have hkl := HX.out.2.2.1 (Trie.lastKid ((Trie.setKid kids b n)))
        rw [← Hl.out] at hkl
        obtain ⟨b2, hy⟩ := hkl.ptr hln
        rw [hy] at hkl
        have cl : wc.cell? ⟨w.heap.size, l, none⟩ = some (.pointer (some ⟨b2, 0, none⟩)) := by
          have h2 := HX.out.2.1.cell l
          have h16 := HX.out.1
          rw [h2, ← hy, List.getD_eq_getElem?_getD, List.getElem?_toArray, List.getElem?_eq_getElem (by omega)]
          rfl
        have HJ : Hid (∀ W, Below wc.heap.size wc W → Calls Tryd.prog 106 #[.string ⟨#[UInt8.ofNat l]⟩, .pointer (some ⟨b2, 0, none⟩)] W (KnotEnd W (Trie.shrunk v0 ((Trie.setKid kids b n))))) := Lib.hid (fun W hW => by
          have h1 := HW.out.1; have h2 := HW.out.2.1; have h3 := HW.out.2.2
          rw [HR.out] at h1 h2 h3 ⊢
          rw [Trie.count_joined] at h3
          have := trie_joined [UInt8.ofNat (Trie.lastKid ((Trie.setKid kids b n))).val] _ hln h1 h2 h3 _ W (HTb.out.next (HX.out.2.2.2.nxt hW)) (hkl.next hW)
          rw [← Hl.out] at this
          rw [← Hl.out]
          exact this)
        have HLt : Hid (w.heap.size < wc.heap.size) := Lib.hid HX.out.2.1.lt
        have Hv0 := Lib.hid hvv
        subst m1
        have hli : (l : Int) < 16 := by omega
        have hlx : (0 : Int) ≤ l := by omega
        have cv := conv1d wc (l : Int) hlx (by omega)
        have cv2 := conv1 wc (l : Int) hlx (by omega)
        rw [show UInt8.ofNat ((l : Int)).toNat = UInt8.ofNat l by congr 1] at cv cv2
        clear RP SZQ hkl hy hone hln m0
        have ev0 : v0.toArray = #[] := (by rw [Hv0.out]); have ev1 : v0.isEmpty = true := (by rw [Hv0.out]; rfl); clear hvv
        have ew : IntKind.u8.wrap (l : Int) = (l : Int) := IntWalk.u8_in _ (by omega)
        rw [← ew] at cv cv2
        clear ew
        have hal : ∀ o : Obj, (wc.alloc o).drew.cell? ⟨w.heap.size, l, none⟩ = some (.pointer (some ⟨b2, 0, none⟩)) := fun o => (((Below.refl _ _).alloc (Nat.le_refl _) _).drew.cell (p := ⟨w.heap.size, l, none⟩) HLt.out).trans cl
        go_upto_region 19 with fail
        go_region_with (go_at_call 106; refine (HJ.out _ (by first | exact ((Below.refl _ _).alloc (Nat.le_refl _) _).drew | exact ((Below.refl _ _).alloc (Nat.le_refl _) _) | exact (Below.refl _ _).drew)).mono ?_; rintro e w5 ⟨x, rfl, hk, hb⟩; have hb5 : Below wc.heap.size wc w5 := ((((Below.refl _ _).alloc (Nat.le_refl _) _).drew).trans (hb.mono (by simp))); clear hb)
        all_goals go_wp2
        all_goals go_ret
        all_goals exact HP.out _ _ hk (HX.out.2.2.2.nxt hb5)
      · have HR : Hid (Trie.shrunk v0 ((Trie.setKid kids b n)) = .branch v0 ((Trie.setKid kids b n))) := Lib.hid (by unfold Trie.shrunk; rw [if_neg (by rw [← Hm.out]; exact m0), if_neg (by rw [← Hm.out]; exact m1)])
        have HBr : Hid (∀ W, Below wc.heap.size wc W → Calls Tryd.prog 105 #[.string ⟨(v0).toArray⟩, .agg ps1.toArray] W (KnotEnd W (Trie.shrunk v0 ((Trie.setKid kids b n))))) := Lib.hid (fun W hW => by
          have h1 := HW.out.1; have h2 := HW.out.2.1; have h3 := HW.out.2.2
          rw [HR.out] at h1 h2 h3 ⊢
          exact trie_branch _ _ h1 h2 h3 ps1 HX.out.1 W (HTb.out.next (HX.out.2.2.2.nxt hW)) (fun i => (HX.out.2.2.1 i).next hW))
        by_cases m1' : m = 1
        · have hvn : ¬ v0 = [] := fun e => m1 ⟨m1', e⟩
          subst m1'
          clear m1 m0
          first | exact absurd rfl hvn | skip
          all_goals have ne1 : ((v0).toArray = #[]) = False := by simp [hvn]
          all_goals have ne2 : (v0).isEmpty = false := by simp [hvn]
          all_goals go_wp2_with (first | (with_reducible refine at_load 98 ?_; refine wpList_load_mid rfl 99 _ rfl w.heap.size 0 rfl _ _ RP Tryd.underlying99 rfl SZQ ?_) | (go_at_call 105; refine (HBr.out _ (Below.refl _ _)).mono ?_; rintro e w5 ⟨x, rfl, hk, hb⟩))
          all_goals exact HP.out _ _ hk (HX.out.2.2.2.nxt hb)
        · have em1 : ((m : Int) == 1) = false := by rw [beq_eq_false_iff_ne]; omega
          clear m1 m0 m1'
          go_wp2_with (first | (with_reducible refine at_load 98 ?_; refine wpList_load_mid rfl 99 _ rfl w.heap.size 0 rfl _ _ RP Tryd.underlying99 rfl SZQ ?_) | (go_at_call 105; refine (HBr.out _ (Below.refl _ _)).mono ?_; rintro e w5 ⟨x, rfl, hk, hb⟩))
          exact HP.out _ _ hk (HX.out.2.2.2.nxt hb)
set_option maxRecDepth 100000 in
set_option maxHeartbeats 4000000 in
theorem del_kid1 (v0 : List UInt8) (kids : Fin 16 → Trie.T) (b : UInt8) (r : List UInt8) (n : Trie.T) (hb : b ≤ 15) (hnil : n ≠ .nil) (hw : Trie.wf (Trie.shrunk v0 (Trie.setKid kids b n))) (hs : Trie.small (Trie.shrunk v0 (Trie.setKid kids b n))) (hc : Trie.count (Trie.shrunk v0 (Trie.setKid kids b n)) ≤ 1000000) (g : Nat) (ps : List Value) (hps : ps.length = 16) (w : World) (hT : Tbl w)
    (hbk : Blk w g 101 (knotC (.branch v0 kids) ps).toArray) (hks : ∀ i : Fin 16, KnotP w (kids i) (ps.getD i.val undef))
    (IH : ∀ (x : Value) (W : World), Tbl W → KnotP W (kids (Trie.ix b)) x → Calls Tryd.prog 88 #[x, .string ⟨r.toArray⟩] W (KnotEnd W n)) :
    Calls Tryd.prog 88 #[.pointer (some ⟨g, 0, none⟩), .string ⟨(b :: r).toArray⟩] w (KnotEnd w (Trie.shrunk v0 (Trie.setKid kids b n))) := by
  have HP : Hid (∀ x w', KnotP w' (Trie.shrunk v0 (Trie.setKid kids b n)) x → Below w.heap.size w w' → KnotEnd w (Trie.shrunk v0 (Trie.setKid kids b n)) (.returned x) w') := Lib.hid (fun x w' h1 h2 => ⟨x, rfl, h1, h2⟩)
  have HW := Lib.hid (And.intro hw (And.intro hs hc))
  have HTb := Lib.hid hT
  have HIH := Lib.hid IH
  have Hb := Lib.hid hb
  have HN := Lib.hid hnil
  have hb16 : b.toNat < 16 := by rw [UInt8.le_iff_toNat_le] at hb; simp at hb; omega
  have Hix : Hid ((Trie.ix b).val = b.toNat) := Lib.hid (by simp [Trie.ix]; omega)
  have hbi : (b.toNat : Int) < 16 := by omega
  have hbx : 0 ≤ (b.toNat : Int) := by omega
  generalize KnotEnd w (Trie.shrunk v0 (Trie.setKid kids b n)) = P at HP ⊢
  clear hw hs hc hT IH hb hnil
  obtain ⟨⟨c0, c1, c2, _, _⟩, kr, _, _, _, _⟩ := KnotAt.of (Trie.sumsT_length _) hps hbk
  rename_i j1 j2 j4 j5 j6 j7
  replace c0 : w.cell? ⟨g, 0, none⟩ = some (.int .i64 3) := c0
  replace c2 : w.cell? ⟨g, 2, none⟩ = some (.string ⟨v0.toArray⟩) := c2
  have HA := kids_one hps hks
  have SZR : (Tryd.prog.info? 99).map (·.size) = some ps.length := by rw [hps]; exact info_ptrs
  have HU := Tryd.underlying99
  have HLt := Lib.hid hbk.lt
  have HCp := Lib.hid (KidsIn.copied hps hks)
  have HTh : (w.alloc (.cells #[.pointer none, .pointer none, .pointer none, .pointer none, .pointer none, .pointer none, .pointer none, .pointer none, .pointer none, .pointer none, .pointer none, .pointer none, .pointer none, .pointer none, .pointer none, .pointer none] 99)).drew.there w.heap.size 0 16 := there_new _ _ _ _ (Nat.le_refl 16)
  clear j1 j2 j4 j5 j6 j7 hbk hks c1
  go_enter Tryd.func88, Tryd.ntmps88
  go_upto_region 5 with fail
  go_region_held3 (fun w' => w'.cell? ⟨g, 2, none⟩ = some (.string ⟨v0.toArray⟩) ∧ w'.rangeAt g 19 ps) (first | go_keep_ranges | exact held_alloc c2 kr HLt.out _ | exact held_setCells (held_alloc c2 kr HLt.out _) (by have := HLt.out; omega) | (constructor <;> assumption)) (fail)
  clear HTh HA SZR HU hps kr c0 c2
  have HCp2 := Lib.hid HCp.out
  clear HCp
  rename_i hHeld
  clear hHeld
  generalize World.setCells _ w.heap.size 0 ps = wc at HCp2 ⊢
  obtain ⟨y, cb, Hyk⟩ : ∃ y, wc.cell? ⟨w.heap.size, b.toNat, none⟩ = some y ∧ Hid (KnotP wc (kids (Trie.ix b)) y) := by
    obtain ⟨ps1, h1, h2, h3, h4⟩ := HCp2.out
    refine ⟨ps1.getD b.toNat undef, ?_, Lib.hid (by have := h3 (Trie.ix b); rwa [Hix.out] at this)⟩
    rw [h2.cell, List.getElem?_toArray, List.getD_eq_getElem?_getD, List.getElem?_eq_getElem (by omega)]; rfl
  have fb : wc.frozen? ⟨w.heap.size, b.toNat, none⟩ = false := by
    obtain ⟨ps1, h1, h2, h3, h4⟩ := HCp2.out
    exact h2.frozen _
  have HWc : Hid (Below w.heap.size w wc ∧ w.heap.size < wc.heap.size) := Lib.hid (by obtain ⟨ps1, h1, h2, h3, h4⟩ := HCp2.out; exact ⟨h4, h2.lt⟩)
  have HDel : Hid (∀ W, Below wc.heap.size wc W → Calls Tryd.prog 88 #[y, .string ⟨r.toArray⟩] W (KnotEnd W n)) := Lib.hid (fun W hW => HIH.out y W (HTb.out.next (HWc.out.1.nxt hW)) (Hyk.out.next hW))
  have HTl := run_tail b r
  go_upto_region 8 with fail
  go_cut [64] (fun s64 wx => KidsIn w w.heap.size (Trie.setKid kids b n) wx)
  case first =>
    go_region_with (go_at_call 88; refine (HDel.out _ (by first | exact Below.refl _ _ | exact (Below.refl _ _).drew)).mono ?_; rintro e w3 ⟨x, rfl, hk, hb⟩; obtain ⟨b9, rfl⟩ := hk.ptr HN.out; have hb2 : Below wc.heap.size wc w3 := (by first | exact hb | exact hb.start); clear hb; have d1 := (hb2.cell (p := ⟨w.heap.size, b.toNat, none⟩) HWc.out.2).trans cb; have d2 := (hb2.frozen (p := ⟨w.heap.size, b.toNat, none⟩) HWc.out.2).trans fb)
    all_goals go_wp2
    all_goals go_meet
    all_goals first | exact (HCp2.out.next hb2).set (Nat.le_refl _) b Hb.out _ _ hk | exact ((HCp2.out.next hb2).set (Nat.le_refl _) b Hb.out _ _ hk).next (Below.refl _ _).drew
  case rest =>
    have hKI := hcut
    clear hcut HCp2 HDel HWc fb cb Hyk HTl
    go_upto_region 10 with fail
    have HKI := Lib.hid hKI
    clear hKI
    obtain ⟨ps1, k1, k2, k3, k4⟩ := HKI.out
    have HX := Lib.hid (And.intro k1 (And.intro k2 (And.intro k3 k4)))
    have RP := k2.range
    have SZQ : (Tryd.prog.info? 99).map (·.size) = some ps1.length := by rw [k1]; exact info_ptrs
    clear k1 k2 k3 k4
    go_wp2_with (with_reducible refine at_load 66 ?_; refine wpList_load_mid rfl 99 _ rfl w.heap.size 0 rfl _ _ RP Tryd.underlying99 rfl SZQ ?_)
    refine del_loop (Trie.setKid kids b n) ps1 HX.out.1 wc _ (fun i => HX.out.2.2.1 i) _ w.heap.size _ ?_ _ _ _ _ _ _ _ _ _ _ _ _ _ _ _ _ _ _ _ _ _ _ _ _ _ _ _ _ _ _ _ _ _ _ _ _ _ _ _ _ _ _ _ _ _ _ _ _ _ _ _ _ _ _ _ _ _ _ _ _ _ _ _ _ _ _ _ _ _ _ _ _ _ _ _ _ _ _ _ _ _ _ _ _ _ _ _ _ _ _ _ _ _ _
    intro s0 s1 s2 s3 s4 s9 s10 s11 s12 s13 s14 s15 s16 s17 s18 s19 s20 s21 s22 s23 s24 s25 s26 s27 s28 s29 s30 s31 s32 s33 s34 s35 s36 s37 s38 s39 s40 s41 s42 s43 s44 s45 s46 s47 s48 s49 s50 s51 s52 s53 s54 s55 s56 s57 s58 s59 s60 s61 s62 s63 s64 s65 s66 s67 s68 s69 s70 s71 s72 s73 s74 s75 s76 s77 s78 s79 s80 s81 s82 s83 s84 s85 s86 s87 s88 s89 s90 s91 s92 s93 s94 s95 s96 s97 s98 s99 m l hm hl
    have Hm := Lib.hid hm
    have Hl := Lib.hid hl
    have hm16 : m ≤ 16 := by rw [hm]; unfold Trie.many; have := List.length_filter_le (fun i => !Trie.isNil (((Trie.setKid kids b n)) i)) (List.finRange 16); rw [List.length_finRange] at this; exact this
    have hl16 : l < 16 := by rw [hl]; exact (Trie.lastKid ((Trie.setKid kids b n))).isLt
    clear hm hl
    by_cases m0 : m = 0
    · have HR : Hid (Trie.shrunk v0 ((Trie.setKid kids b n)) = .leaf [] v0) := Lib.hid (by unfold Trie.shrunk; rw [if_pos (by rw [← Hm.out]; exact m0)])
      subst m0
      have HLf : Hid (∀ W, Below w.heap.size w W → Calls Tryd.prog 104 #[.string ⟨#[]⟩, .string ⟨(v0).toArray⟩] W (KnotEnd W (Trie.shrunk v0 ((Trie.setKid kids b n))))) := Lib.hid (fun W hW => by
        have h1 := HW.out.1; have h2 := HW.out.2.1
        rw [HR.out] at h1 h2 ⊢
        exact trie_leaf [] v0 h1 h2 W (HTb.out.next hW))
      clear RP SZQ
      go_wp2_with (go_at_call 104; refine (HLf.out _ HX.out.2.2.2).mono ?_; rintro e w5 ⟨x, rfl, hk, hb⟩)
      exact HP.out _ _ hk (HX.out.2.2.2.nxt hb)
    · have em0 : ((m : Int) == 0) = false := by rw [beq_eq_false_iff_ne]; omega
      by_cases m1 : m = 1 ∧ v0 = []
      · obtain ⟨m1, hvv⟩ := m1
        have HR : Hid (Trie.shrunk v0 ((Trie.setKid kids b n)) = Trie.joined [UInt8.ofNat (Trie.lastKid ((Trie.setKid kids b n))).val] (((Trie.setKid kids b n)) (Trie.lastKid ((Trie.setKid kids b n))))) := Lib.hid (by unfold Trie.shrunk; rw [if_neg (by rw [← Hm.out]; exact m0), if_pos ⟨by rw [← Hm.out]; exact m1, hvv⟩])
        have hone := Trie.lastKid_one (show Trie.many ((Trie.setKid kids b n)) = 1 by rw [← Hm.out]; exact m1)
        have hln : ((Trie.setKid kids b n)) (Trie.lastKid ((Trie.setKid kids b n))) ≠ .nil := fun e => by have := hone.1; rw [e] at this; simp [Trie.isNil] at this
        have hkl := HX.out.2.2.1 (Trie.lastKid ((Trie.setKid kids b n)))
        rw [← Hl.out] at hkl
        obtain ⟨b2, hy⟩ := hkl.ptr hln
        rw [hy] at hkl
        have cl : wc.cell? ⟨w.heap.size, l, none⟩ = some (.pointer (some ⟨b2, 0, none⟩)) := by
          have h2 := HX.out.2.1.cell l
          have h16 := HX.out.1
          rw [h2, ← hy, List.getD_eq_getElem?_getD, List.getElem?_toArray, List.getElem?_eq_getElem (by omega)]
          rfl
        have HJ : Hid (∀ W, Below wc.heap.size wc W → Calls Tryd.prog 106 #[.string ⟨#[UInt8.ofNat l]⟩, .pointer (some ⟨b2, 0, none⟩)] W (KnotEnd W (Trie.shrunk v0 ((Trie.setKid kids b n))))) := Lib.hid (fun W hW => by
          have h1 := HW.out.1; have h2 := HW.out.2.1; have h3 := HW.out.2.2
          rw [HR.out] at h1 h2 h3 ⊢
          rw [Trie.count_joined] at h3
          have := trie_joined [UInt8.ofNat (Trie.lastKid ((Trie.setKid kids b n))).val] _ hln h1 h2 h3 _ W (HTb.out.next (HX.out.2.2.2.nxt hW)) (hkl.next hW)
          rw [← Hl.out] at this
          rw [← Hl.out]
          exact this)
        have HLt : Hid (w.heap.size < wc.heap.size) := Lib.hid HX.out.2.1.lt
        have Hv0 := Lib.hid hvv
        subst m1
        have hli : (l : Int) < 16 := by omega
        have hlx : (0 : Int) ≤ l := by omega
        have cv := conv1d wc (l : Int) hlx (by omega)
        have cv2 := conv1 wc (l : Int) hlx (by omega)
        rw [show UInt8.ofNat ((l : Int)).toNat = UInt8.ofNat l by congr 1] at cv cv2
        clear RP SZQ hkl hy hone hln m0
        have ev0 : v0.toArray = #[] := (by rw [Hv0.out]); have ev1 : v0.isEmpty = true := (by rw [Hv0.out]; rfl); clear hvv
        have ew : IntKind.u8.wrap (l : Int) = (l : Int) := IntWalk.u8_in _ (by omega)
        rw [← ew] at cv cv2
        clear ew
        have hal : ∀ o : Obj, (wc.alloc o).drew.cell? ⟨w.heap.size, l, none⟩ = some (.pointer (some ⟨b2, 0, none⟩)) := fun o => (((Below.refl _ _).alloc (Nat.le_refl _) _).drew.cell (p := ⟨w.heap.size, l, none⟩) HLt.out).trans cl
        go_upto_region 19 with fail
        go_region_with (go_at_call 106; refine (HJ.out _ (by first | exact ((Below.refl _ _).alloc (Nat.le_refl _) _).drew | exact ((Below.refl _ _).alloc (Nat.le_refl _) _) | exact (Below.refl _ _).drew)).mono ?_; rintro e w5 ⟨x, rfl, hk, hb⟩; have hb5 : Below wc.heap.size wc w5 := ((((Below.refl _ _).alloc (Nat.le_refl _) _).drew).trans (hb.mono (by simp))); clear hb)
        all_goals go_wp2
        all_goals go_ret
        all_goals exact HP.out _ _ hk (HX.out.2.2.2.nxt hb5)
      · have HR : Hid (Trie.shrunk v0 ((Trie.setKid kids b n)) = .branch v0 ((Trie.setKid kids b n))) := Lib.hid (by unfold Trie.shrunk; rw [if_neg (by rw [← Hm.out]; exact m0), if_neg (by rw [← Hm.out]; exact m1)])
        have HBr : Hid (∀ W, Below wc.heap.size wc W → Calls Tryd.prog 105 #[.string ⟨(v0).toArray⟩, .agg ps1.toArray] W (KnotEnd W (Trie.shrunk v0 ((Trie.setKid kids b n))))) := Lib.hid (fun W hW => by
          have h1 := HW.out.1; have h2 := HW.out.2.1; have h3 := HW.out.2.2
          rw [HR.out] at h1 h2 h3 ⊢
          exact trie_branch _ _ h1 h2 h3 ps1 HX.out.1 W (HTb.out.next (HX.out.2.2.2.nxt hW)) (fun i => (HX.out.2.2.1 i).next hW))
        by_cases m1' : m = 1
        · have hvn : ¬ v0 = [] := fun e => m1 ⟨m1', e⟩
          subst m1'
          clear m1 m0
          first | exact absurd rfl hvn | skip
          all_goals have ne1 : ((v0).toArray = #[]) = False := by simp [hvn]
          all_goals have ne2 : (v0).isEmpty = false := by simp [hvn]
          all_goals go_wp2_with (first | (with_reducible refine at_load 98 ?_; refine wpList_load_mid rfl 99 _ rfl w.heap.size 0 rfl _ _ RP Tryd.underlying99 rfl SZQ ?_) | (go_at_call 105; refine (HBr.out _ (Below.refl _ _)).mono ?_; rintro e w5 ⟨x, rfl, hk, hb⟩))
          all_goals exact HP.out _ _ hk (HX.out.2.2.2.nxt hb)
        · have em1 : ((m : Int) == 1) = false := by rw [beq_eq_false_iff_ne]; omega
          clear m1 m0 m1'
          go_wp2_with (first | (with_reducible refine at_load 98 ?_; refine wpList_load_mid rfl 99 _ rfl w.heap.size 0 rfl _ _ RP Tryd.underlying99 rfl SZQ ?_) | (go_at_call 105; refine (HBr.out _ (Below.refl _ _)).mono ?_; rintro e w5 ⟨x, rfl, hk, hb⟩))
          exact HP.out _ _ hk (HX.out.2.2.2.nxt hb)
end Go.Proofs.YtefcmigbdfeaiaaDoor

namespace Go.Proofs.YtefcmigbdfeaiaaDoor
set_option linter.unusedVariables false
open Go.RowKit Go.Instr
attribute [local go_sem] ba_get ByteArray.mk_append_mk
attribute [local go_sem ↓] Go.wp_at_zero Go.wp_at_succ
namespace Trie
open Nib
theorem small_del {t : T} {q : List UInt8} (hw : wf t) (hs : small t) (hq : fit q = true) (h : look t q ≠ []) : wf (del t q) ∧ small (del t q) := by
  obtain ⟨h1, h2, _⟩ := del_spec t q hw hq h
  refine ⟨h1, fun r hr hne => ?_⟩
  rw [h2 r hr] at hne ⊢
  split
  · rename_i e; rw [if_pos e] at hne; exact absurd rfl hne
  · rename_i e
    rw [if_neg e] at hne
    exact hs r hr hne
theorem kid_le_kidsCount (kids : Fin 16 → T) (i : Fin 16) : count (kids i) ≤ kidsCount kids := by
  unfold kidsCount
  have := sum_one (fun i => count (kids i)) i 0 (List.finRange 16) (List.nodup_finRange 16) (List.mem_finRange _)
  simp only [Nat.add_zero] at this
  omega
theorem count_shrunk (v : List UInt8) (kids : Fin 16 → T) (h : v ≠ [] ∨ 1 ≤ many kids) : count (shrunk v kids) ≤ count (.branch v kids) := by
  unfold shrunk
  split
  · rename_i m0
    have hv : v ≠ [] := by
      rcases h with h | h
      · exact h
      · omega
    rw [count_branch, if_neg hv]; simp [count]
  · split
    · rw [count_joined, count_branch]
      have := kid_le_kidsCount kids (lastKid kids)
      omega
    · exact Nat.le_refl _
theorem count_del (t : T) : ∀ q, wf t → fit q = true → look t q ≠ [] → count (del t q) ≤ count t := by
  induction t with
  | nil => intro q _ _ h; exact absurd rfl h
  | leaf p v => intro q _ _ _; simp [del, count]
  | ext p t ih =>
    intro q hw hq h
    simp only [del]
    rw [count_joined]
    exact ih _ hw.2.2.2 (fit_drop _ hq) (look_ext_some h).2
  | branch v kids ih =>
    intro q hw hq h
    cases q with
    | nil =>
      simp only [del]
      refine Nat.le_trans (count_shrunk [] kids ?_) ?_
      · have := hw.2
        right
        split at this <;> omega
      · rw [count_branch, count_branch]; simp
    | cons b r =>
      have hb := fit_cons'.1 hq
      simp only [look] at h
      simp only [del]
      have h1 := ih (ix b) r (hw.1 _) hb.2 h
      refine Nat.le_trans (count_shrunk v _ ?_) ?_
      · rcases many_two hw.2 b with hv | ⟨i, hne, hi⟩
        · exact .inl hv
        · right
          exact many_pos (i := i) (by rw [setKid_other hne]; exact hi)
      · rw [count_branch, count_branch]
        have := kidsCount_set kids b (del (kids (ix b)) r)
        omega
end Trie
theorem trie_del (t : Trie.T) : ∀ (q : List UInt8) (x : Value) (w : World), Trie.wf t → Trie.small t → Trie.count t ≤ 1000000 → Nib.fit q = true → q.length ≤ 16 → Trie.look t q ≠ [] → Tbl w → KnotP w t x →
    Calls Tryd.prog 88 #[x, .string ⟨q.toArray⟩] w (KnotEnd w (Trie.del t q)) := by
  induction t with
  | nil => intro q x w hw hs hc hq hl hlk hT hk; exact absurd rfl hlk
  | leaf p v =>
    intro q x w hw hs hc hq hl hlk hT hk
    obtain ⟨g, ps, rfl, hps, hbk, hks⟩ := blk_of_knot hk (by simp)
    exact del_leaf p v q g ps hps w hbk
  | ext p s ih =>
    intro q x w hw hs hc hq hl hlk hT hk
    obtain ⟨hw2, hs2⟩ := Trie.small_del hw hs hq hlk
    have hc2 := Trie.count_del _ q hw hq hlk
    obtain ⟨e1, e2⟩ := Trie.look_ext_some hlk
    obtain ⟨g, ps, rfl, hps, hbk, hks⟩ := blk_of_knot hk (by simp)
    have hsn : s ≠ .nil := fun e => by have := hw.2.2.1; rw [e] at this; simp [Trie.isBranch] at this
    have hpl : p.length ≤ q.length := by
      have := congrArg List.length e1
      rw [List.length_append] at this; omega
    have hnn := (Trie.del_spec s (q.drop p.length) hw.2.2.2 (Trie.fit_drop _ hq) e2).2.2 hw.2.2.1
    simp only [Trie.del] at hw2 hs2 hc2 ⊢
    rw [Trie.count_joined] at hc2
    exact del_below p q s _ hpl (by omega) hsn hnn hw2 hs2 (by simp only [Trie.count] at hc hc2; omega) g ps hps w hT hbk (hks 0)
      (fun x W hTW hkW => ih _ x W hw.2.2.2 (Trie.small_ext hw.1 hs) hc (Trie.fit_drop _ hq) (by rw [List.length_drop]; omega) e2 hTW hkW)
  | branch v kids ih =>
    intro q x w hw hs hc hq hl hlk hT hk
    obtain ⟨hw2, hs2⟩ := Trie.small_del hw hs hq hlk
    have hc2 := Trie.count_del _ q hw hq hlk
    obtain ⟨g, ps, rfl, hps, hbk, hks⟩ := blk_of_knot hk (by simp)
    cases q with
    | nil =>
      simp only [Trie.del] at hw2 hs2 hc2 ⊢
      exact del_own v kids hw2 hs2 (by omega) g ps hps w hT hbk hks
    | cons b r =>
      have hbr := Trie.fit_cons'.1 hq
      simp only [Trie.del] at hw2 hs2 hc2 ⊢
      have hck := Trie.count_kid v kids (Trie.ix b)
      have hIH : ∀ (x : Value) (W : World), Tbl W → KnotP W (kids (Trie.ix b)) x → Calls Tryd.prog 88 #[x, .string ⟨r.toArray⟩] W (KnotEnd W (Trie.del (kids (Trie.ix b)) r)) :=
        fun x W hTW hkW => ih (Trie.ix b) r x W (hw.1 _) (Trie.small_kid hs _) (by omega) hbr.2 (by simp at hl; omega) hlk hTW hkW
      by_cases hn : Trie.del (kids (Trie.ix b)) r = .nil
      · exact del_kid0 v kids b r _ hbr.1 hn hw2 hs2 (by omega) g ps hps w hT hbk hks hIH
      · exact del_kid1 v kids b r _ hbr.1 hn hw2 hs2 (by omega) g ps hps w hT hbk hks hIH
namespace Trie
theorem Good.del {t : T} (h : Good t) {key : List UInt8} (hl : look t (Nib.of key) ≠ []) : Good (del t (Nib.of key)) := by
  obtain ⟨h1, h2⟩ := small_del h.wf h.small (Nib.fit_of key) hl
  refine ⟨h1, h2, fun q hq hne => ?_⟩
  rw [(del_spec t _ h.wf (Nib.fit_of key) hl).2.1 q hq] at hne
  split at hne
  · exact absurd rfl hne
  · exact h.even q hq hne
end Trie
set_option maxHeartbeats 1000000 in
theorem trie_Del (w : World) (t : Trie.T) (v : Value) (h : TrieP w t v) (hc : Trie.count t < 1024) (hT : Tbl w) (key : List UInt8) (hl : key.length ≤ 9223372036854775807) :
    Calls Tryd.prog 65 #[v, .string ⟨key.toArray⟩] w (TPutEnd w (Trie.del t (Nib.of key)) (Trie.getW t key).2) := by
  have HGet0 := trie_Get w t v h key hl
  obtain ⟨hg, b, x, rfl, hbk, hk⟩ := h
  have HP : Hid (∀ c v' w', (Trie.getW t key).2 = c → Below w.heap.size w w' → (c = 0 → TrieP w' (Trie.del t (Nib.of key)) v') → (c ≠ 0 → v' = .pointer none) → TPutEnd w (Trie.del t (Nib.of key)) (Trie.getW t key).2 (.returned (.tuple #[v', .int .i64 (c : Int)])) w') := Lib.hid (fun c v' w' h1 h2 h3 h4 => ⟨v', by rw [h1], h2, by rw [h1]; exact h3, by rw [h1]; exact h4⟩)
  have c0 : w.cell? ⟨b, 0, none⟩ = some x := hbk.cell 0
  have HLt := Lib.hid hbk.lt
  generalize TPutEnd w (Trie.del t (Nib.of key)) (Trie.getW t key).2 = P at HP ⊢
  have refused : ∀ c : Nat, c ≠ 0 → Trie.getW t key = ([], c) → (c = 1 ∨ c = 5) → Calls Tryd.prog 65 #[.pointer (some ⟨b, 0, none⟩), .string ⟨key.toArray⟩] w P := by
    intro c hc0 hgw hcc
    rw [hgw] at HGet0
    have HG := Lib.hid HGet0
    have HR := Lib.hid hgw
    clear hgw HGet0 hk hg hbk hT hc
    rcases hcc with rfl | rfl
    · go_enter Tryd.func65, Tryd.ntmps65
      go_wp2_with (go_at_call 43; refine HG.out.mono ?_; rintro e w1 ⟨rfl, hb1⟩)
      exact HP.out 1 _ _ (by rw [HR.out]) hb1 (fun h => by simp at h) (fun _ => rfl)
    · go_enter Tryd.func65, Tryd.ntmps65
      go_wp2_with (go_at_call 43; refine HG.out.mono ?_; rintro e w1 ⟨rfl, hb1⟩)
      exact HP.out 5 _ _ (by rw [HR.out]) hb1 (fun h => by simp at h) (fun _ => rfl)
  cases hkey : Trie.keyedW key with
  | false => exact refused 1 (by simp) (by simp [Trie.getW, hkey]) (.inl rfl)
  | true =>
  by_cases hlk : Trie.look t (Nib.of key) = []
  · exact refused 5 (by simp) (by simp [Trie.getW, hkey, hlk]) (.inr rfl)
  · have hk8 := (Trie.keyed_len hkey).1
    have hgw : Trie.getW t key = (Trie.look t (Nib.of key), 0) := by simp [Trie.getW, hkey, hlk]
    rw [hgw] at HGet0
    have HG := Lib.hid HGet0
    have HR := Lib.hid hgw
    have HOf : Hid (∀ W, Calls Tryd.prog 56 #[.string ⟨key.toArray⟩] W fun e w' => e = .returned (.string ⟨(Nib.of key).toArray⟩) ∧ Below W.heap.size W w') := Lib.hid (fun W => nib_Of key W (by omega))
    have HGd := Lib.hid (hg.del hlk)
    have htn : t ≠ .nil := fun e => by rw [e] at hlk; exact hlk rfl
    obtain ⟨b2, rfl⟩ := hk.ptr htn
    clear refused HGet0 hgw hkey htn
    by_cases hn : Trie.del t (Nib.of key) = .nil
    · have HN := Lib.hid hn
      have HDel : Hid (∀ W, Below w.heap.size w W → Calls Tryd.prog 88 #[(.pointer (some ⟨b2, 0, none⟩)), .string ⟨(Nib.of key).toArray⟩] W (KnotEnd W (Trie.del t (Nib.of key)))) := Lib.hid (fun W hW => trie_del t (Nib.of key) _ W hg.wf hg.small (by omega) (Nib.fit_of key) (by rw [Nib.of_length]; omega) hlk (hT.next hW) (hk.next hW))
      clear hk hg hbk hT hc hlk hn
      go_enter Tryd.func65, Tryd.ntmps65
      go_upto_region 4 with (go_at_call 43; refine (HG.out).mono ?_; rintro e w1 ⟨rfl, hb1⟩)
      have HB1 := Lib.hid hb1
      have c1 := (hb1.cell (p := ⟨b, 0, none⟩) HLt.out).trans c0
      have HLt1 := Lib.hid (Nat.lt_of_lt_of_le HLt.out hb1.size)
      clear hb1 c0
      go_region_held3 (fun w' => w'.cell? ⟨b, 0, none⟩ = some (.pointer (some ⟨b2, 0, none⟩))) (first | go_keep | assumption | exact (((Below.refl _ _).alloc (Nat.le_refl _) _).drew.cell (p := ⟨b, 0, none⟩) (Nat.lt_of_lt_of_le HLt1.out (hb2.nxt hb3).size)).trans d2 | exact (((Below.refl _ _).alloc (Nat.le_refl _) _).cell (p := ⟨b, 0, none⟩) (Nat.lt_of_lt_of_le HLt1.out (hb2.nxt hb3).size)).trans d2) (first | (go_at_call 56; refine (HOf.out _).mono ?_; rintro e w2 ⟨rfl, hb⟩; have hb2 : Below w1.heap.size w1 w2 := (by first | exact hb | exact hb.start); clear hb; have d1 := (hb2.cell (p := ⟨b, 0, none⟩) HLt1.out).trans c1) | (go_at_call 88; refine (HDel.out _ (by first | exact HB1.out.nxt hb2 | exact (HB1.out.nxt hb2).drew)).mono ?_; rintro e w3 ⟨x, rfl, hk3, hb⟩; obtain rfl := hk3.nil_iff.1 HN.out; have hb3 : Below w2.heap.size w2 w3 := (by first | exact hb | exact hb.start); clear hb; have d2 := (hb3.cell (p := ⟨b, 0, none⟩) (Nat.lt_of_lt_of_le HLt1.out hb2.size)).trans d1))
      go_wp2
      have hw4 : Below w3.heap.size w3 (w3.alloc (.cells #[.pointer none] 98)) := by go_grown
      exact HP.out 0 _ _ (by rw [HR.out]) (HB1.out.nxt (hb2.nxt (hb3.nxt hw4))) (fun _ => ⟨HGd.out, _, _, rfl, Blk.new _ _ _, hk3.next hw4⟩) (fun h => absurd rfl h)
    · have HN := Lib.hid hn
      have HDel : Hid (∀ W, Below w.heap.size w W → Calls Tryd.prog 88 #[(.pointer (some ⟨b2, 0, none⟩)), .string ⟨(Nib.of key).toArray⟩] W (KnotEnd W (Trie.del t (Nib.of key)))) := Lib.hid (fun W hW => trie_del t (Nib.of key) _ W hg.wf hg.small (by omega) (Nib.fit_of key) (by rw [Nib.of_length]; omega) hlk (hT.next hW) (hk.next hW))
      clear hk hg hbk hT hc hlk hn
      go_enter Tryd.func65, Tryd.ntmps65
      go_upto_region 4 with (go_at_call 43; refine (HG.out).mono ?_; rintro e w1 ⟨rfl, hb1⟩)
      have HB1 := Lib.hid hb1
      have c1 := (hb1.cell (p := ⟨b, 0, none⟩) HLt.out).trans c0
      have HLt1 := Lib.hid (Nat.lt_of_lt_of_le HLt.out hb1.size)
      clear hb1 c0
      go_region_held3 (fun w' => w'.cell? ⟨b, 0, none⟩ = some (.pointer (some ⟨b2, 0, none⟩))) (first | go_keep | assumption | exact (((Below.refl _ _).alloc (Nat.le_refl _) _).drew.cell (p := ⟨b, 0, none⟩) (Nat.lt_of_lt_of_le HLt1.out (hb2.nxt hb3).size)).trans d2 | exact (((Below.refl _ _).alloc (Nat.le_refl _) _).cell (p := ⟨b, 0, none⟩) (Nat.lt_of_lt_of_le HLt1.out (hb2.nxt hb3).size)).trans d2) (first | (go_at_call 56; refine (HOf.out _).mono ?_; rintro e w2 ⟨rfl, hb⟩; have hb2 : Below w1.heap.size w1 w2 := (by first | exact hb | exact hb.start); clear hb; have d1 := (hb2.cell (p := ⟨b, 0, none⟩) HLt1.out).trans c1) | (go_at_call 88; refine (HDel.out _ (by first | exact HB1.out.nxt hb2 | exact (HB1.out.nxt hb2).drew)).mono ?_; rintro e w3 ⟨x, rfl, hk3, hb⟩; obtain ⟨b3, rfl⟩ := hk3.ptr HN.out; have hb3 : Below w2.heap.size w2 w3 := (by first | exact hb | exact hb.start); clear hb; have d2 := (hb3.cell (p := ⟨b, 0, none⟩) (Nat.lt_of_lt_of_le HLt1.out hb2.size)).trans d1))
      go_wp2
      have hw4 : Below w3.heap.size w3 (w3.alloc (.cells #[.pointer (some ⟨b3, 0, none⟩)] 98)) := by go_grown
      exact HP.out 0 _ _ (by rw [HR.out]) (HB1.out.nxt (hb2.nxt (hb3.nxt hw4))) (fun _ => ⟨HGd.out, _, _, rfl, Blk.new _ _ _, hk3.next hw4⟩) (fun h => absurd rfl h)
end Go.Proofs.YtefcmigbdfeaiaaDoor
