import Derived.Test.YtefcmigbdfeaiaaDoorJ21
import Derived.Test.YtefcmigbdfeaiaaDoorRows
import Derived.Test.YtefcmigbdfeaiaaDoorJ03
import Derived.WideKeyArgs
import Derived.ProofKit
import Derived.OpenShut
import Derived.Deep.DeepHandedRow
import Derived.Lib.LaidTab
import Derived.LaidSub
import Derived.Lib.SmallJoins
import Derived.Test.YtefcmigbdfeaiaaDoorJ09
set_option linter.unusedSimpArgs false
set_option linter.unusedVariables false
/- The walks of layer 10 (trie): del, at a branch. No conditions. -/
namespace Go.Proofs.YtefcmigbdfeaiaaDoor
set_option linter.unusedVariables false
open Go.RowKit Go.Instr
attribute [local go_sem] ba_get ByteArray.mk_append_mk
attribute [local go_sem ↓] Go.wp_at_zero Go.wp_at_succ



set_option maxRecDepth 100000 in
set_option maxHeartbeats 4000000 in
theorem del_own (v0 : List UInt8) (kids : Fin 16 → Trie.T) (hw : Trie.wf (Trie.shrunk [] kids)) (hs : Trie.small (Trie.shrunk [] kids)) (hc : Trie.count (Trie.shrunk [] kids) ≤ 1000000) (g : Nat) (ps : List Value) (hps : ps.length = 16) (w : World) (hT : Tbl w)
    (hbk : Blk w g 101 (knotC (.branch v0 kids) ps).toArray) (hks : ∀ i : Fin 16, KnotP w (kids i) (ps.getD i.val undef)) :
    Calls Tryd.prog 88 #[.pointer (some ⟨g, 0, none⟩), .string ⟨#[]⟩] w (KnotEnd w (Trie.shrunk [] kids)) := by
  have HP : Hid (∀ x w', KnotP w' (Trie.shrunk [] kids) x → Below w.heap.size w w' → KnotEnd w (Trie.shrunk [] kids) (.returned x) w') := Lib.hid (fun x w' h1 h2 => ⟨x, rfl, h1, h2⟩)
  have HW := Lib.hid (And.intro hw (And.intro hs hc))
  have HTb := Lib.hid hT
  generalize KnotEnd w (Trie.shrunk [] kids) = P at HP ⊢
  clear hw hs hc hT
  obtain ⟨⟨c0, c1, c2, _, _⟩, kr, _, _, _, _⟩ := KnotAt.of (Trie.sumsT_length _) hps hbk
  rename_i j1 j2 j4 j5 j6 j7
  replace c0 : w.cell? ⟨g, 0, none⟩ = some (.int .i64 3) := c0
  replace c2 : w.cell? ⟨g, 2, none⟩ = some (.string ⟨v0.toArray⟩) := c2
  have HA := kids_one hps hks
  have SZR : (Tryd.prog.info? 99).map (·.size) = some ps.length := by rw [hps]; exact info_ptrs
  have HU := Tryd.underlying99
  have HLt := Lib.hid hbk.lt
  have HCp := Lib.hid (KidsIn.copied hps hks)
  have HTh : (w.alloc (.cells #[.pointer none, .pointer none, .pointer none, .pointer none, .pointer none, .pointer none, .pointer none, .pointer none, .pointer none, .pointer none, .pointer none, .pointer none, .pointer none, .pointer none, .pointer none, .pointer none] 99)).drew.there w.heap.size 0 16 := there_new _ _ _ _ (Nat.le_refl 16)
  clear j1 j2 j4 j5 j6 j7 hbk hks c1
  go_enter Tryd.func88, Tryd.ntmps88
  go_upto_region 5 with fail
  go_region_held3 (fun w' => w'.cell? ⟨g, 2, none⟩ = some (.string ⟨v0.toArray⟩) ∧ w'.rangeAt g 19 ps) (first | go_keep_ranges | exact held_alloc c2 kr HLt.out _ | exact held_setCells (held_alloc c2 kr HLt.out _) (by have := HLt.out; omega) | (constructor <;> assumption)) (fail)
  clear HTh HA SZR HU hps kr c0 c2
  have HCp2 := Lib.hid HCp.out
  clear HCp
  rename_i hHeld
  clear hHeld
  generalize World.setCells _ w.heap.size 0 ps = wc at HCp2 ⊢
  have hKI := HCp2.out
  clear HCp2
  go_upto_region 10 with fail
  have HKI := Lib.hid hKI
  clear hKI
  obtain ⟨ps1, k1, k2, k3, k4⟩ := HKI.out
  have HX := Lib.hid (And.intro k1 (And.intro k2 (And.intro k3 k4)))
  have RP := k2.range
  have SZQ : (Tryd.prog.info? 99).map (·.size) = some ps1.length := by rw [k1]; exact info_ptrs
  clear k1 k2 k3 k4
  go_wp2_with (with_reducible refine at_load 66 ?_; refine wpList_load_mid rfl 99 _ rfl w.heap.size 0 rfl _ _ RP Tryd.underlying99 rfl SZQ ?_)
  refine del_loop kids ps1 HX.out.1 wc _ (fun i => HX.out.2.2.1 i) _ w.heap.size _ ?_ _ _ _ _ _ _ _ _ _ _ _ _ _ _ _ _ _ _ _ _ _ _ _ _ _ _ _ _ _ _ _ _ _ _ _ _ _ _ _ _ _ _ _ _ _ _ _ _ _ _ _ _ _ _ _ _ _ _ _ _ _ _ _ _ _ _ _ _ _ _ _ _ _ _ _ _ _ _ _ _ _ _ _ _ _ _ _ _ _ _ _ _ _ _
  intro s0 s1 s2 s3 s4 s9 s10 s11 s12 s13 s14 s15 s16 s17 s18 s19 s20 s21 s22 s23 s24 s25 s26 s27 s28 s29 s30 s31 s32 s33 s34 s35 s36 s37 s38 s39 s40 s41 s42 s43 s44 s45 s46 s47 s48 s49 s50 s51 s52 s53 s54 s55 s56 s57 s58 s59 s60 s61 s62 s63 s64 s65 s66 s67 s68 s69 s70 s71 s72 s73 s74 s75 s76 s77 s78 s79 s80 s81 s82 s83 s84 s85 s86 s87 s88 s89 s90 s91 s92 s93 s94 s95 s96 s97 s98 s99 m l hm hl
  have Hm := Lib.hid hm
  have Hl := Lib.hid hl
  have hm16 : m ≤ 16 := by rw [hm]; unfold Trie.many; have := List.length_filter_le (fun i => !Trie.isNil ((kids) i)) (List.finRange 16); rw [List.length_finRange] at this; exact this
  have hl16 : l < 16 := by rw [hl]; exact (Trie.lastKid (kids)).isLt
  clear hm hl
  by_cases m0 : m = 0
  · have HR : Hid (Trie.shrunk ([] : List UInt8) (kids) = .leaf [] ([] : List UInt8)) := Lib.hid (by unfold Trie.shrunk; rw [if_pos (by rw [← Hm.out]; exact m0)])
    subst m0
    have HLf : Hid (∀ W, Below w.heap.size w W → Calls Tryd.prog 104 #[.string ⟨#[]⟩, .string ⟨(([] : List UInt8)).toArray⟩] W (KnotEnd W (Trie.shrunk ([] : List UInt8) (kids)))) := Lib.hid (fun W hW => by
      have h1 := HW.out.1; have h2 := HW.out.2.1
      rw [HR.out] at h1 h2 ⊢
      exact trie_leaf [] ([] : List UInt8) h1 h2 W (HTb.out.next hW))
    clear RP SZQ
    go_wp2_with (go_at_call 104; refine (HLf.out _ HX.out.2.2.2).mono ?_; rintro e w5 ⟨x, rfl, hk, hb⟩)
    exact HP.out _ _ hk (HX.out.2.2.2.nxt hb)
  · have em0 : ((m : Int) == 0) = false := by rw [beq_eq_false_iff_ne]; omega
    by_cases m1 : m = 1 ∧ ([] : List UInt8) = []
    · obtain ⟨m1, hvv⟩ := m1
      have HR : Hid (Trie.shrunk ([] : List UInt8) (kids) = Trie.joined [UInt8.ofNat (Trie.lastKid (kids)).val] ((kids) (Trie.lastKid (kids)))) := Lib.hid (by unfold Trie.shrunk; rw [if_neg (by rw [← Hm.out]; exact m0), if_pos ⟨by rw [← Hm.out]; exact m1, hvv⟩])
      have hone := Trie.lastKid_one (show Trie.many (kids) = 1 by rw [← Hm.out]; exact m1)
      have hln : (kids) (Trie.lastKid (kids)) ≠ .nil := fun e => by have := hone.1; rw [e] at this; simp [Trie.isNil] at this
      have hkl := HX.out.2.2.1 (Trie.lastKid (kids))
      rw [← Hl.out] at hkl
      obtain ⟨b2, hy⟩ := hkl.ptr hln
      rw [hy] at hkl
      have cl : wc.cell? ⟨w.heap.size, l, none⟩ = some (.pointer (some ⟨b2, 0, none⟩)) := by
        have h2 := HX.out.2.1.cell l
        have h16 := HX.out.1
        rw [h2, ← hy, List.getD_eq_getElem?_getD, List.getElem?_toArray, List.getElem?_eq_getElem (by omega)]
        rfl
      have HJ : Hid (∀ W, Below wc.heap.size wc W → Calls Tryd.prog 106 #[.string ⟨#[UInt8.ofNat l]⟩, .pointer (some ⟨b2, 0, none⟩)] W (KnotEnd W (Trie.shrunk ([] : List UInt8) (kids)))) := Lib.hid (fun W hW => by
        have h1 := HW.out.1; have h2 := HW.out.2.1; have h3 := HW.out.2.2
        rw [HR.out] at h1 h2 h3 ⊢
        rw [Trie.count_joined] at h3
        have := trie_joined [UInt8.ofNat (Trie.lastKid (kids)).val] _ hln h1 h2 h3 _ W (HTb.out.next (HX.out.2.2.2.nxt hW)) (hkl.next hW)
        rw [← Hl.out] at this
        rw [← Hl.out]
        exact this)
      have HLt : Hid (w.heap.size < wc.heap.size) := Lib.hid HX.out.2.1.lt
      have Hv0 := Lib.hid hvv
      subst m1
      have hli : (l : Int) < 16 := by omega
      have hlx : (0 : Int) ≤ l := by omega
      have cv := conv1d wc (l : Int) hlx (by omega)
      have cv2 := conv1 wc (l : Int) hlx (by omega)
      rw [show UInt8.ofNat ((l : Int)).toNat = UInt8.ofNat l by congr 1] at cv cv2
      clear RP SZQ hkl hy hone hln m0
      skip
      have ew : IntKind.u8.wrap (l : Int) = (l : Int) := IntWalk.u8_in _ (by omega)
      rw [← ew] at cv cv2
      clear ew
      have hal : ∀ o : Obj, (wc.alloc o).drew.cell? ⟨w.heap.size, l, none⟩ = some (.pointer (some ⟨b2, 0, none⟩)) := fun o => (((Below.refl _ _).alloc (Nat.le_refl _) _).drew.cell (p := ⟨w.heap.size, l, none⟩) HLt.out).trans cl
      go_upto_region 19 with fail
      go_region_with (go_at_call 106; refine (HJ.out _ (by first | exact ((Below.refl _ _).alloc (Nat.le_refl _) _).drew | exact ((Below.refl _ _).alloc (Nat.le_refl _) _) | exact (Below.refl _ _).drew)).mono ?_; rintro e w5 ⟨x, rfl, hk, hb⟩; have hb5 : Below wc.heap.size wc w5 := ((((Below.refl _ _).alloc (Nat.le_refl _) _).drew).trans (hb.mono (by simp))); clear hb)
      all_goals go_wp2
      all_goals go_ret
      all_goals exact HP.out _ _ hk (HX.out.2.2.2.nxt hb5)
    · have HR : Hid (Trie.shrunk ([] : List UInt8) (kids) = .branch ([] : List UInt8) (kids)) := Lib.hid (by unfold Trie.shrunk; rw [if_neg (by rw [← Hm.out]; exact m0), if_neg (by rw [← Hm.out]; exact m1)])
      have HBr : Hid (∀ W, Below wc.heap.size wc W → Calls Tryd.prog 105 #[.string ⟨(([] : List UInt8)).toArray⟩, .agg ps1.toArray] W (KnotEnd W (Trie.shrunk ([] : List UInt8) (kids)))) := Lib.hid (fun W hW => by
        have h1 := HW.out.1; have h2 := HW.out.2.1; have h3 := HW.out.2.2
        rw [HR.out] at h1 h2 h3 ⊢
        exact trie_branch _ _ h1 h2 h3 ps1 HX.out.1 W (HTb.out.next (HX.out.2.2.2.nxt hW)) (fun i => (HX.out.2.2.1 i).next hW))
      by_cases m1' : m = 1
      · have hvn : ¬ ([] : List UInt8) = [] := fun e => m1 ⟨m1', e⟩
        subst m1'
        clear m1 m0
        first | exact absurd rfl hvn | skip
        all_goals have ne1 : ((([] : List UInt8)).toArray = #[]) = False := by simp [hvn]
        all_goals have ne2 : (([] : List UInt8)).isEmpty = false := by simp [hvn]
        all_goals go_wp2_with (first | (with_reducible refine at_load 98 ?_; refine wpList_load_mid rfl 99 _ rfl w.heap.size 0 rfl _ _ RP Tryd.underlying99 rfl SZQ ?_) | (go_at_call 105; refine (HBr.out _ (Below.refl _ _)).mono ?_; rintro e w5 ⟨x, rfl, hk, hb⟩))
        all_goals exact HP.out _ _ hk (HX.out.2.2.2.nxt hb)
      · have em1 : ((m : Int) == 1) = false := by rw [beq_eq_false_iff_ne]; omega
        clear m1 m0 m1'
        go_wp2_with (first | (with_reducible refine at_load 98 ?_; refine wpList_load_mid rfl 99 _ rfl w.heap.size 0 rfl _ _ RP Tryd.underlying99 rfl SZQ ?_) | (go_at_call 105; refine (HBr.out _ (Below.refl _ _)).mono ?_; rintro e w5 ⟨x, rfl, hk, hb⟩))
        exact HP.out _ _ hk (HX.out.2.2.2.nxt hb)
end Go.Proofs.YtefcmigbdfeaiaaDoor

/- What the statements of this seat share: the sums' table, laid, and a world that has it. No conditions. -/
namespace Go.Proofs.YtefcmigbdfeaiaaDoor.rowHead
open Go.ChangeShapes Go.WideShapes Go.ChangeAt Go.RowKit Go.ChangeMaps
set_option linter.unusedVariables false

theorem own : ownKnob Tryd.prog.godebug = none := by kernel_rfl
theorem gTab : Tryd.prog.globalNamed "pharos/sha.k" = some 0 := by kernel_rfl
theorem gTabType : (Tryd.prog.globals[0]?).map (·.type) = some 190 := by kernel_rfl
theorem cellsTab : Tryd.prog.cellsOf 190 = 64 := by kernel_rfl
theorem cellsOne : Tryd.prog.cellsOf 151 = 1 := by kernel_rfl
def kTab : List Int := kW.map fun x => (x.toNat : Int)
theorem kTab_len : kTab.length = 64 := by decide +kernel
theorem kW_len : kW.length = 64 := by decide +kernel
theorem kTab_at (i : Nat) (hi : i < 64) : kTab.getD i 0 = ((kW.getD i 0).toNat : Int) := by
  unfold kTab
  have hk : i < kW.length := by rw [kW_len]; exact hi
  generalize kW = l at *
  rw [List.getD_eq_getElem?_getD, List.getD_eq_getElem?_getD, List.getElem?_map, List.getElem?_eq_getElem hk]
  rfl
theorem tbl_of {W : World} (h : laidMetH Tryd.prog [("pharos/sha.k", Lib.tabData .u32 kTab)] W) : Tbl W := fun i hi => by
  have h1 := (Lib.tabIs_of_head (rest := []) gTab gTabType Tryd.underlying190 Tryd.underlying151 cellsOne cellsTab h).cell gTab i (by rw [kTab_len]; exact hi)
  rw [h1, kTab_at i hi]
def putK : Obj → Obj
  | .cells _ t frozen => .cells (kTab.map (fun n => Value.int .u32 n)).toArray t frozen
  | o => o
/-- A world for the witness: the settled one, the table holding what its initialiser lays. -/
noncomputable def laidWorld (os : Os) : World :=
  { World.holding Tryd.prog os ⟨#[], #[], []⟩ with heap := (World.holding Tryd.prog os ⟨#[], #[], []⟩).heap.modify 0 putK }
end Go.Proofs.YtefcmigbdfeaiaaDoor.rowHead

/- The document's layer 1 (nibble): Of, Fit, Common, Side, Key. No conditions. -/
namespace Go.Proofs.YtefcmigbdfeaiaaDoor
set_option linter.unusedVariables false
open Go.RowKit
attribute [local go_sem] ba_get ByteArray.mk_append_mk
set_option maxRecDepth 100000 in
set_option maxHeartbeats 400000 in
theorem refnib_Of (s : List UInt8) (w : World) (hs : s.length ≤ 2000) :
    Calls Tryd.prog 52 #[.string ⟨s.toArray⟩] w fun e w' => e = .returned (.string ⟨(Nib.of s).toArray⟩) ∧ Below w.heap.size w w' := by
  go_enter Tryd.func52, Tryd.ntmps52
  go_wp2
  refine wp_loop_ghost_k (fun k a wr => ∀ Φ : Act → Prop, (∀ (s1 s2 s5 s6 s7 s8 s9 s10 s11 s12 s13 s14 s15 s16 s17 s18 s19 s20 s21 s22 s23 : Value) (i : Nat) (t : List UInt8), (i + k = s.length ∧ t.length = 2 * i ∧ t = Nib.of (s.take i) ∧ Below w.heap.size w wr) → Φ { tmps := #[.string ⟨s.toArray⟩, s1, s2, .string ⟨t.toArray⟩, .int .i64 i, s5, s6, s7, s8, s9, s10, s11, s12, s13, s14, s15, s16, s17, s18, s19, s20, s21, s22, s23], defers := [] }) → Φ a) (s.length) ?_ ?_
  · refine fun Φ hΦ => hΦ _ _ _ _ _ _ _ _ _ _ _ _ _ _ _ _ _ _ _ _ _ (0) ([]) ?_
    exact ⟨by omega, rfl, rfl, Below.refl _ _⟩
  · intro k1 a1 wr1 hI1 J1 K1 hJ1 hK1
    refine hI1 (fun a => Code.wp _ _ _ a _) ?_
    clear hI1 a1
    intro s0 s1 s2 s3 s4 s5 s6 s7 s8 s9 s10 s11 s12 s13 s14 s15 s16 s17 s18 s19 s20 i t hrel
    show Code.wp _ _ _ _ _
    obtain ⟨h1, h2, h3, hb⟩ := hrel
    have H3 := Lib.hid h3
    clear h3
    by_cases hi : i < s.length
    · go_wp2
      have hlt := s[i].toNat_lt
      have hq : IntKind.u8.wrap ((s[i].toNat : Int) / 16) = (s[i].toNat : Int) / 16 := IntWalk.u8_in _ (by omega)
      have hc := conv2d (wr1) ((s[i].toNat : Int) / 16) ((s[i].toNat : Int) % 16) (by omega) (by omega) (by omega) (by omega)
      have HE : Hid (t ++ [s[i] / 16, s[i] % 16] = Nib.of (s.take (i + 1))) := Lib.hid (by
        rw [List.take_succ_eq_append_getElem hi, Nib.of_snoc, H3.out])
      clear H3
      go_region
      go_wp2
      refine Handed.intro (s.length - (i + 1)) ?_ (hJ1 _ _ _ (fun Φ hΦ => hΦ _ _ _ _ _ _ _ _ _ _ _ _ _ _ _ _ _ _ _ _ _ (i + 1) (t ++ [s[i] / 16, s[i] % 16]) ?_))
      · omega
      · exact ⟨by omega, by simp; omega, HE.out, (hb.alloc hb.size _).drew⟩
    · have e : s.take i = s := List.take_of_length_le (by omega)
      have e2 : t = Nib.of s := by rw [H3.out, e]
      have E2 := Lib.hid e2
      clear e e2 H3
      go_wp2
      go_ret
      exact ⟨ret_string (by rw [E2.out]), hb⟩

set_option maxRecDepth 100000 in
set_option maxHeartbeats 400000 in
theorem refnib_Fit (s : List UInt8) (w : World) (hs : s.length ≤ 1048576) :
    Calls Tryd.prog 145 #[.string ⟨s.toArray⟩] w fun e w' => e = .returned (.bool (Nib.fit s)) ∧ w = w' := by
  go_enter Tryd.func145, Tryd.ntmps145
  go_wp2
  refine wp_loop_ghost_k (fun k a wr => ∀ Φ : Act → Prop, (∀ (s1 s2 s4 s5 s6 s7 s8 s9 s10 s11 s12 s13 : Value) (i : Nat), (i + k = s.length ∧ Nib.fit (s.take i) = true ∧ wr = w) → Φ { tmps := #[.string ⟨s.toArray⟩, s1, s2, .int .i64 i, s4, s5, s6, s7, s8, s9, s10, s11, s12, s13], defers := [] }) → Φ a) (s.length) ?_ ?_
  · refine fun Φ hΦ => hΦ _ _ _ _ _ _ _ _ _ _ _ _ (0) ?_
    exact ⟨by omega, rfl, rfl⟩
  · intro k1 a1 wr1 hI1 J1 K1 hJ1 hK1
    refine hI1 (fun a => Code.wp _ _ _ a _) ?_
    clear hI1 a1
    intro s0 s1 s2 s3 s4 s5 s6 s7 s8 s9 s10 s11 i hrel
    show Code.wp _ _ _ _ _
    obtain ⟨h1, h2, rfl⟩ := hrel
    have H2 := Lib.hid h2
    clear h2
    by_cases hi : i < s.length
    · have hlt := s[i].toNat_lt
      by_cases hc : s[i] ≤ 15
      · have hq : (s[i].toNat : Int) ≤ 15 := by rw [UInt8.le_iff_toNat_le] at hc; simp at hc; omega
        have HE : Hid (Nib.fit (s.take (i + 1)) = true) := Lib.hid (by rw [Nib.fit_take _ _ hi, H2.out]; simpa using hc)
        clear hc H2
        go_wp2
        refine Handed.intro (s.length - (i + 1)) ?_ (hJ1 _ _ _ (fun Φ hΦ => hΦ _ _ _ _ _ _ _ _ _ _ _ _ (i + 1) ?_))
        · omega
        · exact ⟨by omega, HE.out, rfl⟩
      · have hq : 15 < (s[i].toNat : Int) := by rw [UInt8.le_iff_toNat_le] at hc; simp at hc; omega
        have HE : Hid (Nib.fit s = false) := Lib.hid (Nib.fit_false hi hc)
        clear hc H2
        go_wp2
        go_ret
        exact ⟨by rw [HE.out]; rfl, rfl⟩
    · have HE : Hid (Nib.fit s = true) := Lib.hid (by have := H2.out; rwa [List.take_of_length_le (by omega)] at this)
      clear H2
      go_wp2
      go_ret
      exact ⟨by rw [HE.out]; rfl, rfl⟩

set_option maxRecDepth 100000 in
set_option maxHeartbeats 400000 in
theorem refnib_Common (x y : List UInt8) (w : World) (hx : x.length ≤ 1048576) (hy : y.length ≤ 1048576) :
    Calls Tryd.prog 82 #[.string ⟨x.toArray⟩, .string ⟨y.toArray⟩] w fun e w' => e = .returned (.int .i64 (Nib.common x y)) ∧ Below w.heap.size w w' := by
  go_enter Tryd.func82, Tryd.ntmps82
  go_wp2
  refine wp_loop_ghost_k (fun k a wr => ∀ Φ : Act → Prop, (∀ (s2 s3 s4 s6 s7 s8 s9 s10 s11 s12 s13 s14 s15 s16 s17 s18 s19 s20 s21 s22 s23 s24 s25 s26 s27 : Value) (i : Nat), (i + k = x.length ∧ i ≤ Nib.common x y ∧ Below w.heap.size w wr) → Φ { tmps := #[.string ⟨x.toArray⟩, .string ⟨y.toArray⟩, s2, s3, s4, .int .i64 i, s6, s7, s8, s9, s10, s11, s12, s13, s14, s15, s16, s17, s18, s19, s20, s21, s22, s23, s24, s25, s26, s27], defers := [] }) → Φ a) (x.length) ?_ ?_
  · refine fun Φ hΦ => hΦ _ _ _ _ _ _ _ _ _ _ _ _ _ _ _ _ _ _ _ _ _ _ _ _ _ (0) ?_
    exact ⟨by omega, by omega, Below.refl _ _⟩
  · intro k1 a1 wr1 hI1 J1 K1 hJ1 hK1
    refine hI1 (fun a => Code.wp _ _ _ a _) ?_
    clear hI1 a1
    intro s0 s1 s2 s3 s4 s5 s6 s7 s8 s9 s10 s11 s12 s13 s14 s15 s16 s17 s18 s19 s20 s21 s22 s23 s24 i hrel
    show Code.wp _ _ _ _ _
    obtain ⟨h1, h2, hb⟩ := hrel
    have hcl := Nib.common_le x y
    have fin : ∀ j, j = i → ¬ (i + 1 ≤ Nib.common x y) → Ending.returned (.int .i64 ((j : Nat) : Int)) = .returned (.int .i64 ((Nib.common x y : Nat) : Int)) := fun j e h => ret_int (by omega)
    have Fin := Lib.hid fin
    clear fin
    by_cases hi : i < x.length
    · by_cases hj : i < y.length
      · have hst := Nib.common_step h2 hi hj
        by_cases hc : x[i] = y[i]
        · have hq : ((x[i].toNat : Int) == (y[i].toNat : Int)) = true := by rw [hc]; simp
          have h3 := hst.2 hc
          clear hst hc
          go_wp2
          go_quiet (fail)
          go_wp2
          refine Handed.intro (x.length - (i + 1)) ?_ (hJ1 _ _ _ (fun Φ hΦ => hΦ _ _ _ _ _ _ _ _ _ _ _ _ _ _ _ _ _ _ _ _ _ _ _ _ _ (i + 1) ?_))
          · omega
          · exact ⟨by omega, h3, below_drewN hb _⟩
        · have hq : ((x[i].toNat : Int) == (y[i].toNat : Int)) = false := by
            rw [beq_eq_false_iff_ne]; intro e; exact hc (UInt8.toNat_inj.1 (by omega))
          have h3 := mt hst.1 hc
          have F := Lib.hid (Fin.out i rfl h3)
          clear hst hc h3 Fin
          go_wp2
          go_quiet (fail)
          go_wp2
          go_ret
          exact ⟨F.out, below_drewN hb _⟩
      · have F := Lib.hid (Fin.out i rfl (by omega))
        have hq : decide ((i : Int) < (y.length : Int)) = false := by simp; omega
        clear Fin
        go_wp2
        go_quiet (fail)
        go_wp2
        go_ret
        exact ⟨F.out, below_drewN hb _⟩
    · have F := Lib.hid (Fin.out i rfl (by omega))
      have hq : decide ((i : Int) < (x.length : Int)) = false := by simp; omega
      clear Fin
      go_wp2
      go_quiet (fail)
      go_wp2
      go_ret
      exact ⟨F.out, below_drewN hb _⟩


set_option maxRecDepth 100000 in
set_option maxHeartbeats 400000 in
theorem refnib_Side (x y : List UInt8) (w : World) (hx : x.length ≤ 1048576) (hy : y.length ≤ 1048576) :
    Calls Tryd.prog 85 #[.string ⟨x.toArray⟩, .string ⟨y.toArray⟩] w fun e w' => e = .returned (.int .i64 (Nib.side x y)) ∧ Below w.heap.size w w' := by
  go_enter Tryd.func85, Tryd.ntmps85
  go_wp2
  · have h := ‹(!Op.bytesLess x y) = true›
    go_ret
    exact ⟨ret_int (by rw [Nib.side_eq, if_pos (by simpa using h)]), Below.refl _ _⟩
  · have h := ‹(!Op.bytesLess x y) = false›
    have h2 := ‹x.length ≤ y.length›
    have h3 := ‹((({ data := y.toArray } : ByteArray).extract 0 x.length).toList == x) = true›
    rw [ByteArray.extract_mk, ByteArray.toList_mk] at h3
    go_ret
    exact ⟨ret_int (by rw [Nib.side_eq, if_neg (by simpa using h), if_pos ⟨h2, by simpa using h3⟩]), Below.refl _ _⟩
  · have h := ‹(!Op.bytesLess x y) = false›
    have h3 := ‹((({ data := y.toArray } : ByteArray).extract 0 x.length).toList == x) = false›
    rw [ByteArray.extract_mk, ByteArray.toList_mk] at h3
    go_ret
    exact ⟨ret_int (by rw [Nib.side_eq, if_neg (by simpa using h), if_neg (fun hh => by simp [hh.2] at h3)]), Below.refl _ _⟩
  · have h := ‹(!Op.bytesLess x y) = false›
    have h2 := ‹¬ x.length ≤ y.length›
    go_ret
    exact ⟨ret_int (by rw [Nib.side_eq, if_neg (by simpa using h), if_neg (fun hh => h2 hh.1)]), Below.refl _ _⟩

set_option maxRecDepth 100000 in
set_option maxHeartbeats 400000 in
theorem refnib_Key (s : List UInt8) (w : World) (hs : s.length ≤ 1048576) :
    Calls Tryd.prog 147 #[.string ⟨s.toArray⟩] w fun e w' => e = .returned (.tuple #[.string ⟨(Nib.key s).1.toArray⟩, .int .i64 (Nib.key s).2]) ∧ Below w.heap.size w w' := by
  by_cases hf : Nib.fit s = true
  · by_cases hp : s.length % 2 = 1
    · have HE : Hid (Nib.key s = ([], 4)) := Lib.hid (by unfold Nib.key; rw [if_pos hf, if_pos hp])
      have hq : (((s.length : Nat) : Int) % 2 != 0) = true := by rw [bne_iff_ne]; omega
      have HF := Lib.hid hf
      clear hf hp
      go_enter Tryd.func147, Tryd.ntmps147
      go_wp2_with fail
      refine (refnib_Fit s _ hs).mono ?_
      rintro e w1 ⟨rfl, rfl⟩
      rw [HF.out]
      go_wp2
      go_ret2
      exact ⟨by rw [HE.out]; rfl, Below.refl _ _⟩
    · have HE : Hid (Nib.key s = (Nib.joined s, 0)) := Lib.hid (by unfold Nib.key; rw [if_pos hf, if_neg hp])
      have hq : (((s.length : Nat) : Int) % 2 != 0) = false := by simp; omega
      have hfit : ∀ i, (h : i < s.length) → s[i] ≤ 15 := fun i h => by
        unfold Nib.fit at hf; rw [List.all_eq_true] at hf; simpa using hf s[i] (List.getElem_mem h)
      have HG := Lib.hid hfit
      have HF := Lib.hid hf
      clear hf hfit
      go_enter Tryd.func147, Tryd.ntmps147
      go_wp2_with fail
      refine (refnib_Fit s _ hs).mono ?_
      rintro e w1 ⟨rfl, rfl⟩
      rw [HF.out]
      go_wp2
      refine wp_loop_ghost_k (fun k a wr => ∀ Φ : Act → Prop, (∀ (s1 s2 s6 s7 s8 s9 s10 s11 s12 s13 s14 s15 s16 s17 s18 s19 s20 s21 s22 s23 s24 s25 s26 s27 s28 s29 s30 s31 s32 : Value) (i : Nat) (t : List UInt8), (2 * i + k = s.length ∧ t.length = i ∧ t = Nib.joined (s.take (2 * i)) ∧ Below w.heap.size w wr) → Φ { tmps := #[.string ⟨s.toArray⟩, s1, s2, .int .i64 0, .string ⟨t.toArray⟩, .int .i64 (2 * i : Nat), s6, s7, s8, s9, s10, s11, s12, s13, s14, s15, s16, s17, s18, s19, s20, s21, s22, s23, s24, s25, s26, s27, s28, s29, s30, s31, s32], defers := [] }) → Φ a) (s.length) ?_ ?_
      · refine fun Φ hΦ => hΦ _ _ _ _ _ _ _ _ _ _ _ _ _ _ _ _ _ _ _ _ _ _ _ _ _ _ _ _ _ (0) ([]) ?_
        exact ⟨by omega, rfl, rfl, Below.refl _ _⟩
      · intro k1 a1 wr1 hI1 J1 K1 hJ1 hK1
        refine hI1 (fun a => Code.wp _ _ _ a _) ?_
        clear hI1 a1
        intro s0 s1 s2 s3 s4 s5 s6 s7 s8 s9 s10 s11 s12 s13 s14 s15 s16 s17 s18 s19 s20 s21 s22 s23 s24 s25 s26 s27 s28 i t hrel
        show Code.wp _ _ _ _ _
        obtain ⟨h1, h2, h3, hb⟩ := hrel
        have H3 := Lib.hid h3
        clear h3
        by_cases hi : 2 * i < s.length
        · have h4 : 2 * i + 1 < s.length := by omega
          obtain ⟨bb, hbb⟩ : ∃ bb, bb = s[2 * i] * 16 + s[2 * i + 1] := ⟨_, rfl⟩
          have HE : Hid (t ++ [bb] = Nib.joined (s.take (2 * (i + 1)))) := Lib.hid (by have := Nib.joined_take s i h4; rw [← H3.out, ← hbb] at this; exact this.symm)
          have q9 := u8_pack2 s[2 * i] s[2 * i + 1] (HG.out _ _) (HG.out _ _)
          rw [← hbb] at q9
          clear hbb
          have q2 : IntKind.i64.wrap (2 * (i : Int) + 1) = 2 * (i : Int) + 1 := IntWalk.i64_in _ (by omega)
          have q3 : (2 * (i : Int)).toNat = 2 * i := by omega
          have q4 : (2 * (i : Int) + 1).toNat = 2 * i + 1 := by omega
          have q5 : 2 * (i : Int) < (s.length : Int) := by omega
          have q6 : 2 * (i : Int) + 1 < (s.length : Int) := by omega
          have q7 : 0 ≤ 2 * (i : Int) := by omega
          have q8 : 0 ≤ 2 * (i : Int) + 1 := by omega
          have q10 : ¬ 9223372036854775807 < i + 1 := by omega
          have hc := conv1d wr1 (bb.toNat : Int) (by omega) (by have := bb.toNat_lt; omega)
          go_wp2
          go_region
          all_goals go_wp2
          all_goals (refine Handed.intro (s.length - (2 * i + 2)) ?_ (hJ1 _ _ _ (fun Φ hΦ => hΦ _ _ _ _ _ _ _ _ _ _ _ _ _ _ _ _ _ _ _ _ _ _ _ _ _ _ _ _ _ (i + 1) (t ++ [bb]) ?_)))
          any_goals omega
          all_goals exact ⟨by omega, by simp; omega, HE.out, (hb.alloc hb.size _).drew⟩
        · have HE2 : Hid (t = Nib.joined s) := Lib.hid (by rw [H3.out, List.take_of_length_le (by omega)])
          have q5 : ¬ 2 * (i : Int) < (s.length : Int) := by omega
          clear H3
          go_wp2
          go_ret2
          exact ⟨by rw [HE.out, HE2.out]; rfl, hb⟩
  · have HE : Hid (Nib.key s = ([], 3)) := Lib.hid (by unfold Nib.key; rw [if_neg hf])
    have HF := Lib.hid (show Nib.fit s = false by simpa using hf)
    clear hf
    go_enter Tryd.func147, Tryd.ntmps147
    go_wp2_with fail
    refine (refnib_Fit s _ hs).mono ?_
    rintro e w1 ⟨rfl, rfl⟩
    rw [HF.out]
    go_wp2
    go_ret2
    exact ⟨by rw [HE.out]; rfl, Below.refl _ _⟩
end Go.Proofs.YtefcmigbdfeaiaaDoor
