import Derived.Test.YtcjafcbekegmlaaGreatDoorJ47
import Derived.Test.YtcjafcbekegmlaaGreatDoorJ44
import Derived.Test.YtcjafcbekegmlaaGreatDoorJ25
import Derived.Test.YtcjafcbekegmlaaGreatDoorJ40
import Derived.Test.YtcjafcbekegmlaaGreatDoorJ27
import Derived.Test.YtcjafcbekegmlaaGreatDoorJ32
import Derived.Test.YtcjafcbekegmlaaGreatDoorJ28
set_option linter.unusedSimpArgs false
set_option linter.unusedVariables false
namespace Go.Proofs.YtcjafcbekegmlaaGreatDoor
set_option linter.unusedVariables false
open Go.RowKit Go.Instr
attribute [local go_sem] ba_get ByteArray.mk_append_mk
attribute [local go_sem ↓] Go.wp_at_zero Go.wp_at_succ
theorem item_read14 {w : World} {B : Nat} {A : Option Addr} {l : List Trie.KV} (h : Reads w B 2 A l.length (icells l)) {i : Nat} (hi : i < l.length) :
    ∃ ad off, A = some ⟨ad, off, none⟩ ∧ ad < B ∧ ∀ w', Below B w w' → w'.cell? ⟨ad, off + i * 2, none⟩ = some (.string ⟨l[i].1.toArray⟩) ∧ w'.cell? ⟨ad, off + i * 2 + 1, none⟩ = some (.string ⟨l[i].2.toArray⟩) := by
  have hil := icells_length l
  have ic := icells_at hi
  obtain ⟨ad, off, rfl, hbl, hcell⟩ := h.form (by omega) (by omega)
  have e0 : (icells l)[2 * i]'(by omega) = .string ⟨l[i].1.toArray⟩ := by
    have := ic.1; rw [List.getElem?_eq_getElem (by omega)] at this; exact Option.some.inj this
  have e1 : (icells l)[2 * i + 1]'(by omega) = .string ⟨l[i].2.toArray⟩ := by
    have := ic.2; rw [List.getElem?_eq_getElem (by omega)] at this; exact Option.some.inj this
  have q0 := hcell (2 * i) (by omega)
  have q1 := hcell (2 * i + 1) (by omega)
  rw [e0] at q0
  rw [e1] at q1
  refine ⟨ad, off, rfl, hbl, fun w' hb => ⟨?_, ?_⟩⟩
  · rw [show i * 2 = 2 * i by omega]; exact (hb.cell (p := ⟨ad, off + 2 * i, none⟩) hbl).trans q0
  · rw [show off + i * 2 + 1 = off + (2 * i + 1) by omega]; exact (hb.cell (p := ⟨ad, off + (2 * i + 1), none⟩) hbl).trans q1
def someU : Trie.T → List Trie.KV → Trie.T
  | t, [] => t
  | t, x :: l => someU (if Trie.putCode x.1 x.2 = 0 then Trie.put t (Nib.of x.1) x.2 else t) l
def fewU (L : List Trie.KV) : Trie.T := someU .nil (L.take 30)
theorem someU_good : ∀ (l : List Trie.KV) (t : Trie.T), Trie.Good t → Trie.Good (someU t l) ∧ Trie.count (someU t l) ≤ Trie.count t + l.length
  | [], t, h => ⟨h, by simp [someU]⟩
  | x :: l, t, h => by
    unfold someU
    by_cases hp : Trie.putCode x.1 x.2 = 0
    · rw [if_pos hp]
      obtain ⟨a1, a2, a3⟩ := Trie.putCode_zero hp
      obtain ⟨b1, b2⟩ := someU_good l _ (Trie.Good.put h a1 a2 a3)
      have := Trie.count_put t (Nib.of x.1) x.2
      exact ⟨b1, by rw [List.length_cons]; omega⟩
    · rw [if_neg hp]
      obtain ⟨b1, b2⟩ := someU_good l t h
      exact ⟨b1, by rw [List.length_cons]; omega⟩
theorem fewU_good (L : List Trie.KV) : Trie.Good (fewU L) ∧ Trie.count (fewU L) ≤ 30 := by
  obtain ⟨h1, h2⟩ := someU_good (L.take 30) .nil Trie.Good.nil
  refine ⟨h1, Nat.le_trans h2 ?_⟩
  have := List.length_take (i := 30) (l := L)
  simp [Trie.count]
  omega
def SomeUEnd (w : World) (t : Trie.T) (e : Ending) (w' : World) : Prop :=
  ∃ v A n c, e = .returned (.tuple #[v, .slice A n c]) ∧ TrieP w' t v ∧ n = (Trie.itemsW t).length ∧ n ≤ c ∧ w'.ownsRow w.heap.size 76 2 (.slice A n c) n (icells (Trie.itemsW t)) ∧ Below w.heap.size w w'
set_option maxRecDepth 100000 in
set_option maxHeartbeats 2000000 in
theorem law14_some (w : World) (L : List Trie.KV) (hs : ∀ x ∈ L, x.1.length ≤ 9223372036854775807 ∧ x.2.length ≤ 9223372036854775807) (A : Option Addr) (cp : Nat) (HR : Reads w w.heap.size 2 A L.length (icells L)) (hT : Tbl w) :
    Calls Tryz.prog 19 #[.slice A L.length cp] w (SomeUEnd w (fewU L)) := by
  have HP : Hid (∀ v A n c w', TrieP w' (fewU L) v → n = (Trie.itemsW (fewU L)).length → n ≤ c → w'.ownsRow w.heap.size 76 2 (.slice A n c) n (icells (Trie.itemsW (fewU L))) → Below w.heap.size w w' → SomeUEnd w (fewU L) (.returned (.tuple #[v, .slice A n c])) w') := Lib.hid (fun v A n c w' h1 h2 h3 h4 h5 => ⟨v, A, n, c, rfl, h1, h2, h3, h4, h5⟩)
  have HX : Hid (fewU L = someU .nil ((L.take 30).drop 0)) := Lib.hid rfl
  generalize SomeUEnd w (fewU L) = P at HP ⊢
  generalize fewU L = X at *
  have HRR := Lib.hid HR
  have HS := Lib.hid hs
  have HTb := Lib.hid hT
  clear HR hs hT
  go_enter Tryz.func19, Tryz.ntmps19
  go_wp2_with (go_at_call 42; refine (trie_New _).mono ?_; rintro e w1 ⟨v0, rfl, hk0, hb0⟩; have H0 := Lib.hid (And.intro hk0 hb0); clear hk0 hb0)
  refine wp_loop_ghost_k (fun k a wr => ∀ Φ : Act → Prop, (∀ (s1 s2 s3 s7 s8 s9 s10 s11 s12 s13 s14 s15 s16 s17 s18 s19 s20 s21 s22 s23 s24 s25 s26 s27 s28 s29 s30 s31 s32 s33 s34 s35 s36 s37 s38 s39 s40 s41 s42 s43 s44 s45 s46 s47 s48 s49 s50 s51 s52 s53 s54 s55 s56 s57 s58 : Value) (i n c2 : Nat) (O : Option Addr) (t : Trie.T) (v : Value), (i + k = L.length ∧ i ≤ 30 ∧ X = someU t ((L.take 30).drop i) ∧ Trie.count t ≤ i ∧ TrieP wr t v ∧ n = (Trie.itemsW t).length ∧ n ≤ c2 ∧ wr.ownsRow w.heap.size 76 2 (.slice O n c2) n (icells (Trie.itemsW t)) ∧ Below w.heap.size w wr) → Φ { tmps := #[.slice A L.length cp, s1, s2, s3, v, .slice O n c2, .int .i64 (i : Int), s7, s8, s9, s10, s11, s12, s13, s14, s15, s16, s17, s18, s19, s20, s21, s22, s23, s24, s25, s26, s27, s28, s29, s30, s31, s32, s33, s34, s35, s36, s37, s38, s39, s40, s41, s42, s43, s44, s45, s46, s47, s48, s49, s50, s51, s52, s53, s54, s55, s56, s57, s58], defers := [] }) → Φ a) (L.length) ?_ ?_
  · refine fun Φ hΦ => hΦ _ _ _ _ _ _ _ _ _ _ _ _ _ _ _ _ _ _ _ _ _ _ _ _ _ _ _ _ _ _ _ _ _ _ _ _ _ _ _ _ _ _ _ _ _ _ _ _ _ _ _ _ _ _ _ (0) (0) (0) (none) (.nil) (v0) ?_
    exact ⟨by omega, by omega, HX.out, by simp [Trie.count], H0.out.1, rfl, Nat.le_refl _, World.ownsRow_nil _ _ _ _, H0.out.2⟩
  · intro k1 a1 wr1 hI1 J1 K1 hJ1 hK1
    refine hI1 (fun a => Code.wp _ _ _ a _) ?_
    clear hI1 a1
    intro s0 s1 s2 s3 s4 s5 s6 s7 s8 s9 s10 s11 s12 s13 s14 s15 s16 s17 s18 s19 s20 s21 s22 s23 s24 s25 s26 s27 s28 s29 s30 s31 s32 s33 s34 s35 s36 s37 s38 s39 s40 s41 s42 s43 s44 s45 s46 s47 s48 s49 s50 s51 s52 s53 s54 i n c2 O t v hrel
    show Code.wp _ _ _ _ _
    clear HX H0
    obtain ⟨h1, hi20, h2, h3, hk, hnl, hnc, own, hb⟩ := hrel
    by_cases hi : i < L.length ∧ i < 30
    · obtain ⟨ad, off, rfl, hbl, hcell⟩ := item_read14 HRR.out hi.1
      obtain ⟨r0, r1⟩ := hcell _ hb
      have hlt : i < (L.take 30).length := by rw [List.length_take]; omega
      have hd : (L.take 30).drop i = L[i]'hi.1 :: (L.take 30).drop (i + 1) := by
        rw [List.drop_eq_getElem_cons hlt, List.getElem_take]
      rw [hd, someU] at h2
      have hlen := HS.out _ (List.getElem_mem hi.1)
      have hi1 : (i : Int) < L.length := by omega
      have hi2 : (i : Int) < 30 := by omega
      have hi0 : (0 : Int) ≤ i := by omega
      have HIl : Hid ((Trie.itemsW t).length ≤ 1000) := Lib.hid (by rw [itemsW_len]; omega)
      have HCell := Lib.hid hcell
      have HI := Lib.hid (And.intro h1 (And.intro h3 hi.2))
      have HX := Lib.hid h2
      have HK := Lib.hid hk
      have OW := Lib.hid (And.intro own (And.intro hnc hb))
      have HRd : Hid (∀ W, Below wr1.heap.size wr1 W → Reads W W.heap.size 2 O (Trie.itemsW t).length (icells (Trie.itemsW t))) := Lib.hid (fun W hW => by rw [← hnl]; exact ((Reads.of_own own).below hW).more hW.size)
      have hg := hk.1
      clear h1 h2 h3 hk hd hnc own hb hcell hbl hi20
      generalize L[i] = x at *
      clear hi hlt
      obtain ⟨key, value⟩ := x
      simp only at r0 r1 HCell HX hlen
      have HPut : Hid (∀ W, Below wr1.heap.size wr1 W → Calls Tryz.prog 43 #[.slice O n c2, .string ⟨key.toArray⟩, .string ⟨value.toArray⟩] W (PutIEnd W (Trie.rput (Trie.itemsW t) key value))) := Lib.hid (fun W hW => by
        have := ref10_Put W O c2 (Trie.itemsW t) (HRd.out W hW) (by rw [← hnl]; exact OW.out.2.1) HIl.out key value hlen.1 hlen.2
        rwa [← hnl] at this)
      have HTPut : Hid (∀ W, Below wr1.heap.size wr1 W → Calls Tryz.prog 44 #[v, .string ⟨key.toArray⟩, .string ⟨value.toArray⟩] W (TPutEnd W (Trie.put t (Nib.of key) value) (Trie.putCode key value))) := Lib.hid (fun W hW =>
        trie_Put W t v (HK.out.next hW) (by have := HI.out.2.1; have := HI.out.2.2; omega) (HTb.out.next (OW.out.2.2.nxt hW)) key value hlen.1 hlen.2)
      obtain ⟨p1, p2⟩ := Trie.rput_put hg key value
      have HP2 := Lib.hid p2
      have HN := Lib.hid hnl
      clear hnl hlen hg
      generalize hrp : Trie.rput (Trie.itemsW t) key value = rp at *
      obtain ⟨lp, pc⟩ := rp
      simp only at p1
      subst p1
      clear hrp
      unfold PutIEnd at HPut
      simp only at HPut HP2
      have HCn := Lib.hid (Trie.count_put t (Nib.of key) value)
      obtain ⟨_, b0, x0, rfl, _⟩ := id HK.out
      go_upto_region 6 with fail
      go_region_held3 (fun w' => w'.cell? ⟨ad, off + i * 2, none⟩ = some (.string ⟨key.toArray⟩) ∧ w'.cell? ⟨ad, off + i * 2 + 1, none⟩ = some (.string ⟨value.toArray⟩)) (first | go_keep | (constructor <;> assumption)) ((go_at_call 43; refine (HPut.out _ (by first | exact Below.refl _ _ | exact (Below.refl _ _).drew)).mono ?_; rintro e w4 ⟨A4, n4, c4, rfl, hn4, hc4, own4, hb⟩; have HN4 := Lib.hid hn4; clear hn4; have hb4 : Below wr1.heap.size wr1 w4 := (by first | exact hb | exact hb.start); have own4' : w4.ownsRow wr1.heap.size 76 2 (.slice A4 n4 c4) n4 (icells lp) := (by first | exact own4); clear hb own4; obtain ⟨d0, d1⟩ := HCell.out _ (OW.out.2.2.nxt hb4)))
      have HB4 := Lib.hid (And.intro HN4.out (And.intro hc4 (And.intro (own_lower own4' OW.out.2.2.size) (OW.out.2.2.nxt hb4))))
      have C4 := Lib.hid hb4
      clear HN4 hc4 own4' hb4 r0 r1
      by_cases hpc : Trie.putCode key value = 0
      · rw [if_pos hpc] at HX
        have hl2 := HP2.out hpc
        rw [hl2] at HB4
        rw [hpc] at HTPut ⊢
        clear hpc hl2 HP2 HPut
        generalize Trie.put t (Nib.of key) value = t2 at *
        go_upto_region 9 with fail
        go_region_held3 (fun w' => w'.cell? ⟨ad, off + i * 2, none⟩ = some (.string ⟨key.toArray⟩) ∧ w'.cell? ⟨ad, off + i * 2 + 1, none⟩ = some (.string ⟨value.toArray⟩)) (first | go_keep | (constructor <;> assumption)) ((go_at_call 44; refine (HTPut.out _ (by first | exact C4.out | exact C4.out.drew)).mono ?_; rintro e w5 ⟨v5, rfl, hb, hk5, hn5⟩; have hb5 : Below w4.heap.size w4 w5 := (by first | exact hb | exact hb.start); clear hb; obtain ⟨d0, d1⟩ := HCell.out _ ((OW.out.2.2.nxt C4.out).nxt hb5)))
        have HK5 := Lib.hid (hk5 (by first | exact trivial | rfl))
        have HB5 := Lib.hid hb5
        clear hk5 hn5 hb5 d0 d1
        go_wp2_with fail
        refine Handed.intro (L.length - (i + 1)) ?_ (hJ1 _ _ _ (fun Φ hΦ => hΦ _ _ _ _ _ _ _ _ _ _ _ _ _ _ _ _ _ _ _ _ _ _ _ _ _ _ _ _ _ _ _ _ _ _ _ _ _ _ _ _ _ _ _ _ _ _ _ _ _ _ _ _ _ _ _ (i + 1) (n4) (c4) (A4) (t2) (v5) ?_))
        · have := HI.out.1; omega
        · exact ⟨by have := HI.out.1; omega, by have := HI.out.2.2; omega, HX.out, by have := HCn.out; have := HI.out.2.1; omega, HK5.out, HB4.out.1, HB4.out.2.1, own_below HB4.out.2.2.1 HB5.out, HB4.out.2.2.2.nxt HB5.out⟩
      · rw [if_neg hpc] at HX
        have hpI : ((Trie.putCode key value : Int) != 0) = true := by simp; exact hpc
        clear hpc HP2 HPut HTPut d0 d1
        generalize Trie.putCode key value = pc at *
        go_wp2_with fail
        refine Handed.intro (L.length - (i + 1)) ?_ (hJ1 _ _ _ (fun Φ hΦ => hΦ _ _ _ _ _ _ _ _ _ _ _ _ _ _ _ _ _ _ _ _ _ _ _ _ _ _ _ _ _ _ _ _ _ _ _ _ _ _ _ _ _ _ _ _ _ _ _ _ _ _ _ _ _ _ _ (i + 1) (n) (c2) (O) (t) ((Value.pointer (some ⟨b0, 0, none⟩))) ?_))
        · have := HI.out.1; omega
        · exact ⟨by have := HI.out.1; omega, by have := HI.out.2.2; omega, HX.out, by have := HI.out.2.1; omega, HK.out.next C4.out, HN.out, OW.out.2.1, own_below OW.out.1 C4.out, HB4.out.2.2.2⟩
    · have HE : Hid (X = t) := Lib.hid (by
        rw [h2, List.drop_of_length_le (by rw [List.length_take]; omega)]
        rfl)
      have HH := Lib.hid (And.intro hk (And.intro hnl (And.intro hnc (And.intro own hb))))
      have hcnd : ((i : Int) < L.length) = False ∨ ((i : Int) < 30) = False := by
        by_cases h : i < L.length
        · right; simp; omega
        · left; simp; omega
      clear h1 h2 h3 hk hnl hnc own hb
      rcases hcnd with hc1 | hc1
      · go_wp2_with fail
        exact HP.out _ _ _ _ _ (by rw [HE.out]; exact HH.out.1) (by rw [HE.out]; exact HH.out.2.1) HH.out.2.2.1 (by rw [HE.out]; exact HH.out.2.2.2.1) HH.out.2.2.2.2
      · by_cases hl : i < L.length
        · have hl2 : (i : Int) < L.length := by omega
          clear hl hi
          go_wp2_with fail
          exact HP.out _ _ _ _ _ (by rw [HE.out]; exact HH.out.1) (by rw [HE.out]; exact HH.out.2.1) HH.out.2.2.1 (by rw [HE.out]; exact HH.out.2.2.2.1) HH.out.2.2.2.2
        · have hl2 : ((i : Int) < L.length) = False := by simp; omega
          clear hl hi
          go_wp2_with fail
          exact HP.out _ _ _ _ _ (by rw [HE.out]; exact HH.out.1) (by rw [HE.out]; exact HH.out.2.1) HH.out.2.2.1 (by rw [HE.out]; exact HH.out.2.2.2.1) HH.out.2.2.2.2
end Go.Proofs.YtcjafcbekegmlaaGreatDoor

namespace Go.Proofs.YtcjafcbekegmlaaGreatDoor
set_option linter.unusedVariables false
open Go.RowKit Go.Instr
attribute [local go_sem] ba_get ByteArray.mk_append_mk
attribute [local go_sem ↓] Go.wp_at_zero Go.wp_at_succ
def works14 : Trie.T := (Trie.ofW .nil [([97], [49]), ([98], [50]), ([99], [51])]).1
theorem works14_of : Trie.ofW .nil [([97], [49]), ([98], [50]), ([99], [51])] = (works14, 0) := Prod.ext rfl (by decide +kernel)
theorem Good.ofW14 : ∀ (l : List Trie.KV) (t : Trie.T), Trie.Good t → (Trie.ofW t l).2 = 0 → Trie.Good (Trie.ofW t l).1 ∧ Trie.count (Trie.ofW t l).1 ≤ Trie.count t + l.length
  | [], t, h, _ => ⟨h, by simp [Trie.ofW]⟩
  | x :: l, t, h, hc => by
    unfold Trie.ofW at hc ⊢
    by_cases hp : Trie.putCode x.1 x.2 = 0
    · rw [if_pos hp] at hc ⊢
      obtain ⟨a1, a2, a3⟩ := Trie.putCode_zero hp
      obtain ⟨b1, b2⟩ := Good.ofW14 l _ (Trie.Good.put h a1 a2 a3) hc
      have := Trie.count_put t (Nib.of x.1) x.2
      exact ⟨b1, by rw [List.length_cons]; omega⟩
    · rw [if_neg hp] at hc
      exact absurd hc hp
theorem works14_good : Trie.Good works14 ∧ Trie.count works14 ≤ 3 := by
  have := Good.ofW14 [([97], [49]), ([98], [50]), ([99], [51])] .nil Trie.Good.nil (by rw [works14_of])
  rw [works14_of] at this
  exact ⟨this.1, by have := this.2; simp [Trie.count] at this; exact this⟩
theorem works14_items : Trie.itemsW works14 = [([97], [49]), ([98], [50]), ([99], [51])] := by decide +kernel
theorem works14_p : Trie.pageW (Trie.itemsW works14) [98] [99] 5 = ([([98], [50])], []) := by rw [works14_items]; decide +kernel
theorem works14_q : Trie.pageW (Trie.itemsW works14) [98] [] 1 = ([([98], [50])], [98, 0]) := by rw [works14_items]; decide +kernel
theorem works14_n : (Trie.pageN works14 [98] [99] 5).length = 3 := by
  unfold Trie.pageN
  rw [works14_p]
  rw [toldW, textsD, List.length_map]
  decide +kernel
set_option maxRecDepth 100000 in
set_option maxHeartbeats 4000000 in
theorem law14_works (w : World) (hT : Tbl w) :
    Calls Tryz.prog 18 #[] w fun e w' => e = .returned (.bool true) ∧ Below w.heap.size w w' := by
  have HP : Hid (∀ w', Below w.heap.size w w' → (fun e w' => e = Ending.returned (.bool true) ∧ Below w.heap.size w w') (Ending.returned (.bool true)) w') := Lib.hid (fun W' a2 => ⟨rfl, a2⟩)
  generalize (fun e w' => e = Ending.returned (.bool true) ∧ Below w.heap.size w w') = P at HP ⊢
  have HTb := Lib.hid hT
  have HW : Hid (∀ (W : World) f, Below W.heap.size W (W.alloc (.cells f 76))) := Lib.hid (fun W f => by go_grown)
  clear hT
  go_enter Tryz.func18, Tryz.ntmps18
  go_wp2_with fail
  refine (trie_Of [([97], [49]), ([98], [50]), ([99], [51])] (by simp) (by simp) _ ?_ _ _ ?_).mono ?_
  · exact HTb.out.next (by go_grown)
  · exact reads_blk (Blk.new _ _ _) (by simp)
  rw [works14_of]
  rintro e w1 ⟨v1, rfl, hb1, hk1, _⟩
  have HB1 : Hid (Below w.heap.size w w1) := Lib.hid ((HW.out _ _).nxt hb1)
  have HK1 := Lib.hid (hk1 rfl)
  clear hb1 hk1
  obtain ⟨_, b1, x1, rfl, _⟩ := id HK1.out
  have HPa : Hid (∀ W, Below w1.heap.size w1 W → Calls Tryz.prog 20 #[.pointer (some ⟨b1, 0, none⟩), .string ⟨#[98]⟩, .string ⟨#[99]⟩, .int .i64 5] W (fun e w' => ∃ A c B d, e = .returned (.tuple #[.agg #[.slice A 1 c, .string ⟨#[]⟩, .slice B 3 d], .int .i64 0]) ∧ Below W.heap.size W w')) := Lib.hid (fun W hW => by
    have := span_Prove W works14 _ (HK1.out.next hW) (by have := works14_good.2; omega) [98] [99] (by simp) (by simp) 5 (by omega) (by omega)
    rw [works14_p] at this
    refine this.mono ?_
    rintro e w' ⟨A, c, B, d, rfl, _, _, _, _, hb⟩
    simp only [works14_n]
    exact ⟨A, c, B, d, rfl, hb⟩)
  obtain ⟨Nq, hNq⟩ : ∃ N, Trie.pageN works14 [98] [] 1 = N := ⟨_, rfl⟩
  have HNl : Hid (Nq.length ≤ 1000 ∧ ∀ x ∈ Nq, x.length ≤ 700) := Lib.hid (by
    rw [← hNq]
    unfold Trie.pageN
    refine ⟨?_, told_700m works14_good.1 _⟩
    rw [toldW, textsD, List.length_map]
    have h1 := Trie.goT_len (coverW (Nib.of [98]) (Nib.of (Trie.upToW (Trie.pageW (Trie.itemsW works14) [98] [] 1).2 [])) (Trie.upToW (Trie.pageW (Trie.itemsW works14) [98] [] 1).2 [])) works14 []
    have h2 : Trie.nodes works14 = 5 := by decide +kernel
    omega)
  have HPb : Hid (∀ W, Below w1.heap.size w1 W → Calls Tryz.prog 20 #[.pointer (some ⟨b1, 0, none⟩), .string ⟨#[98]⟩, .string ⟨#[]⟩, .int .i64 1] W (PageEnd W ([([98], [50])], [98, 0], Nq) 0)) := Lib.hid (fun W hW => by
    have := span_Prove W works14 _ (HK1.out.next hW) (by have := works14_good.2; omega) [98] [] (by simp) (by simp) 1 (by omega) (by omega)
    rwa [works14_q, hNq] at this)
  have HVe : Hid (∀ W A c B d, Below w1.heap.size w1 W → Reads W W.heap.size 2 A 1 (icells [([98], [50])]) → Reads W W.heap.size 1 B Nq.length (strv Nq) → Nq.length ≤ d → Calls Tryz.prog 26 #[.string ⟨(Trie.sumT works14).toArray⟩, .string ⟨#[98]⟩, .string ⟨#[]⟩, .int .i64 1, .agg #[.slice A 1 c, .string ⟨#[98, 0]⟩, .slice B Nq.length d]] W (ItemsTEnd W ([([98], [50])], [98, 0], 0))) := Lib.hid (fun W A c B d hW h1 h2 h3 => by
    have := span_Verify W (Trie.sumT works14) [98] [] (by simp) (by simp) 1 (by omega) (by omega) [([98], [50])] A c h1 (by simp) [98, 0] (by simp) Nq B d h2 h3 (by have := HNl.out.1; omega) (fun x hx => by have := HNl.out.2 x hx; omega) (HTb.out.next (HB1.out.nxt hW))
    have hw := Trie.span_whole works14_good.1 [98] [] 1 (by omega)
    rw [works14_q, hNq] at hw
    rwa [hw] at this)
  clear hNq
  generalize hsm : Trie.sumT works14 = sm at *
  have HSm := Lib.hid hsm
  clear hsm
  have F1 : Hid (Live w1 w1 []) := Lib.hid (Live.start w1)
  go_wp2_with fail
  refine (HPa.out _ (Below.refl _ _)).mono ?_
  rintro e w2 ⟨A2, c2, B2, d2, rfl, hb⟩
  have F2 := Live.hb F1 hb
  clear hb HPa F1
  go_upto_region 5 with fail
  have F3 := Live.ha F2 #[.slice A2 1 c2, .string ⟨#[]⟩, .slice B2 3 d2] 46
  generalize World.alloc w2 _ = W3 at F3 ⊢
  generalize w2.heap.size = pa at F3 ⊢
  clear F2
  go_wp2_with fail
  refine (HPb.out _ F3.out.b).mono ?_
  rintro e w4 ⟨A4, c4, B4, d4, rfl, own4, hc4, ownN4, hd4, hb⟩
  have F4 := Live.hb F3 hb
  have R4 := Lib.hid (And.intro (Reads.of_own own4) (And.intro (Reads.of_own ownN4) hd4))
  clear hb own4 ownN4 hc4 hd4 HPb F3
  go_upto_region 6 with fail
  have F5 := Live.ha F4 #[.slice A4 1 c4, .string ⟨#[98, 0]⟩, .slice B4 Nq.length d4] 46
  have R5 := Lib.hid (fun W (hW : Below (World.alloc w4 (.cells #[.slice A4 1 c4, .string ⟨#[98, 0]⟩, .slice B4 Nq.length d4] 46)).heap.size (World.alloc w4 (.cells #[.slice A4 1 c4, .string ⟨#[98, 0]⟩, .slice B4 Nq.length d4] 46)) W) => have hb : Below w4.heap.size w4 W := ((Below.refl _ w4).alloc (Nat.le_refl _) _).nxt hW; And.intro ((R4.out.1.below hb).more hb.size) (And.intro ((R4.out.2.1.below hb).more hb.size) R4.out.2.2))
  generalize World.alloc w4 _ = W5 at F5 R5 ⊢
  generalize w4.heap.size = pb at F5 ⊢
  clear F4 R4
  have HRo : Hid (∀ W, Below w1.heap.size w1 W → Calls Tryz.prog 32 #[.pointer (some ⟨b1, 0, none⟩)] W (Ret W (.string ⟨sm.toArray⟩))) := Lib.hid (fun W hW => (trie_Root W works14 _ (HK1.out.next hW)).mono (by rw [HSm.out]; rintro e w' ⟨rfl, rfl⟩; exact ⟨rfl, Below.refl _ _⟩))
  have k0_0 : W5.cell? ⟨pb, 0, none⟩ = some (.slice A4 1 c4) := F5.out.cell 0 0 rfl rfl; have k0_1 : W5.cell? ⟨pb, 1, none⟩ = some (.string ⟨#[98, 0]⟩) := F5.out.cell 0 1 rfl rfl; have k0_2 : W5.cell? ⟨pb, 2, none⟩ = some (.slice B4 Nq.length d4) := F5.out.cell 0 2 rfl rfl
  go_region_held3 (fun w' => w'.cell? ⟨pb, 0, none⟩ = some (.slice A4 1 c4) ∧ w'.cell? ⟨pb, 1, none⟩ = some (.string ⟨#[98, 0]⟩) ∧ w'.cell? ⟨pb, 2, none⟩ = some (.slice B4 Nq.length d4)) (first | go_keep | (refine ⟨?_, ?_, ?_⟩ <;> assumption)) (first
    | (go_at_call 32; refine (HRo.out _ (by first | exact F5.out.b | exact F5.out.b.drew)).mono ?_; rintro e w6 ⟨rfl, hb⟩; have B6 : Below W5.heap.size W5 w6 := (by first | exact hb | exact hb.start); have F6 := Live.hb F5 B6; have d0 := F6.out.cell 0 0 rfl rfl; have d1 := F6.out.cell 0 1 rfl rfl; have d2 := F6.out.cell 0 2 rfl rfl; clear hb)
    | (go_at_call 26; refine (HVe.out _ _ _ _ _ (by first | exact F6.out.b) (R5.out _ B6).1 (R5.out _ B6).2.1 (R5.out _ B6).2.2).mono ?_; rintro e w7 ⟨A7, c7, rfl, own7, hb⟩; have B7 : Below w6.heap.size w6 w7 := (by first | exact hb | exact hb.start); have F7 := Live.hb F6 B7; have O7 := Lib.hid own7; have g0 := F7.out.cell 0 0 rfl rfl; have g1 := F7.out.cell 0 1 rfl rfl; have g2 := F7.out.cell 0 2 rfl rfl; clear hb own7))
  have k1_0 := F7.out.cell 1 0 rfl rfl
  have k1_1 := F7.out.cell 1 1 rfl rfl
  have k1_2 := F7.out.cell 1 2 rfl rfl
  obtain ⟨ad, off, hA7, _, hcell⟩ := (Reads.of_own O7.out).form (by decide) (by decide)
  subst hA7
  have q1 : w7.cell? ⟨ad, off + 1, none⟩ = some (.string ⟨#[50]⟩) := hcell 1 (by decide)
  clear hcell
  go_wp2_with fail
  exact HP.out _ (HB1.out.nxt F7.out.b)
end Go.Proofs.YtcjafcbekegmlaaGreatDoor

namespace Go.Proofs.YtcjafcbekegmlaaGreatDoor
set_option linter.unusedVariables false
open Go.RowKit Go.Instr
attribute [local go_sem] ba_get ByteArray.mk_append_mk
attribute [local go_sem ↓] Go.wp_at_zero Go.wp_at_succ
theorem allIn_len (L : List Trie.KV) (f e : List UInt8) : (Trie.allIn L f e).length ≤ L.length := List.length_filter_le _ _
theorem pageN_small {t : Trie.T} (h : Trie.Good t) (hc : Trie.count t ≤ 30) (f e : List UInt8) (m : Nat) : (Trie.pageN t f e m).length ≤ 1000 ∧ ∀ x ∈ Trie.pageN t f e m, x.length ≤ 700 := by
  unfold Trie.pageN
  refine ⟨?_, told_700m h _⟩
  rw [toldW, textsD, List.length_map]
  have h1 := Trie.goT_len (coverW (Nib.of f) (Nib.of (Trie.upToW (Trie.pageW (Trie.itemsW t) f e m).2 e)) (Trie.upToW (Trie.pageW (Trie.itemsW t) f e m).2 e)) t []
  by_cases hn : t = .nil
  · subst hn; simp [Trie.goT]
  · have := (Trie.nodes_le t h.wf hn).1; omega
theorem pageW_len (L : List Trie.KV) (f e : List UInt8) (m : Nat) : (Trie.pageW L f e m).1.length ≤ L.length := by
  unfold Trie.pageW
  split
  · exact allIn_len L f e
  · simp only [List.length_take]; have := allIn_len L f e; omega
end Go.Proofs.YtcjafcbekegmlaaGreatDoor

namespace Go.Proofs.YtcjafcbekegmlaaGreatDoor
set_option linter.unusedVariables false
open Go.RowKit Go.Instr
attribute [local go_sem] ba_get ByteArray.mk_append_mk
attribute [local go_sem ↓] Go.wp_at_zero Go.wp_at_succ
theorem Trie.Good.ofW : ∀ (l : List Trie.KV) (t : Trie.T), Trie.Good t → (Trie.ofW t l).2 = 0 → Trie.Good (Trie.ofW t l).1 ∧ Trie.count (Trie.ofW t l).1 ≤ Trie.count t + l.length
  | [], t, h, _ => ⟨h, by simp [Trie.ofW]⟩
  | x :: l, t, h, hc => by
    unfold Trie.ofW at hc ⊢
    by_cases hp : Trie.putCode x.1 x.2 = 0
    · rw [if_pos hp] at hc ⊢
      obtain ⟨a1, a2, a3⟩ := Trie.putCode_zero hp
      obtain ⟨b1, b2⟩ := Trie.Good.ofW l _ (Trie.Good.put h a1 a2 a3) hc
      have := Trie.count_put t (Nib.of x.1) x.2
      exact ⟨b1, by rw [List.length_cons]; omega⟩
    · rw [if_neg hp] at hc
      exact absurd hc hp
theorem spots_at {t : Trie.T} (h : Trie.Good t) (hc : Trie.count t ≤ 2000) : (Trie.goT allW t []).length ≤ 100000 ∧ ∀ x ∈ Trie.goT allW t [], x.1.length ≤ 1000 := by
  refine ⟨Trie.goT_short h.wf (by omega) _ _, fun x hx => ?_⟩
  have key : ∀ (t : Trie.T) (pl : List UInt8), Trie.At pl t → ∀ x ∈ Trie.goT allW t pl, x.1.length ≤ 16 := by
    intro t
    induction t with
    | nil => intro pl _ x hx; cases hx
    | leaf p v => intro pl ha x hx; simp [Trie.goT, allW] at hx; subst hx; exact ha.len (by simp)
    | ext p t ih =>
      intro pl ha x hx
      simp only [Trie.goT, allW, if_true, List.mem_cons] at hx
      rcases hx with rfl | hx
      · exact ha.len (by simp)
      · exact ih _ ha.below x hx
    | branch v kids ih =>
      intro pl ha x hx
      simp only [Trie.goT, allW, if_true, List.mem_cons, List.mem_flatMap] at hx
      rcases hx with rfl | ⟨i, _, hx⟩
      · exact ha.len (by simp)
      · exact ih i _ (ha.kid i) x hx
  have := key t [] (Trie.At.top h) x hx
  omega
end Go.Proofs.YtcjafcbekegmlaaGreatDoor
