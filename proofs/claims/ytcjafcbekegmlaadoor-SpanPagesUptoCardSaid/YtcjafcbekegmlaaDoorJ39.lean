import Derived.Test.YtcjafcbekegmlaaDoorJ37
import Derived.Test.YtcjafcbekegmlaaDoorJ38
import Derived.Test.YtcjafcbekegmlaaDoorJ30
set_option linter.unusedSimpArgs false
set_option linter.unusedVariables false
namespace Go.Proofs.YtcjafcbekegmlaaDoor
set_option linter.unusedVariables false
open Go.RowKit Go.Instr
attribute [local go_sem] ba_get ByteArray.mk_append_mk
attribute [local go_sem ↓] Go.wp_at_zero Go.wp_at_succ
def works14 : Trie.T := (Trie.ofW .nil [([97], [49]), ([98], [50]), ([99], [51])]).1
theorem works14_of : Trie.ofW .nil [([97], [49]), ([98], [50]), ([99], [51])] = (works14, 0) := Prod.ext rfl (by decide +kernel)
theorem Good.ofW14 : ∀ (l : List Trie.KV) (t : Trie.T), Trie.Good t → (Trie.ofW t l).2 = 0 → Trie.Good (Trie.ofW t l).1 ∧ Trie.count (Trie.ofW t l).1 ≤ Trie.count t + l.length
  | [], t, h, _ => ⟨h, by simp [Trie.ofW]⟩
  | x :: l, t, h, hc => by
    unfold Trie.ofW at hc ⊢
    by_cases hp : Trie.putCode x.1 x.2 = 0
    · rw [if_pos hp] at hc ⊢
      obtain ⟨a1, a2, a3⟩ := Trie.putCode_zero hp
      obtain ⟨b1, b2⟩ := Good.ofW14 l _ (Trie.Good.put h a1 a2 a3) hc
      have := Trie.count_put t (Nib.of x.1) x.2
      exact ⟨b1, by rw [List.length_cons]; omega⟩
    · rw [if_neg hp] at hc
      exact absurd hc hp
theorem works14_good : Trie.Good works14 ∧ Trie.count works14 ≤ 3 := by
  have := Good.ofW14 [([97], [49]), ([98], [50]), ([99], [51])] .nil Trie.Good.nil (by rw [works14_of])
  rw [works14_of] at this
  exact ⟨this.1, by have := this.2; simp [Trie.count] at this; exact this⟩
theorem works14_items : Trie.itemsW works14 = [([97], [49]), ([98], [50]), ([99], [51])] := by decide +kernel
theorem works14_p : Trie.pageW (Trie.itemsW works14) [98] [99] 5 = ([([98], [50])], []) := by rw [works14_items]; decide +kernel
theorem works14_q : Trie.pageW (Trie.itemsW works14) [98] [] 1 = ([([98], [50])], [98, 0]) := by rw [works14_items]; decide +kernel
theorem works14_n : (Trie.pageN works14 [98] [99] 5).length = 3 := by
  unfold Trie.pageN
  rw [works14_p]
  rw [toldW, textsD, List.length_map]
  decide +kernel
set_option maxRecDepth 100000 in
set_option maxHeartbeats 4000000 in
theorem law14_works (w : World) (hT : Tbl w) :
    Calls Tryd.prog 7 #[] w fun e w' => e = .returned (.bool true) ∧ Below w.heap.size w w' := by
  have HP : Hid (∀ w', Below w.heap.size w w' → (fun e w' => e = Ending.returned (.bool true) ∧ Below w.heap.size w w') (Ending.returned (.bool true)) w') := Lib.hid (fun W' a2 => ⟨rfl, a2⟩)
  generalize (fun e w' => e = Ending.returned (.bool true) ∧ Below w.heap.size w w') = P at HP ⊢
  have HTb := Lib.hid hT
  have HW : Hid (∀ (W : World) f, Below W.heap.size W (W.alloc (.cells f 50))) := Lib.hid (fun W f => by go_grown)
  clear hT
  go_enter Tryd.func7, Tryd.ntmps7
  go_wp2_with fail
  refine (trie_Of [([97], [49]), ([98], [50]), ([99], [51])] (by simp) (by simp) _ ?_ _ _ ?_).mono ?_
  · exact HTb.out.next (by go_grown)
  · exact reads_blk (Blk.new _ _ _) (by simp)
  rw [works14_of]
  rintro e w1 ⟨v1, rfl, hb1, hk1, _⟩
  have HB1 : Hid (Below w.heap.size w w1) := Lib.hid ((HW.out _ _).nxt hb1)
  have HK1 := Lib.hid (hk1 rfl)
  clear hb1 hk1
  obtain ⟨_, b1, x1, rfl, _⟩ := id HK1.out
  have HPa : Hid (∀ W, Below w1.heap.size w1 W → Calls Tryd.prog 9 #[.pointer (some ⟨b1, 0, none⟩), .string ⟨#[98]⟩, .string ⟨#[99]⟩, .int .i64 5] W (fun e w' => ∃ A c B d, e = .returned (.tuple #[.agg #[.slice A 1 c, .string ⟨#[]⟩, .slice B 3 d], .int .i64 0]) ∧ Below W.heap.size W w')) := Lib.hid (fun W hW => by
    have := span_Prove W works14 _ (HK1.out.next hW) (by have := works14_good.2; omega) [98] [99] (by simp) (by simp) 5 (by omega) (by omega)
    rw [works14_p] at this
    refine this.mono ?_
    rintro e w' ⟨A, c, B, d, rfl, _, _, _, _, hb⟩
    simp only [works14_n]
    exact ⟨A, c, B, d, rfl, hb⟩)
  obtain ⟨Nq, hNq⟩ : ∃ N, Trie.pageN works14 [98] [] 1 = N := ⟨_, rfl⟩
  have HNl : Hid (Nq.length ≤ 1000 ∧ ∀ x ∈ Nq, x.length ≤ 700) := Lib.hid (by
    rw [← hNq]
    unfold Trie.pageN
    refine ⟨?_, told_700m works14_good.1 _⟩
    rw [toldW, textsD, List.length_map]
    have h1 := Trie.goT_len (coverW (Nib.of [98]) (Nib.of (Trie.upToW (Trie.pageW (Trie.itemsW works14) [98] [] 1).2 [])) (Trie.upToW (Trie.pageW (Trie.itemsW works14) [98] [] 1).2 [])) works14 []
    have h2 : Trie.nodes works14 = 5 := by decide +kernel
    omega)
  have HPb : Hid (∀ W, Below w1.heap.size w1 W → Calls Tryd.prog 9 #[.pointer (some ⟨b1, 0, none⟩), .string ⟨#[98]⟩, .string ⟨#[]⟩, .int .i64 1] W (PageEnd W ([([98], [50])], [98, 0], Nq) 0)) := Lib.hid (fun W hW => by
    have := span_Prove W works14 _ (HK1.out.next hW) (by have := works14_good.2; omega) [98] [] (by simp) (by simp) 1 (by omega) (by omega)
    rwa [works14_q, hNq] at this)
  have HVe : Hid (∀ W A c B d, Below w1.heap.size w1 W → Reads W W.heap.size 2 A 1 (icells [([98], [50])]) → Reads W W.heap.size 1 B Nq.length (strv Nq) → Nq.length ≤ d → Calls Tryd.prog 10 #[.string ⟨(Trie.sumT works14).toArray⟩, .string ⟨#[98]⟩, .string ⟨#[]⟩, .int .i64 1, .agg #[.slice A 1 c, .string ⟨#[98, 0]⟩, .slice B Nq.length d]] W (ItemsTEnd W ([([98], [50])], [98, 0], 0))) := Lib.hid (fun W A c B d hW h1 h2 h3 => by
    have := span_Verify W (Trie.sumT works14) [98] [] (by simp) (by simp) 1 (by omega) (by omega) [([98], [50])] A c h1 (by simp) [98, 0] (by simp) Nq B d h2 h3 (by have := HNl.out.1; omega) (fun x hx => by have := HNl.out.2 x hx; omega) (HTb.out.next (HB1.out.nxt hW))
    have hw := Trie.span_whole works14_good.1 [98] [] 1 (by omega)
    rw [works14_q, hNq] at hw
    rwa [hw] at this)
  clear hNq
  generalize hsm : Trie.sumT works14 = sm at *
  have HSm := Lib.hid hsm
  clear hsm
  have F1 : Hid (Live w1 w1 []) := Lib.hid (Live.start w1)
  go_wp2_with fail
  refine (HPa.out _ (Below.refl _ _)).mono ?_
  rintro e w2 ⟨A2, c2, B2, d2, rfl, hb⟩
  have F2 := Live.hb F1 hb
  clear hb HPa F1
  go_upto_region 5 with fail
  have F3 := Live.ha F2 #[.slice A2 1 c2, .string ⟨#[]⟩, .slice B2 3 d2] 31
  generalize World.alloc w2 _ = W3 at F3 ⊢
  generalize w2.heap.size = pa at F3 ⊢
  clear F2
  go_wp2_with fail
  refine (HPb.out _ F3.out.b).mono ?_
  rintro e w4 ⟨A4, c4, B4, d4, rfl, own4, hc4, ownN4, hd4, hb⟩
  have F4 := Live.hb F3 hb
  have R4 := Lib.hid (And.intro (Reads.of_own own4) (And.intro (Reads.of_own ownN4) hd4))
  clear hb own4 ownN4 hc4 hd4 HPb F3
  go_upto_region 6 with fail
  have F5 := Live.ha F4 #[.slice A4 1 c4, .string ⟨#[98, 0]⟩, .slice B4 Nq.length d4] 31
  have R5 := Lib.hid (fun W (hW : Below (World.alloc w4 (.cells #[.slice A4 1 c4, .string ⟨#[98, 0]⟩, .slice B4 Nq.length d4] 31)).heap.size (World.alloc w4 (.cells #[.slice A4 1 c4, .string ⟨#[98, 0]⟩, .slice B4 Nq.length d4] 31)) W) => have hb : Below w4.heap.size w4 W := ((Below.refl _ w4).alloc (Nat.le_refl _) _).nxt hW; And.intro ((R4.out.1.below hb).more hb.size) (And.intro ((R4.out.2.1.below hb).more hb.size) R4.out.2.2))
  generalize World.alloc w4 _ = W5 at F5 R5 ⊢
  generalize w4.heap.size = pb at F5 ⊢
  clear F4 R4
  have HRo : Hid (∀ W, Below w1.heap.size w1 W → Calls Tryd.prog 11 #[.pointer (some ⟨b1, 0, none⟩)] W (Ret W (.string ⟨sm.toArray⟩))) := Lib.hid (fun W hW => (trie_Root W works14 _ (HK1.out.next hW)).mono (by rw [HSm.out]; rintro e w' ⟨rfl, rfl⟩; exact ⟨rfl, Below.refl _ _⟩))
  have k0_0 : W5.cell? ⟨pb, 0, none⟩ = some (.slice A4 1 c4) := F5.out.cell 0 0 rfl rfl; have k0_1 : W5.cell? ⟨pb, 1, none⟩ = some (.string ⟨#[98, 0]⟩) := F5.out.cell 0 1 rfl rfl; have k0_2 : W5.cell? ⟨pb, 2, none⟩ = some (.slice B4 Nq.length d4) := F5.out.cell 0 2 rfl rfl
  go_region_held3 (fun w' => w'.cell? ⟨pb, 0, none⟩ = some (.slice A4 1 c4) ∧ w'.cell? ⟨pb, 1, none⟩ = some (.string ⟨#[98, 0]⟩) ∧ w'.cell? ⟨pb, 2, none⟩ = some (.slice B4 Nq.length d4)) (first | go_keep | (refine ⟨?_, ?_, ?_⟩ <;> assumption)) (first
    | (go_at_call 11; refine (HRo.out _ (by first | exact F5.out.b | exact F5.out.b.drew)).mono ?_; rintro e w6 ⟨rfl, hb⟩; have B6 : Below W5.heap.size W5 w6 := (by first | exact hb | exact hb.start); have F6 := Live.hb F5 B6; have d0 := F6.out.cell 0 0 rfl rfl; have d1 := F6.out.cell 0 1 rfl rfl; have d2 := F6.out.cell 0 2 rfl rfl; clear hb)
    | (go_at_call 10; refine (HVe.out _ _ _ _ _ (by first | exact F6.out.b) (R5.out _ B6).1 (R5.out _ B6).2.1 (R5.out _ B6).2.2).mono ?_; rintro e w7 ⟨A7, c7, rfl, own7, hb⟩; have B7 : Below w6.heap.size w6 w7 := (by first | exact hb | exact hb.start); have F7 := Live.hb F6 B7; have O7 := Lib.hid own7; have g0 := F7.out.cell 0 0 rfl rfl; have g1 := F7.out.cell 0 1 rfl rfl; have g2 := F7.out.cell 0 2 rfl rfl; clear hb own7))
  have k1_0 := F7.out.cell 1 0 rfl rfl
  have k1_1 := F7.out.cell 1 1 rfl rfl
  have k1_2 := F7.out.cell 1 2 rfl rfl
  obtain ⟨ad, off, hA7, _, hcell⟩ := (Reads.of_own O7.out).form (by decide) (by decide)
  subst hA7
  have q1 : w7.cell? ⟨ad, off + 1, none⟩ = some (.string ⟨#[50]⟩) := hcell 1 (by decide)
  clear hcell
  go_wp2_with fail
  exact HP.out _ (HB1.out.nxt F7.out.b)
end Go.Proofs.YtcjafcbekegmlaaDoor

namespace Go.Proofs.YtcjafcbekegmlaaDoor
set_option linter.unusedVariables false
open Go.RowKit Go.Instr
attribute [local go_sem] ba_get ByteArray.mk_append_mk
attribute [local go_sem ↓] Go.wp_at_zero Go.wp_at_succ
set_option maxRecDepth 100000 in
set_option maxHeartbeats 4000000 in
theorem law14_within (w : World) (t : Trie.T) (p : Option Addr) (hT : TrieP w t (.pointer p)) (hc : Trie.count t ≤ 20000) (f e : List UInt8) :
    Calls Tryd.prog 12 #[.pointer p, .string ⟨f.toArray⟩, .string ⟨e.toArray⟩] w (ItemsEnd w (Trie.allIn (Trie.itemsW t) f e)) := by
  have HP : Hid (∀ A n c w', n = (Trie.allIn (Trie.itemsW t) f e).length → w'.ownsRow w.heap.size 50 2 (.slice A n c) n (icells (Trie.allIn (Trie.itemsW t) f e)) → Below w.heap.size w w' → ItemsEnd w (Trie.allIn (Trie.itemsW t) f e) (.returned (.slice A n c)) w') := Lib.hid (fun A n c w' h1 h2 h3 => ⟨A, n, c, rfl, h1, h2, h3⟩)
  have HIt := Lib.hid (trie_Items w t _ hT hc)
  have hLc : (Trie.itemsW t).length ≤ 20000 := by rw [Trie.itemsW, List.length_map, Trie.length_items]; exact hc
  generalize ItemsEnd w (Trie.allIn (Trie.itemsW t) f e) = P at HP ⊢
  generalize Trie.itemsW t = L at *
  clear hT hc
  go_enter Tryd.func12, Tryd.ntmps12
  go_wp2_with fail
  refine HIt.out.mono ?_
  rintro q w1 ⟨A, nL, c, rfl, hn, own, hb1⟩
  obtain rfl := hn
  have HB1 := Lib.hid hb1
  have HRd := Lib.hid (Reads.of_own own)
  have HLc := Lib.hid hLc
  clear own hb1 HIt
  go_wp2_with fail
  refine wp_loop_ghost_k (fun k a wr => ∀ Φ : Act → Prop, (∀ (s3 s4 s5 s6 s8 s9 s10 s14 s15 s16 s17 s18 s19 s20 s21 s22 s23 s24 s25 s26 s27 s28 s29 s30 s31 s32 s33 s34 s35 s36 : Value) (i n c2 : Nat) (O : Option Addr), (i + k = L.length ∧ n = (Trie.allIn (L.take i) f e).length ∧ wr.ownsRow w1.heap.size 50 2 (.slice O n c2) n (icells (Trie.allIn (L.take i) f e)) ∧ Below w1.heap.size w1 wr) → Φ { tmps := #[.pointer p, .string ⟨f.toArray⟩, .string ⟨e.toArray⟩, s3, s4, s5, s6, .slice O n c2, s8, s9, s10, .slice A L.length c, .int .i64 L.length, .int .i64 (i : Int), s14, s15, s16, s17, s18, s19, s20, s21, s22, s23, s24, s25, s26, s27, s28, s29, s30, s31, s32, s33, s34, s35, s36], defers := [] }) → Φ a) (L.length) ?_ ?_
  · refine fun Φ hΦ => hΦ _ _ _ _ _ _ _ _ _ _ _ _ _ _ _ _ _ _ _ _ _ _ _ _ _ _ _ _ _ _ (0) (0) (0) (none) ?_
    exact ⟨by omega, rfl, World.ownsRow_nil _ _ _ _, Below.refl _ _⟩
  · intro k1 a1 wr1 hI1 J1 K1 hJ1 hK1
    refine hI1 (fun a => Code.wp _ _ _ a _) ?_
    clear hI1 a1
    intro s0 s1 s2 s3 s4 s5 s6 s7 s8 s9 s10 s11 s12 s13 s14 s15 s16 s17 s18 s19 s20 s21 s22 s23 s24 s25 s26 s27 s28 s29 i n c2 O hrel
    show Code.wp _ _ _ _ _
    obtain ⟨h1, h2, h3, h4⟩ := hrel
    have HI := Lib.hid (And.intro h1 (And.intro h2 (And.intro h3 h4)))
    clear h1 h2 h3 h4
    by_cases hi : i < L.length
    · obtain ⟨ad, off, rfl, hbl, hcell⟩ := item_cells HRd.out hi
      obtain ⟨q0, q1⟩ := hcell _ HI.out.2.2.2
      have hi1 : (i : Int) < L.length := by omega
      have hi0 : (0 : Int) ≤ i := by omega
      have hn1 : n ≤ 20000 := by
        have a := HI.out.2.1
        have b : (Trie.allIn (L.take i) f e).length ≤ (L.take i).length := List.length_filter_le _ _
        rw [List.length_take] at b
        omega
      have HSn : Hid (Trie.allIn (L.take (i + 1)) f e = if Trie.inK f e L[i].1 = true then Trie.allIn (L.take i) f e ++ [L[i]] else Trie.allIn (L.take i) f e) := Lib.hid (by
        rw [List.take_succ_eq_append_getElem hi, allIn_snoc])
      clear hcell hbl
      generalize L[i] = x at *
      obtain ⟨ky, vl⟩ := x
      simp only at q0 q1 HSn
      have HAl : Hid (Below wr1.heap.size wr1 (wr1.alloc (.cells #[.string ⟨ky.toArray⟩, .string ⟨vl.toArray⟩] 50))) := Lib.hid ((Below.refl _ _).alloc (Nat.le_refl _) _)
      cases k4 : Op.bytesLess ky f with
      | true =>
        rw [if_neg (by simp [Trie.inK, k4])] at HSn
        go_wp2_with fail
        refine Handed.intro (L.length - (i + 1)) ?_ (hJ1 _ _ _ (fun Φ hΦ => hΦ _ _ _ _ _ _ _ _ _ _ _ _ _ _ _ _ _ _ _ _ _ _ _ _ _ _ _ _ _ _ (i + 1) (n) (c2) (O) ?_))
        · have := HI.out.1; omega
        · exact ⟨by have := HI.out.1; omega, by rw [HSn.out]; exact HI.out.2.1, by rw [HSn.out]; exact own_below HI.out.2.2.1 HAl.out, HI.out.2.2.2.nxt HAl.out⟩
      | false =>
        by_cases k5 : e = []
        · subst k5
          rw [if_pos (by simp [Trie.inK, k4])] at HSn
          go_upto_region 6 with fail
          obtain ⟨bx, hbx⟩ : ∃ bx, wr1.heap.size = bx := ⟨_, rfl⟩
          have FX : Hid (Blk (wr1.alloc (.cells #[.string ⟨ky.toArray⟩, .string ⟨vl.toArray⟩] 50)) bx 50 #[.string ⟨ky.toArray⟩, .string ⟨vl.toArray⟩] ∧ Below wr1.heap.size wr1 (wr1.alloc (.cells #[.string ⟨ky.toArray⟩, .string ⟨vl.toArray⟩] 50))) := Lib.hid ⟨by subst hbx; exact Blk.new _ _ _, HAl.out⟩
          try rw [hbx]
          generalize wr1.alloc (.cells #[.string ⟨ky.toArray⟩, .string ⟨vl.toArray⟩] 50) = WX at FX ⊢
          clear hbx HAl
          have x0 := FX.out.1.cell 0
          have x1 := FX.out.1.cell 1
          go_wp2_with (at_builtin; refine wpList_append_new WX 50 [.string ⟨ky.toArray⟩, .string ⟨vl.toArray⟩] rfl _ _ 22 rfl w1.heap.size 2 32 _ info_item Tryd.underlying22 rfl (by decide) (.slice O n c2) n _ rfl (own_below HI.out.2.2.1 FX.out.2) 1 1 rfl rfl (by simp [Value.oneCell']) (by simp only [maxLen]; omega) (by omega) w1.heap.size w1 (HI.out.2.2.2.nxt FX.out.2) (Nat.le_refl _) (HI.out.2.2.2.nxt FX.out.2).size ?_; intro v2 w2 hown2 hb2 _ _ _; obtain ⟨A2, cc2, rfl, _, _, _⟩ := own_form hown2; have O2 := Lib.hid (And.intro hown2 hb2); clear hown2 hb2)
          refine Handed.intro (L.length - (i + 1)) ?_ (hJ1 _ _ _ (fun Φ hΦ => hΦ _ _ _ _ _ _ _ _ _ _ _ _ _ _ _ _ _ _ _ _ _ _ _ _ _ _ _ _ _ _ (i + 1) (n + 1) (cc2) (A2) ?_))
          · have := HI.out.1; omega
          · exact ⟨by have := HI.out.1; omega, by rw [HSn.out, List.length_append, ← HI.out.2.1]; rfl, by rw [HSn.out, icells_snoc]; exact O2.out.1, O2.out.2⟩
        · have ne1 : (e.toArray = #[]) = False := by simp [k5]
          have ne2 : e.isEmpty = false := by simp [k5]
          cases k6 : Op.bytesLess ky e with
          | true =>
            rw [if_pos (by simp [Trie.inK, k4, k6])] at HSn
            clear k5
            go_upto_region 6 with fail
            obtain ⟨bx, hbx⟩ : ∃ bx, wr1.heap.size = bx := ⟨_, rfl⟩
            have FX : Hid (Blk (wr1.alloc (.cells #[.string ⟨ky.toArray⟩, .string ⟨vl.toArray⟩] 50)) bx 50 #[.string ⟨ky.toArray⟩, .string ⟨vl.toArray⟩] ∧ Below wr1.heap.size wr1 (wr1.alloc (.cells #[.string ⟨ky.toArray⟩, .string ⟨vl.toArray⟩] 50))) := Lib.hid ⟨by subst hbx; exact Blk.new _ _ _, HAl.out⟩
            try rw [hbx]
            generalize wr1.alloc (.cells #[.string ⟨ky.toArray⟩, .string ⟨vl.toArray⟩] 50) = WX at FX ⊢
            clear hbx HAl
            have x0 := FX.out.1.cell 0
            have x1 := FX.out.1.cell 1
            go_wp2_with (at_builtin; refine wpList_append_new WX 50 [.string ⟨ky.toArray⟩, .string ⟨vl.toArray⟩] rfl _ _ 22 rfl w1.heap.size 2 32 _ info_item Tryd.underlying22 rfl (by decide) (.slice O n c2) n _ rfl (own_below HI.out.2.2.1 FX.out.2) 1 1 rfl rfl (by simp [Value.oneCell']) (by simp only [maxLen]; omega) (by omega) w1.heap.size w1 (HI.out.2.2.2.nxt FX.out.2) (Nat.le_refl _) (HI.out.2.2.2.nxt FX.out.2).size ?_; intro v2 w2 hown2 hb2 _ _ _; obtain ⟨A2, cc2, rfl, _, _, _⟩ := own_form hown2; have O2 := Lib.hid (And.intro hown2 hb2); clear hown2 hb2)
            refine Handed.intro (L.length - (i + 1)) ?_ (hJ1 _ _ _ (fun Φ hΦ => hΦ _ _ _ _ _ _ _ _ _ _ _ _ _ _ _ _ _ _ _ _ _ _ _ _ _ _ _ _ _ _ (i + 1) (n + 1) (cc2) (A2) ?_))
            · have := HI.out.1; omega
            · exact ⟨by have := HI.out.1; omega, by rw [HSn.out, List.length_append, ← HI.out.2.1]; rfl, by rw [HSn.out, icells_snoc]; exact O2.out.1, O2.out.2⟩
          | false =>
            rw [if_neg (by simp [Trie.inK, k4, k6, k5])] at HSn
            clear k5
            go_wp2_with fail
            refine Handed.intro (L.length - (i + 1)) ?_ (hJ1 _ _ _ (fun Φ hΦ => hΦ _ _ _ _ _ _ _ _ _ _ _ _ _ _ _ _ _ _ _ _ _ _ _ _ _ _ _ _ _ _ (i + 1) (n) (c2) (O) ?_))
            · have := HI.out.1; omega
            · exact ⟨by have := HI.out.1; omega, by rw [HSn.out]; exact HI.out.2.1, by rw [HSn.out]; exact own_below HI.out.2.2.1 HAl.out, HI.out.2.2.2.nxt HAl.out⟩
    · have hi1 : ((i : Int) < L.length) = False := by simp; omega
      have HF : Hid (Trie.allIn L f e = Trie.allIn (L.take i) f e) := Lib.hid (by rw [List.take_of_length_le (by omega)])
      go_wp2_with fail
      exact HP.out _ _ _ _ (by rw [HF.out]; exact HI.out.2.1) (by rw [HF.out]; exact own_lower HI.out.2.2.1 HB1.out.size) (HB1.out.nxt HI.out.2.2.2)
end Go.Proofs.YtcjafcbekegmlaaDoor

namespace Go.Proofs.YtcjafcbekegmlaaDoor
set_option linter.unusedVariables false
open Go.RowKit Go.Instr
attribute [local go_sem] ba_get ByteArray.mk_append_mk
attribute [local go_sem ↓] Go.wp_at_zero Go.wp_at_succ
theorem few30_items (L : List Trie.KV) : (Trie.itemsW (fewU L)).length ≤ 30 := by
  rw [Trie.itemsW, List.length_map, Trie.length_items]; exact (fewU_good L).2
theorem allIn_len (L : List Trie.KV) (f e : List UInt8) : (Trie.allIn L f e).length ≤ L.length := List.length_filter_le _ _
theorem pageN_small {t : Trie.T} (h : Trie.Good t) (hc : Trie.count t ≤ 30) (f e : List UInt8) (m : Nat) : (Trie.pageN t f e m).length ≤ 1000 ∧ ∀ x ∈ Trie.pageN t f e m, x.length ≤ 700 := by
  unfold Trie.pageN
  refine ⟨?_, told_700m h _⟩
  rw [toldW, textsD, List.length_map]
  have h1 := Trie.goT_len (coverW (Nib.of f) (Nib.of (Trie.upToW (Trie.pageW (Trie.itemsW t) f e m).2 e)) (Trie.upToW (Trie.pageW (Trie.itemsW t) f e m).2 e)) t []
  by_cases hn : t = .nil
  · subst hn; simp [Trie.goT]
  · have := (Trie.nodes_le t h.wf hn).1; omega
theorem pageW_len (L : List Trie.KV) (f e : List UInt8) (m : Nat) : (Trie.pageW L f e m).1.length ≤ L.length := by
  unfold Trie.pageW
  split
  · exact allIn_len L f e
  · simp only [List.length_take]; have := allIn_len L f e; omega
end Go.Proofs.YtcjafcbekegmlaaDoor

namespace Go.Proofs.YtcjafcbekegmlaaDoor
set_option linter.unusedVariables false
open Go.RowKit Go.Instr
attribute [local go_sem] ba_get ByteArray.mk_append_mk
attribute [local go_sem ↓] Go.wp_at_zero Go.wp_at_succ
set_option maxHeartbeats 400000 in
theorem book_Below14 (x : Int) (n : Nat) (w : World) (hn : 1 ≤ n) (hn2 : n ≤ 1048576) :
    Calls Tryd.prog 14 #[.int .i64 x, .int .i64 n] w fun e w' => ∃ k : Nat, k < n ∧ e = .returned (.int .i64 k) ∧ w = w' := by
  have hb1 : x.tmod n < n := Int.tmod_lt_of_pos x (by omega)
  have hb2 : -(n : Int) < x.tmod n := by
    have := Int.tmod_lt_of_pos (-x) (show (0 : Int) < n by omega)
    rw [Int.neg_tmod] at this
    omega
  have q2 : wrap64 (x.tmod n + n) = x.tmod n + n := IntWalk.wrap64_in _ (by omega)
  obtain ⟨k, hk, hkeq⟩ : ∃ k : Nat, k < n ∧ (wrap64 (x.tmod n + n)).tmod n = (k : Int) := by
    rw [q2]
    have b1 := Int.tmod_lt_of_pos (x.tmod n + n) (show (0 : Int) < n by omega)
    have b2 := Int.tmod_nonneg (n : Int) (show 0 ≤ x.tmod n + n by omega)
    exact ⟨((x.tmod n + n).tmod n).toNat, by omega, by omega⟩
  have HK := Lib.hid hkeq
  have hq : ((n : Int) == 0) = false := by rw [beq_eq_false_iff_ne]; omega
  clear hkeq q2 hb1 hb2
  go_enter Tryd.func14, Tryd.ntmps14
  go_wp2
  go_ret
  exact ⟨k, hk, ret_int HK.out, rfl⟩
def PgS (t : Trie.T) (f e : List UInt8) (i : Nat) (got : List Trie.KV) (fr : List UInt8) : Prop :=
  ∃ j, i ≤ j ∧ j ≤ (Trie.allIn (Trie.itemsW t) f e).length ∧ got = (Trie.allIn (Trie.itemsW t) f e).take j ∧ Trie.allIn (Trie.itemsW t) fr e = (Trie.allIn (Trie.itemsW t) f e).drop j ∧ fr.length ≤ 1048576
theorem PgS.step {t : Trie.T} (h : Trie.Good t) {f e : List UInt8} {i : Nat} {got : List Trie.KV} {fr : List UInt8} (hs : PgS t f e i got fr) (m : Nat) (hm : 1 ≤ m) :
    ((Trie.pageW (Trie.itemsW t) fr e m).2 = [] → got ++ (Trie.pageW (Trie.itemsW t) fr e m).1 = Trie.allIn (Trie.itemsW t) f e) ∧ ((Trie.pageW (Trie.itemsW t) fr e m).2 ≠ [] → PgS t f e (i + 1) (got ++ (Trie.pageW (Trie.itemsW t) fr e m).1) (Trie.pageW (Trie.itemsW t) fr e m).2) := by
  obtain ⟨j, h1, h2, rfl, h4, h5⟩ := hs
  obtain ⟨p1, p2, p3, p4⟩ := Trie.page_spec (Trie.rises_itemsW h) (Trie.items_key h) fr e m hm
  refine ⟨fun hn => ?_, fun hn => ?_⟩
  · have hle : ¬ m < (Trie.allIn (Trie.itemsW t) fr e).length := fun hl => p1.2 hl hn
    have e1 : (Trie.pageW (Trie.itemsW t) fr e m).1 = Trie.allIn (Trie.itemsW t) fr e := by rw [p2, List.take_of_length_le (Nat.le_of_not_lt hle)]
    rw [e1, h4, List.take_append_drop]
  · have hlt := p1.1 hn
    rw [h4, List.length_drop] at hlt
    refine ⟨j + m, by omega, by omega, ?_, ?_, ?_⟩
    · rw [p2, h4, List.take_add]
    · rw [Trie.page_next (Trie.rises_itemsW h) (Trie.items_key h) fr e m hm hn, h4, List.drop_drop]
    · have : (Trie.pageW (Trie.itemsW t) fr e m).2.length ≤ 8 := by
        unfold Trie.pageW
        split
        · simp
        · exact Trie.behind_le _
      omega
set_option maxRecDepth 100000 in
set_option maxHeartbeats 8000000 in
theorem law_SpanPages (w : World) (A0 : Option Addr) (c0 : Nat) (L : List Trie.KV) (f e : List UInt8) (most : Int) (HR0 : Reads w w.heap.size 2 A0 L.length (icells L)) (hL : ∀ x ∈ L, x.1.length ≤ 9223372036854775807 ∧ x.2.length ≤ 9223372036854775807) (hf : f.length ≤ 1048576) (he : e.length ≤ 1048576) (hT : Tbl w) :
    Calls Tryd.prog 4 #[.slice A0 L.length c0, .agg #[.string ⟨f.toArray⟩, .string ⟨e.toArray⟩, .int .i64 most]] w fun e w' => e = .returned (.bool true) ∧ Below w.heap.size w w' := by
  have HP : Hid (∀ w', Below w.heap.size w w' → (fun e w' => e = Ending.returned (.bool true) ∧ Below w.heap.size w w') (Ending.returned (.bool true)) w') := Lib.hid (fun W' a2 => ⟨rfl, a2⟩)
  generalize (fun e w' => e = Ending.returned (.bool true) ∧ Below w.heap.size w w') = P at HP ⊢
  have HTb := Lib.hid hT
  have HWk := Lib.hid (fun W (hW : Below w.heap.size w W) => law14_works W (hT.next hW))
  have HSo := Lib.hid (fun W (hW : Below w.heap.size w W) => law14_some W L hL A0 c0 ((HR0.below hW).more hW.size) (hT.next hW))
  have HGd := Lib.hid (fewU_good L)
  have HLn := Lib.hid (few30_items L)
  have HFE := Lib.hid (And.intro hf he)
  generalize fewU L = t at *
  clear hL HR0 hT hf he
  go_enter Tryd.func4, Tryd.ntmps4
  go_upto_region 1 with fail
  obtain ⟨bx, hbx⟩ : ∃ bx, w.heap.size = bx := ⟨_, rfl⟩
  have F0 : Hid (Live w (w.alloc (.cells #[.string ⟨f.toArray⟩, .string ⟨e.toArray⟩, .int .i64 most] 24)) [(bx, 24, #[.string ⟨f.toArray⟩, .string ⟨e.toArray⟩, .int .i64 most])]) := Lib.hid (by subst hbx; exact Live.one ((Below.refl _ _).alloc (Nat.le_refl _) _) (Nat.le_refl _) (Blk.new _ _ _))
  try rw [hbx]
  generalize w.alloc (.cells #[.string ⟨f.toArray⟩, .string ⟨e.toArray⟩, .int .i64 most] 24) = W0 at F0 ⊢
  clear hbx
  go_wp2_with fail
  refine (HWk.out _ F0.out.b).mono ?_
  rintro q w1 ⟨rfl, hb⟩
  have F1 := Live.hb F0 hb
  clear hb F0
  go_wp2_with fail
  refine (HSo.out _ F1.out.b).mono ?_
  rintro q w2 ⟨v2, A2, n2, c2, rfl, hk2, hn2, hc2, own2, hb⟩
  have F2 := Live.hb F1 hb
  have HK2 := Lib.hid hk2
  clear hb F1 own2 hn2 hc2 hk2
  obtain ⟨_, b2, x2, rfl, _⟩ := id HK2.out
  have HBk : Hid (Blk w2 bx 24 #[.string ⟨f.toArray⟩, .string ⟨e.toArray⟩, .int .i64 most]) := Lib.hid (F2.out.blk 0 rfl)
  have HBx : Hid (∀ W, Below w2.heap.size w2 W → W.cell? ⟨bx, 0, none⟩ = some (.string ⟨f.toArray⟩) ∧ W.cell? ⟨bx, 1, none⟩ = some (.string ⟨e.toArray⟩)) := Lib.hid (fun W hW => ⟨(HBk.out.below hW HBk.out.lt).cell 0, (HBk.out.below hW HBk.out.lt).cell 1⟩)
  have HPr : Hid (∀ m : Nat, 1 ≤ m → m ≤ 16 → ∀ fr : List UInt8, fr.length ≤ 1048576 → ∀ W, Below w2.heap.size w2 W → Calls Tryd.prog 9 #[.pointer (some ⟨b2, 0, none⟩), .string ⟨fr.toArray⟩, .string ⟨e.toArray⟩, .int .i64 (m : Int)] W (PageEnd W ((Trie.pageW (Trie.itemsW t) fr e m).1, (Trie.pageW (Trie.itemsW t) fr e m).2, Trie.pageN t fr e m) 0)) := Lib.hid (fun m h1 h2 fr hfr W hW => span_Prove W t _ (HK2.out.next hW) (by have := HGd.out.2; omega) fr e hfr HFE.out.2 m h1 h2)
  have HVe : Hid (∀ m : Nat, 1 ≤ m → m ≤ 16 → ∀ fr : List UInt8, fr.length ≤ 1048576 → ∀ W A c B d, Below w2.heap.size w2 W → Reads W W.heap.size 2 A (Trie.pageW (Trie.itemsW t) fr e m).1.length (icells (Trie.pageW (Trie.itemsW t) fr e m).1) → Reads W W.heap.size 1 B (Trie.pageN t fr e m).length (strv (Trie.pageN t fr e m)) → (Trie.pageN t fr e m).length ≤ d → Calls Tryd.prog 10 #[.string ⟨(Trie.sumT t).toArray⟩, .string ⟨fr.toArray⟩, .string ⟨e.toArray⟩, .int .i64 (m : Int), .agg #[.slice A (Trie.pageW (Trie.itemsW t) fr e m).1.length c, .string ⟨(Trie.pageW (Trie.itemsW t) fr e m).2.toArray⟩, .slice B (Trie.pageN t fr e m).length d]] W (ItemsTEnd W ((Trie.pageW (Trie.itemsW t) fr e m).1, (Trie.pageW (Trie.itemsW t) fr e m).2, 0))) := Lib.hid (fun m h1 h2 fr hfr W A c B d hW x1 x2 x3 => by
    obtain ⟨s1, s2⟩ := pageN_small HGd.out.1 HGd.out.2 fr e m
    have s3 := pageW_len (Trie.itemsW t) fr e m
    have hnl : (Trie.pageW (Trie.itemsW t) fr e m).2.length ≤ 8 := by
      unfold Trie.pageW
      split
      · simp
      · exact Trie.behind_le _
    have := span_Verify W (Trie.sumT t) fr e hfr HFE.out.2 m h1 h2 _ A c x1 (by have := HLn.out; omega) (Trie.pageW (Trie.itemsW t) fr e m).2 (by omega) _ B d x2 x3 (by omega) (fun x hx => by have := s2 x hx; omega) (HTb.out.next (F2.out.b.nxt hW))
    rwa [Trie.span_whole HGd.out.1 fr e m h1] at this)
  have HRo : Hid (∀ W, Below w2.heap.size w2 W → Calls Tryd.prog 11 #[.pointer (some ⟨b2, 0, none⟩)] W (Ret W (.string ⟨(Trie.sumT t).toArray⟩))) := Lib.hid (fun W hW => (trie_Root W t _ (HK2.out.next hW)).mono (by rintro e w' ⟨rfl, rfl⟩; exact ⟨rfl, Below.refl _ _⟩))
  have HWi : Hid (∀ W, Below w2.heap.size w2 W → Calls Tryd.prog 12 #[.pointer (some ⟨b2, 0, none⟩), .string ⟨f.toArray⟩, .string ⟨e.toArray⟩] W (ItemsEnd W (Trie.allIn (Trie.itemsW t) f e))) := Lib.hid (fun W hW => law14_within W t _ (HK2.out.next hW) (by have := HGd.out.2; omega) f e)
  have HAl := Lib.hid (allIn_len (Trie.itemsW t) f e)
  have HPg0 : Hid (PgS t f e 0 [] f) := Lib.hid ⟨0, Nat.le_refl _, Nat.zero_le _, rfl, rfl, HFE.out.1⟩
  generalize Trie.sumT t = sm at *
  have k0_0 : w2.cell? ⟨bx, 0, none⟩ = some (.string ⟨f.toArray⟩) := F2.out.cell 0 0 rfl rfl; have k0_1 : w2.cell? ⟨bx, 1, none⟩ = some (.string ⟨e.toArray⟩) := F2.out.cell 0 1 rfl rfl; have k0_2 : w2.cell? ⟨bx, 2, none⟩ = some (.int .i64 most) := F2.out.cell 0 2 rfl rfl
  go_wp2_with fail
  refine (book_Below14 most 16 _ (by omega) (by omega)).mono ?_
  rintro q w3 ⟨kk, hk, rfl, rfl⟩
  have hk16 : (kk : Int) < 16 := by omega
  have hk0 : (0 : Int) ≤ kk := by omega
  have HPr := Lib.hid (HPr.out (1 + kk) (by omega) (by omega))
  have HVe := Lib.hid (HVe.out (1 + kk) (by omega) (by omega))
  have HF2 := Lib.hid F2.out.b
  obtain ⟨i0, hi0, hz0, hz1, hz2⟩ := info_parts info_item
  clear HBk HSo HWk F2
  go_wp2_with fail
  refine wp_loop_ghost_k (fun k a wr => ∀ Φ : Act → Prop, (∀ (s0 s1 s2 s4 s6 s10 s11 s12 s13 s14 s15 s16 s17 s18 s19 s20 s21 s22 s23 s24 s25 s26 s27 s29 s30 s31 s32 s33 s34 s35 s36 s37 s38 s39 s40 s41 s42 s43 s44 s45 s46 s47 s48 s49 s50 s51 s52 s53 s54 s55 s56 s57 s58 s59 s60 s61 s62 s63 s64 s65 s66 s67 s68 s69 s70 s71 : Value) (i n c2 : Nat) (O : Option Addr) (got : List Trie.KV) (fr : List UInt8), (i + k = 40 ∧ PgS t f e i got fr ∧ (n = got.length ∧ wr.ownsRow w2.heap.size 50 2 (.slice O n c2) n (icells got)) ∧ Below w2.heap.size w2 wr) → Φ { tmps := #[s0, s1, s2, .pointer (some ⟨bx, 0, none⟩), s4, .pointer (some ⟨b2, 0, none⟩), s6, .int .i64 (1 + (kk : Int)), .slice O n c2, .string ⟨fr.toArray⟩, s10, s11, s12, s13, s14, s15, s16, s17, s18, s19, s20, s21, s22, s23, s24, s25, s26, s27, .int .i64 (i : Int), s29, s30, s31, s32, s33, s34, s35, s36, s37, s38, s39, s40, s41, s42, s43, s44, s45, s46, s47, s48, s49, s50, s51, s52, s53, s54, s55, s56, s57, s58, s59, s60, s61, s62, s63, s64, s65, s66, s67, s68, s69, s70, s71], defers := [] }) → Φ a) (40) ?_ ?_
  · refine fun Φ hΦ => hΦ _ _ _ _ _ _ _ _ _ _ _ _ _ _ _ _ _ _ _ _ _ _ _ _ _ _ _ _ _ _ _ _ _ _ _ _ _ _ _ _ _ _ _ _ _ _ _ _ _ _ _ _ _ _ _ _ _ _ _ _ _ _ _ _ _ _ (0) (0) (0) (none) ([]) (f) ?_
    exact ⟨rfl, HPg0.out, ⟨rfl, World.ownsRow_nil _ _ _ _⟩, Below.refl _ _⟩
  · intro k1 a1 wr1 hI1 J1 K1 hJ1 hK1
    refine hI1 (fun a => Code.wp _ _ _ a _) ?_
    clear hI1 a1
    intro s0 s1 s2 s3 s4 s5 s6 s7 s8 s9 s10 s11 s12 s13 s14 s15 s16 s17 s18 s19 s20 s21 s22 s23 s24 s25 s26 s27 s28 s29 s30 s31 s32 s33 s34 s35 s36 s37 s38 s39 s40 s41 s42 s43 s44 s45 s46 s47 s48 s49 s50 s51 s52 s53 s54 s55 s56 s57 s58 s59 s60 s61 s62 s63 s64 s65 i n c2 O got fr hrel
    show Code.wp _ _ _ _ _
    clear HPg0
    obtain ⟨h1, h2, h3, h4⟩ := hrel
    obtain ⟨j, j1, j2, _, _, j5⟩ := id h2
    have HI := Lib.hid (And.intro h1 (And.intro h3.1 h4))
    have HOw := Lib.hid h3.2
    have HSt := Lib.hid (And.intro h2 j5)
    have hi40 : (i : Int) < 40 := by have := HAl.out; have := HLn.out; omega
    have hgn : n ≤ 30 := by
      have := HAl.out; have := HLn.out
      rw [h3.1]
      obtain ⟨_, _, _, hg, _⟩ := h2
      rw [hg, List.length_take]; omega
    clear h1 h2 h3 h4 j1 j2 j5
    have HPr1 := Lib.hid (HPr.out fr HSt.out.2 _ HI.out.2.2)
    have HVe1 := Lib.hid (HVe.out fr HSt.out.2)
    have HPl := Lib.hid (pageW_len (Trie.itemsW t) fr e (1 + kk))
    have HStp := Lib.hid (PgS.step HGd.out.1 HSt.out.1 (1 + kk) (by omega))
    have F0 : Hid (Live w2 wr1 []) := Lib.hid ⟨HI.out.2.2, by simp, List.Pairwise.nil⟩
    have e1 := (HBx.out _ HI.out.2.2).2
    generalize Trie.pageW (Trie.itemsW t) fr e (1 + kk) = pg at *
    generalize Trie.pageN t fr e (1 + kk) = N at *
    obtain ⟨l, s⟩ := pg
    simp only at HPr1 HVe1 HPl HStp
    go_wp2_with fail
    refine HPr1.out.mono ?_
    rintro q w3 ⟨A3, c3, B3, d3, rfl, own3, hc3, ownN3, hd3, hb⟩
    have F3 := Live.hb F0 hb
    have HB3 := Lib.hid hb
    have R3 := Lib.hid (And.intro (Reads.of_own own3) (And.intro (Reads.of_own ownN3) hd3))
    clear hb own3 ownN3 hc3 hd3 HPr1 e1
    go_upto_region 10 with fail
    have F4 := Live.ha F3 #[.slice A3 l.length c3, .string ⟨s.toArray⟩, .slice B3 N.length d3] 31
    have HA4 : Hid (Below w3.heap.size w3 (World.alloc w3 (.cells #[.slice A3 l.length c3, .string ⟨s.toArray⟩, .slice B3 N.length d3] 31))) := Lib.hid ((Below.refl _ w3).alloc (Nat.le_refl _) _)
    generalize World.alloc w3 _ = W4 at F4 HA4 ⊢
    generalize w3.heap.size = pb at F4 ⊢
    clear F3
    have k0_0 : W4.cell? ⟨pb, 0, none⟩ = some (.slice A3 l.length c3) := F4.out.cell 0 0 rfl rfl; have k0_1 : W4.cell? ⟨pb, 1, none⟩ = some (.string ⟨s.toArray⟩) := F4.out.cell 0 1 rfl rfl; have k0_2 : W4.cell? ⟨pb, 2, none⟩ = some (.slice B3 N.length d3) := F4.out.cell 0 2 rfl rfl
    have R4 : Hid (∀ W, Below w3.heap.size w3 W → Reads W W.heap.size 2 A3 l.length (icells l) ∧ Reads W W.heap.size 1 B3 N.length (strv N) ∧ N.length ≤ d3) := Lib.hid (fun W hW => ⟨(R3.out.1.below hW).more hW.size, (R3.out.2.1.below hW).more hW.size, R3.out.2.2⟩)
    have e1 := (HBx.out _ F4.out.b).2
    clear R3
    go_region_held3 (fun w' => (w'.cell? ⟨pb, 0, none⟩ = some (.slice A3 l.length c3) ∧ w'.cell? ⟨pb, 1, none⟩ = some (.string ⟨s.toArray⟩) ∧ w'.cell? ⟨pb, 2, none⟩ = some (.slice B3 N.length d3)) ∧ w'.cell? ⟨bx, 1, none⟩ = some (.string ⟨e.toArray⟩)) (first | go_keep | (refine ⟨⟨?_, ?_, ?_⟩, ?_⟩ <;> assumption)) (first
      | (go_at_call 11; refine (HRo.out _ (by first | exact F4.out.b | exact F4.out.b.drew)).mono ?_; rintro q w6 ⟨rfl, hb⟩; have B6 : Below W4.heap.size W4 w6 := (by first | exact hb | exact hb.start); have F6 := Live.hb F4 B6; have z0 := F6.out.cell 0 0 rfl rfl; have z1 := F6.out.cell 0 1 rfl rfl; have z2 := F6.out.cell 0 2 rfl rfl; have z3 := (HBx.out _ F6.out.b).2; clear hb)
      | (go_at_call 10; refine (HVe1.out _ _ _ _ _ F6.out.b (R4.out _ (HA4.out.nxt B6)).1 (R4.out _ (HA4.out.nxt B6)).2.1 (R4.out _ (HA4.out.nxt B6)).2.2).mono ?_; rintro q w7 ⟨A7, c7, rfl, own7, hb⟩; have B7 : Below w6.heap.size w6 w7 := (by first | exact hb | exact hb.start); have F7 := Live.hb F6 B7; have O7 := Lib.hid own7; have g0 := F7.out.cell 0 0 rfl rfl; have g1 := F7.out.cell 0 1 rfl rfl; have g2 := F7.out.cell 0 2 rfl rfl; have g3 := (HBx.out _ F7.out.b).2; clear hb own7))
    have HB7 := Lib.hid (((HB3.out.nxt HA4.out).nxt B6).nxt B7)
    have own7 := own_below HOw.out HB7.out
    have R7 := Lib.hid (Reads.of_own O7.out)
    have R7' := R7.out
    have hl30 : l.length ≤ 30 := by have := HPl.out; have := HLn.out; omega
    have b7 := F7.out.b.size
    clear g0 g1 g2 g3 k0_0 k0_1 k0_2 e1 z0 z1 z2 z3
    by_cases hs : s = []
    · subst hs
      go_wp2_with (at_builtin; refine wpList_append_any w7 rfl _ _ 22 rfl w2.heap.size 50 i0 _ 2 32 Tryd.underlying22 hi0 hz0 hz1 hz2 rfl (by decide) (.slice O n c2) n _ rfl own7 w7.heap.size A7 l.length c7 (icells l) rfl R7' (icells_one _) (by simp only [maxLen]; omega) (by omega) b7 ?_; intro v9 w9 own9 hg9 ho9; obtain ⟨A9, c9, rfl, _, _, _⟩ := own_form own9; have O9 := Lib.hid (And.intro own9 hg9); have k9 := (HBx.out _ (F7.out.b.grown hg9 F7.out.b.size (fun q hq => (own7.lt q hq).1))).1; have k9' := (HBx.out _ (F7.out.b.grown hg9 F7.out.b.size (fun q hq => (own7.lt q hq).1))).2; clear own9 hg9 ho9)
      have HB9 : Hid (Below w2.heap.size w2 w9) := Lib.hid (F7.out.b.grown O9.out.2 F7.out.b.size (fun q hq => (own7.lt q hq).1))
      have O9' : Hid (w9.ownsRow w2.heap.size 50 2 (.slice A9 (n + l.length) c9) (n + l.length) (icells (Trie.allIn (Trie.itemsW t) f e))) := Lib.hid (by rw [← HStp.out.1 trivial, icells_append]; exact O9.out.1)
      have hAl := HAl.out
      have hLn := HLn.out
      refine (HWi.out _ HB9.out).mono ?_
      rintro q w10 ⟨A10, n10, c10, rfl, hn10, own10, hb⟩
      obtain rfl := hn10
      have HB10 := Lib.hid (HB9.out.nxt hb)
      have HSm := Lib.hid (book_SameItems A9 A10 _ _ c9 c10 (Trie.allIn (Trie.itemsW t) f e) (Trie.allIn (Trie.itemsW t) f e) w10 ((Reads.of_own (own_below O9'.out hb))) (Reads.of_own own10) (by omega) (by omega))
      rw [decide_eq_true rfl] at HSm
      clear hb own10
      go_wp2_with fail
      refine HSm.out.mono ?_
      rintro q w11 ⟨rfl, hb⟩
      have HB11 := Lib.hid (HF2.out.nxt (HB10.out.nxt hb))
      clear hb
      go_wp2_with fail
      exact HP.out _ HB11.out
    have ne2 : s.isEmpty = false := by simp [hs]
    go_wp2_with (at_builtin; refine wpList_append_any w7 rfl _ _ 22 rfl w2.heap.size 50 i0 _ 2 32 Tryd.underlying22 hi0 hz0 hz1 hz2 rfl (by decide) (.slice O n c2) n _ rfl own7 w7.heap.size A7 l.length c7 (icells l) rfl R7' (icells_one _) (by simp only [maxLen]; omega) (by omega) b7 ?_; intro v9 w9 own9 hg9 ho9; obtain ⟨A9, c9, rfl, _, _, _⟩ := own_form own9; have O9 := Lib.hid (And.intro own9 hg9); clear own9 hg9 ho9)
    have HB9 : Hid (Below w2.heap.size w2 w9) := Lib.hid (F7.out.b.grown O9.out.2 F7.out.b.size (fun q hq => (own7.lt q hq).1))
    refine Handed.intro (40 - (i + 1)) ?_ (hJ1 _ _ _ (fun Φ hΦ => hΦ _ _ _ _ _ _ _ _ _ _ _ _ _ _ _ _ _ _ _ _ _ _ _ _ _ _ _ _ _ _ _ _ _ _ _ _ _ _ _ _ _ _ _ _ _ _ _ _ _ _ _ _ _ _ _ _ _ _ _ _ _ _ _ _ _ _ (i + 1) (n + l.length) (c9) (A9) (got ++ l) (s) ?_))
    · have := HI.out.1; omega
    exact ⟨by have := HI.out.1; omega, HStp.out.2 hs, ⟨by rw [List.length_append, HI.out.2.1], by rw [icells_append]; exact O9.out.1⟩, HB9.out⟩
end Go.Proofs.YtcjafcbekegmlaaDoor
