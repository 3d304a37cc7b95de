import Derived.Test.YtcjafcbekegmlaaDoorJ37
import Derived.Test.YtcjafcbekegmlaaDoorJ38
import Derived.Test.YtcjafcbekegmlaaDoorJ30
set_option linter.unusedSimpArgs false
set_option linter.unusedVariables false
namespace Go.Proofs.YtcjafcbekegmlaaDoor
set_option linter.unusedVariables false
open Go.RowKit Go.Instr
attribute [local go_sem] ba_get ByteArray.mk_append_mk
attribute [local go_sem ↓] Go.wp_at_zero Go.wp_at_succ
def works14 : Trie.T := (Trie.ofW .nil [([97], [49]), ([98], [50]), ([99], [51])]).1
theorem works14_of : Trie.ofW .nil [([97], [49]), ([98], [50]), ([99], [51])] = (works14, 0) := Prod.ext rfl (by decide +kernel)
theorem Good.ofW14 : ∀ (l : List Trie.KV) (t : Trie.T), Trie.Good t → (Trie.ofW t l).2 = 0 → Trie.Good (Trie.ofW t l).1 ∧ Trie.count (Trie.ofW t l).1 ≤ Trie.count t + l.length
  | [], t, h, _ => ⟨h, by simp [Trie.ofW]⟩
  | x :: l, t, h, hc => by
    unfold Trie.ofW at hc ⊢
    by_cases hp : Trie.putCode x.1 x.2 = 0
    · rw [if_pos hp] at hc ⊢
      obtain ⟨a1, a2, a3⟩ := Trie.putCode_zero hp
      obtain ⟨b1, b2⟩ := Good.ofW14 l _ (Trie.Good.put h a1 a2 a3) hc
      have := Trie.count_put t (Nib.of x.1) x.2
      exact ⟨b1, by rw [List.length_cons]; omega⟩
    · rw [if_neg hp] at hc
      exact absurd hc hp
theorem works14_good : Trie.Good works14 ∧ Trie.count works14 ≤ 3 := by
  have := Good.ofW14 [([97], [49]), ([98], [50]), ([99], [51])] .nil Trie.Good.nil (by rw [works14_of])
  rw [works14_of] at this
  exact ⟨this.1, by have := this.2; simp [Trie.count] at this; exact this⟩
theorem works14_items : Trie.itemsW works14 = [([97], [49]), ([98], [50]), ([99], [51])] := by decide +kernel
theorem works14_p : Trie.pageW (Trie.itemsW works14) [98] [99] 5 = ([([98], [50])], []) := by rw [works14_items]; decide +kernel
theorem works14_q : Trie.pageW (Trie.itemsW works14) [98] [] 1 = ([([98], [50])], [98, 0]) := by rw [works14_items]; decide +kernel
theorem works14_n : (Trie.pageN works14 [98] [99] 5).length = 3 := by
  unfold Trie.pageN
  rw [works14_p]
  rw [toldW, textsD, List.length_map]
  decide +kernel
set_option maxRecDepth 100000 in
set_option maxHeartbeats 4000000 in
theorem law14_works (w : World) (hT : Tbl w) :
    Calls Tryd.prog 7 #[] w fun e w' => e = .returned (.bool true) ∧ Below w.heap.size w w' := by
  have HP : Hid (∀ w', Below w.heap.size w w' → (fun e w' => e = Ending.returned (.bool true) ∧ Below w.heap.size w w') (Ending.returned (.bool true)) w') := Lib.hid (fun W' a2 => ⟨rfl, a2⟩)
  generalize (fun e w' => e = Ending.returned (.bool true) ∧ Below w.heap.size w w') = P at HP ⊢
  have HTb := Lib.hid hT
  have HW : Hid (∀ (W : World) f, Below W.heap.size W (W.alloc (.cells f 50))) := Lib.hid (fun W f => by go_grown)
  clear hT
  go_enter Tryd.func7, Tryd.ntmps7
  go_wp2_with fail
  refine (trie_Of [([97], [49]), ([98], [50]), ([99], [51])] (by simp) (by simp) _ ?_ _ _ ?_).mono ?_
  · exact HTb.out.next (by go_grown)
  · exact reads_blk (Blk.new _ _ _) (by simp)
  rw [works14_of]
  rintro e w1 ⟨v1, rfl, hb1, hk1, _⟩
  have HB1 : Hid (Below w.heap.size w w1) := Lib.hid ((HW.out _ _).nxt hb1)
  have HK1 := Lib.hid (hk1 rfl)
  clear hb1 hk1
  obtain ⟨_, b1, x1, rfl, _⟩ := id HK1.out
  have HPa : Hid (∀ W, Below w1.heap.size w1 W → Calls Tryd.prog 9 #[.pointer (some ⟨b1, 0, none⟩), .string ⟨#[98]⟩, .string ⟨#[99]⟩, .int .i64 5] W (fun e w' => ∃ A c B d, e = .returned (.tuple #[.agg #[.slice A 1 c, .string ⟨#[]⟩, .slice B 3 d], .int .i64 0]) ∧ Below W.heap.size W w')) := Lib.hid (fun W hW => by
    have := span_Prove W works14 _ (HK1.out.next hW) (by have := works14_good.2; omega) [98] [99] (by simp) (by simp) 5 (by omega) (by omega)
    rw [works14_p] at this
    refine this.mono ?_
    rintro e w' ⟨A, c, B, d, rfl, _, _, _, _, hb⟩
    simp only [works14_n]
    exact ⟨A, c, B, d, rfl, hb⟩)
  obtain ⟨Nq, hNq⟩ : ∃ N, Trie.pageN works14 [98] [] 1 = N := ⟨_, rfl⟩
  have HNl : Hid (Nq.length ≤ 1000 ∧ ∀ x ∈ Nq, x.length ≤ 700) := Lib.hid (by
    rw [← hNq]
    unfold Trie.pageN
    refine ⟨?_, told_700m works14_good.1 _⟩
    rw [toldW, textsD, List.length_map]
    have h1 := Trie.goT_len (coverW (Nib.of [98]) (Nib.of (Trie.upToW (Trie.pageW (Trie.itemsW works14) [98] [] 1).2 [])) (Trie.upToW (Trie.pageW (Trie.itemsW works14) [98] [] 1).2 [])) works14 []
    have h2 : Trie.nodes works14 = 5 := by decide +kernel
    omega)
  have HPb : Hid (∀ W, Below w1.heap.size w1 W → Calls Tryd.prog 9 #[.pointer (some ⟨b1, 0, none⟩), .string ⟨#[98]⟩, .string ⟨#[]⟩, .int .i64 1] W (PageEnd W ([([98], [50])], [98, 0], Nq) 0)) := Lib.hid (fun W hW => by
    have := span_Prove W works14 _ (HK1.out.next hW) (by have := works14_good.2; omega) [98] [] (by simp) (by simp) 1 (by omega) (by omega)
    rwa [works14_q, hNq] at this)
  have HVe : Hid (∀ W A c B d, Below w1.heap.size w1 W → Reads W W.heap.size 2 A 1 (icells [([98], [50])]) → Reads W W.heap.size 1 B Nq.length (strv Nq) → Nq.length ≤ d → Calls Tryd.prog 10 #[.string ⟨(Trie.sumT works14).toArray⟩, .string ⟨#[98]⟩, .string ⟨#[]⟩, .int .i64 1, .agg #[.slice A 1 c, .string ⟨#[98, 0]⟩, .slice B Nq.length d]] W (ItemsTEnd W ([([98], [50])], [98, 0], 0))) := Lib.hid (fun W A c B d hW h1 h2 h3 => by
    have := span_Verify W (Trie.sumT works14) [98] [] (by simp) (by simp) 1 (by omega) (by omega) [([98], [50])] A c h1 (by simp) [98, 0] (by simp) Nq B d h2 h3 (by have := HNl.out.1; omega) (fun x hx => by have := HNl.out.2 x hx; omega) (HTb.out.next (HB1.out.nxt hW))
    have hw := Trie.span_whole works14_good.1 [98] [] 1 (by omega)
    rw [works14_q, hNq] at hw
    rwa [hw] at this)
  clear hNq
  generalize hsm : Trie.sumT works14 = sm at *
  have HSm := Lib.hid hsm
  clear hsm
  have F1 : Hid (Live w1 w1 []) := Lib.hid (Live.start w1)
  go_wp2_with fail
  refine (HPa.out _ (Below.refl _ _)).mono ?_
  rintro e w2 ⟨A2, c2, B2, d2, rfl, hb⟩
  have F2 := Live.hb F1 hb
  clear hb HPa F1
  go_upto_region 5 with fail
  have F3 := Live.ha F2 #[.slice A2 1 c2, .string ⟨#[]⟩, .slice B2 3 d2] 31
  generalize World.alloc w2 _ = W3 at F3 ⊢
  generalize w2.heap.size = pa at F3 ⊢
  clear F2
  go_wp2_with fail
  refine (HPb.out _ F3.out.b).mono ?_
  rintro e w4 ⟨A4, c4, B4, d4, rfl, own4, hc4, ownN4, hd4, hb⟩
  have F4 := Live.hb F3 hb
  have R4 := Lib.hid (And.intro (Reads.of_own own4) (And.intro (Reads.of_own ownN4) hd4))
  clear hb own4 ownN4 hc4 hd4 HPb F3
  go_upto_region 6 with fail
  have F5 := Live.ha F4 #[.slice A4 1 c4, .string ⟨#[98, 0]⟩, .slice B4 Nq.length d4] 31
  have R5 := Lib.hid (fun W (hW : Below (World.alloc w4 (.cells #[.slice A4 1 c4, .string ⟨#[98, 0]⟩, .slice B4 Nq.length d4] 31)).heap.size (World.alloc w4 (.cells #[.slice A4 1 c4, .string ⟨#[98, 0]⟩, .slice B4 Nq.length d4] 31)) W) => have hb : Below w4.heap.size w4 W := ((Below.refl _ w4).alloc (Nat.le_refl _) _).nxt hW; And.intro ((R4.out.1.below hb).more hb.size) (And.intro ((R4.out.2.1.below hb).more hb.size) R4.out.2.2))
  generalize World.alloc w4 _ = W5 at F5 R5 ⊢
  generalize w4.heap.size = pb at F5 ⊢
  clear F4 R4
  have HRo : Hid (∀ W, Below w1.heap.size w1 W → Calls Tryd.prog 11 #[.pointer (some ⟨b1, 0, none⟩)] W (Ret W (.string ⟨sm.toArray⟩))) := Lib.hid (fun W hW => (trie_Root W works14 _ (HK1.out.next hW)).mono (by rw [HSm.out]; rintro e w' ⟨rfl, rfl⟩; exact ⟨rfl, Below.refl _ _⟩))
  have k0_0 : W5.cell? ⟨pb, 0, none⟩ = some (.slice A4 1 c4) := F5.out.cell 0 0 rfl rfl; have k0_1 : W5.cell? ⟨pb, 1, none⟩ = some (.string ⟨#[98, 0]⟩) := F5.out.cell 0 1 rfl rfl; have k0_2 : W5.cell? ⟨pb, 2, none⟩ = some (.slice B4 Nq.length d4) := F5.out.cell 0 2 rfl rfl
  go_region_held3 (fun w' => w'.cell? ⟨pb, 0, none⟩ = some (.slice A4 1 c4) ∧ w'.cell? ⟨pb, 1, none⟩ = some (.string ⟨#[98, 0]⟩) ∧ w'.cell? ⟨pb, 2, none⟩ = some (.slice B4 Nq.length d4)) (first | go_keep | (refine ⟨?_, ?_, ?_⟩ <;> assumption)) (first
    | (go_at_call 11; refine (HRo.out _ (by first | exact F5.out.b | exact F5.out.b.drew)).mono ?_; rintro e w6 ⟨rfl, hb⟩; have B6 : Below W5.heap.size W5 w6 := (by first | exact hb | exact hb.start); have F6 := Live.hb F5 B6; have d0 := F6.out.cell 0 0 rfl rfl; have d1 := F6.out.cell 0 1 rfl rfl; have d2 := F6.out.cell 0 2 rfl rfl; clear hb)
    | (go_at_call 10; refine (HVe.out _ _ _ _ _ (by first | exact F6.out.b) (R5.out _ B6).1 (R5.out _ B6).2.1 (R5.out _ B6).2.2).mono ?_; rintro e w7 ⟨A7, c7, rfl, own7, hb⟩; have B7 : Below w6.heap.size w6 w7 := (by first | exact hb | exact hb.start); have F7 := Live.hb F6 B7; have O7 := Lib.hid own7; have g0 := F7.out.cell 0 0 rfl rfl; have g1 := F7.out.cell 0 1 rfl rfl; have g2 := F7.out.cell 0 2 rfl rfl; clear hb own7))
  have k1_0 := F7.out.cell 1 0 rfl rfl
  have k1_1 := F7.out.cell 1 1 rfl rfl
  have k1_2 := F7.out.cell 1 2 rfl rfl
  obtain ⟨ad, off, hA7, _, hcell⟩ := (Reads.of_own O7.out).form (by decide) (by decide)
  subst hA7
  have q1 : w7.cell? ⟨ad, off + 1, none⟩ = some (.string ⟨#[50]⟩) := hcell 1 (by decide)
  clear hcell
  go_wp2_with fail
  exact HP.out _ (HB1.out.nxt F7.out.b)
end Go.Proofs.YtcjafcbekegmlaaDoor

namespace Go.Proofs.YtcjafcbekegmlaaDoor
set_option linter.unusedVariables false
open Go.RowKit Go.Instr
attribute [local go_sem] ba_get ByteArray.mk_append_mk
attribute [local go_sem ↓] Go.wp_at_zero Go.wp_at_succ
theorem few30_items (L : List Trie.KV) : (Trie.itemsW (fewU L)).length ≤ 30 := by
  rw [Trie.itemsW, List.length_map, Trie.length_items]; exact (fewU_good L).2
theorem allIn_len (L : List Trie.KV) (f e : List UInt8) : (Trie.allIn L f e).length ≤ L.length := List.length_filter_le _ _
theorem pageN_small {t : Trie.T} (h : Trie.Good t) (hc : Trie.count t ≤ 30) (f e : List UInt8) (m : Nat) : (Trie.pageN t f e m).length ≤ 1000 ∧ ∀ x ∈ Trie.pageN t f e m, x.length ≤ 700 := by
  unfold Trie.pageN
  refine ⟨?_, told_700m h _⟩
  rw [toldW, textsD, List.length_map]
  have h1 := Trie.goT_len (coverW (Nib.of f) (Nib.of (Trie.upToW (Trie.pageW (Trie.itemsW t) f e m).2 e)) (Trie.upToW (Trie.pageW (Trie.itemsW t) f e m).2 e)) t []
  by_cases hn : t = .nil
  · subst hn; simp [Trie.goT]
  · have := (Trie.nodes_le t h.wf hn).1; omega
theorem pageW_len (L : List Trie.KV) (f e : List UInt8) (m : Nat) : (Trie.pageW L f e m).1.length ≤ L.length := by
  unfold Trie.pageW
  split
  · exact allIn_len L f e
  · simp only [List.length_take]; have := allIn_len L f e; omega
end Go.Proofs.YtcjafcbekegmlaaDoor

namespace Go.Proofs.YtcjafcbekegmlaaDoor
set_option linter.unusedVariables false
open Go.RowKit Go.Instr
attribute [local go_sem] ba_get ByteArray.mk_append_mk
attribute [local go_sem ↓] Go.wp_at_zero Go.wp_at_succ
set_option maxHeartbeats 400000 in
theorem book_Below14 (x : Int) (n : Nat) (w : World) (hn : 1 ≤ n) (hn2 : n ≤ 1048576) :
    Calls Tryd.prog 14 #[.int .i64 x, .int .i64 n] w fun e w' => ∃ k : Nat, k < n ∧ e = .returned (.int .i64 k) ∧ w = w' := by
  have hb1 : x.tmod n < n := Int.tmod_lt_of_pos x (by omega)
  have hb2 : -(n : Int) < x.tmod n := by
    have := Int.tmod_lt_of_pos (-x) (show (0 : Int) < n by omega)
    rw [Int.neg_tmod] at this
    omega
  have q2 : wrap64 (x.tmod n + n) = x.tmod n + n := IntWalk.wrap64_in _ (by omega)
  obtain ⟨k, hk, hkeq⟩ : ∃ k : Nat, k < n ∧ (wrap64 (x.tmod n + n)).tmod n = (k : Int) := by
    rw [q2]
    have b1 := Int.tmod_lt_of_pos (x.tmod n + n) (show (0 : Int) < n by omega)
    have b2 := Int.tmod_nonneg (n : Int) (show 0 ≤ x.tmod n + n by omega)
    exact ⟨((x.tmod n + n).tmod n).toNat, by omega, by omega⟩
  have HK := Lib.hid hkeq
  have hq : ((n : Int) == 0) = false := by rw [beq_eq_false_iff_ne]; omega
  clear hkeq q2 hb1 hb2
  go_enter Tryd.func14, Tryd.ntmps14
  go_wp2
  go_ret
  exact ⟨k, hk, ret_int HK.out, rfl⟩
end Go.Proofs.YtcjafcbekegmlaaDoor
