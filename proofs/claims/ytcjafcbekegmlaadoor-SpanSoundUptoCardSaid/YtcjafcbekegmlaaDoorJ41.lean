import Derived.Test.YtcjafcbekegmlaaDoorJ40
import Derived.Test.YtcjafcbekegmlaaDoorJ23
import Derived.Test.YtcjafcbekegmlaaDoorJ37
set_option linter.unusedSimpArgs false
set_option linter.unusedVariables false
namespace Go.Proofs.YtcjafcbekegmlaaDoor
set_option linter.unusedVariables false
open Go.RowKit Go.Instr
attribute [local go_sem] ba_get ByteArray.mk_append_mk
attribute [local go_sem ↓] Go.wp_at_zero Go.wp_at_succ
def okI (x : Trie.KV) : Prop := x.1.length ≤ 100 ∧ x.2.length ≤ 100
def BigEnd (w : World) (items : List Trie.KV) (nx : List UInt8) (nodes : List (List UInt8)) (e : Ending) (w' : World) : Prop :=
  ∃ b, e = .returned (.bool b) ∧ Below w.heap.size w w' ∧ (b = false → items.length ≤ 40 ∧ (nodes.length ≤ 60 ∧ ∀ x ∈ nodes, x.length ≤ 700) ∧ (∀ x ∈ items, okI x) ∧ nx.length ≤ 100)
theorem few_said {l : List (List UInt8)} {n each : Nat} (h : fewW l n each = true) : l.length ≤ n ∧ ∀ x ∈ l, x.length ≤ each := by
  unfold fewW at h
  simp only [Bool.and_eq_true, decide_eq_true_eq, List.all_eq_true] at h
  exact ⟨h.1, fun x hx => h.2 x hx⟩
set_option maxRecDepth 100000 in
set_option maxHeartbeats 2000000 in
theorem law14_big (w : World) (items : List Trie.KV) (A : Option Addr) (c : Nat) (HR : Reads w w.heap.size 2 A items.length (icells items)) (nx : List UInt8) (nodes : List (List UInt8)) (B : Option Addr) (d : Nat) (HN : Reads w w.heap.size 1 B nodes.length (strv nodes)) :
    Calls Tryd.prog 15 #[.agg #[.slice A items.length c, .string ⟨nx.toArray⟩, .slice B nodes.length d]] w (BigEnd w items nx nodes) := by
  have HPt : Hid (∀ w', Below w.heap.size w w' → BigEnd w items nx nodes (.returned (.bool true)) w') := Lib.hid (fun w' h => ⟨true, rfl, h, fun e => by cases e⟩)
  have HPf : Hid (∀ w', Below w.heap.size w w' → items.length ≤ 40 → fewW nodes 60 700 = true → (∀ x ∈ items, okI x) → nx.length ≤ 100 → BigEnd w items nx nodes (.returned (.bool false)) w') := Lib.hid (fun w' h h1 h2 h3 h4 => ⟨false, rfl, h, fun _ => ⟨h1, few_said h2, h3, h4⟩⟩)
  generalize BigEnd w items nx nodes = P at HPt HPf ⊢
  have HRR := Lib.hid HR
  have HFw : Hid (∀ W, Below w.heap.size w W → Calls Tryd.prog 31 #[.slice B nodes.length d, .int .i64 60, .int .i64 700] W (Ret W (.bool (fewW nodes 60 700)))) := Lib.hid (fun W hW => book_Few W B d nodes 60 700 ((HN.below hW).more hW.size) (by omega) (by omega))
  clear HR HN
  generalize fewW nodes 60 700 = fw at *
  go_enter Tryd.func15, Tryd.ntmps15
  go_upto_region 1 with fail
  obtain ⟨bp, hbp⟩ : ∃ bp, w.heap.size = bp := ⟨_, rfl⟩
  have F0 : Hid (Live w (w.alloc (.cells #[.slice A items.length c, .string ⟨nx.toArray⟩, .slice B nodes.length d] 31)) [(bp, 31, #[.slice A items.length c, .string ⟨nx.toArray⟩, .slice B nodes.length d])]) := Lib.hid (by subst hbp; exact Live.one ((Below.refl _ _).alloc (Nat.le_refl _) _) (Nat.le_refl _) (Blk.new _ _ _))
  try rw [hbp]
  generalize w.alloc (.cells #[.slice A items.length c, .string ⟨nx.toArray⟩, .slice B nodes.length d] 31) = W0 at F0 ⊢
  clear hbp
  have k0_0 : W0.cell? ⟨bp, 0, none⟩ = some (.slice A items.length c) := F0.out.cell 0 0 rfl rfl; have k0_1 : W0.cell? ⟨bp, 1, none⟩ = some (.string ⟨nx.toArray⟩) := F0.out.cell 0 1 rfl rfl; have k0_2 : W0.cell? ⟨bp, 2, none⟩ = some (.slice B nodes.length d) := F0.out.cell 0 2 rfl rfl
  by_cases hl : 40 < items.length
  · have hl' : (40 : Int) < items.length := by omega
    clear hl
    go_wp2_with fail
    exact HPt.out _ F0.out.b
  · have hl' : ((40 : Int) < items.length) = False := by simp; omega
    go_wp2_with fail
    refine (HFw.out _ F0.out.b).mono ?_
    rintro q w1 ⟨rfl, hb⟩
    have F1 := Live.hb F0 hb
    clear hb F0 k0_0 k0_1 k0_2 HFw
    have k0_0 : w1.cell? ⟨bp, 0, none⟩ = some (.slice A items.length c) := F1.out.cell 0 0 rfl rfl; have k0_1 : w1.cell? ⟨bp, 1, none⟩ = some (.string ⟨nx.toArray⟩) := F1.out.cell 0 1 rfl rfl; have k0_2 : w1.cell? ⟨bp, 2, none⟩ = some (.slice B nodes.length d) := F1.out.cell 0 2 rfl rfl
    have HL := Lib.hid (Nat.le_of_not_lt hl)
    clear hl
    cases fw with
    | false =>
      go_wp2_with fail
      exact HPt.out _ F1.out.b
    | true =>
      go_wp2_with fail
      have HR1 : Hid (Reads w1 w1.heap.size 2 A items.length (icells items)) := Lib.hid ((HRR.out.below F1.out.b).more F1.out.b.size)
      refine wp_loop_ghost_k (fun k a wr => ∀ Φ : Act → Prop, (∀ (s0 s4 s5 s6 s7 s8 s9 s10 s11 s12 s13 s14 s15 s16 s17 s18 s19 s20 s21 s22 s23 s24 s25 s26 s27 s28 s29 s30 s31 s32 s33 s34 s35 s36 s37 s38 s39 s40 s41 s42 : Value) (i : Nat), (i + k = items.length ∧ (∀ x ∈ items.take i, okI x) ∧ wr = w1) → Φ { tmps := #[s0, .pointer (some ⟨bp, 0, none⟩), .bool false, .int .i64 (i : Int), s4, s5, s6, s7, s8, s9, s10, s11, s12, s13, s14, s15, s16, s17, s18, s19, s20, s21, s22, s23, s24, s25, s26, s27, s28, s29, s30, s31, s32, s33, s34, s35, s36, s37, s38, s39, s40, s41, s42], defers := [] }) → Φ a) (items.length) ?_ ?_
      · refine fun Φ hΦ => hΦ _ _ _ _ _ _ _ _ _ _ _ _ _ _ _ _ _ _ _ _ _ _ _ _ _ _ _ _ _ _ _ _ _ _ _ _ _ _ _ _ (0) ?_
        exact ⟨by omega, by simp, rfl⟩
      · intro k1 a1 wr1 hI1 J1 K1 hJ1 hK1
        refine hI1 (fun a => Code.wp _ _ _ a _) ?_
        clear hI1 a1
        intro s0 s1 s2 s3 s4 s5 s6 s7 s8 s9 s10 s11 s12 s13 s14 s15 s16 s17 s18 s19 s20 s21 s22 s23 s24 s25 s26 s27 s28 s29 s30 s31 s32 s33 s34 s35 s36 s37 s38 s39 i hrel
        show Code.wp _ _ _ _ _
        obtain ⟨h1, h2, rfl⟩ := hrel
        have HI := Lib.hid (And.intro h1 h2)
        clear h2
        by_cases hi : i < items.length
        · obtain ⟨ad, off, rfl, hbl, hcell⟩ := item_cells HR1.out hi
          have r0 := (hcell _ (Below.refl _ _)).1
          have r1 := (hcell _ (Below.refl _ _)).2
          have hi0 : (i : Int) < items.length := by omega
          have hi1 : (0 : Int) ≤ i := by omega
          have hi40 : (i : Int) < 40 := by have := HL.out; omega
          have HS : Hid (∀ (ok : okI items[i]), ∀ x ∈ items.take (i + 1), okI x) := Lib.hid (fun ok x hx => by
            rw [List.take_succ_eq_append_getElem hi] at hx
            rcases List.mem_append.1 hx with hx | hx
            · exact HI.out.2 x hx
            · simp at hx; subst hx; exact ok)
          clear hcell hbl
          generalize items[i] = x at *
          by_cases hk : 100 < x.1.length
          · have hk' : (100 : Int) < x.1.length := by omega
            clear hk
            go_wp2_with fail
            exact HPt.out _ F1.out.b
          · have hk' : ((100 : Int) < x.1.length) = False := by simp; omega
            by_cases hv : 100 < x.2.length
            · have hv' : (100 : Int) < x.2.length := by omega
              clear hk hv
              go_wp2_with fail
              exact HPt.out _ F1.out.b
            · have hv' : ((100 : Int) < x.2.length) = False := by simp; omega
              have HO := Lib.hid (HS.out ⟨by omega, by omega⟩)
              clear hk hv
              go_wp2_with fail
              refine Handed.intro (items.length - (i + 1)) ?_ (hJ1 _ _ _ (fun Φ hΦ => hΦ _ _ _ _ _ _ _ _ _ _ _ _ _ _ _ _ _ _ _ _ _ _ _ _ _ _ _ _ _ _ _ _ _ _ _ _ _ _ _ _ (i + 1) ?_))
              · have := HI.out.1; omega
              exact ⟨by have := HI.out.1; omega, HO.out, rfl⟩
        · have hi0 : ((i : Int) < items.length) = False := by simp; omega
          have HA : Hid (∀ x ∈ items, okI x) := Lib.hid (fun x hx => HI.out.2 x (by rw [List.take_of_length_le (by omega)]; exact hx))
          clear hi h1
          by_cases hn : 100 < nx.length
          · have hn' : (100 : Int) < nx.length := by omega
            clear hn
            go_wp2_with fail
            exact HPt.out _ F1.out.b
          · have hn' : ((100 : Int) < nx.length) = False := by simp; omega
            go_wp2_with fail
            exact HPf.out _ F1.out.b HL.out (by trivial) HA.out (by omega)
end Go.Proofs.YtcjafcbekegmlaaDoor

namespace Go.Proofs.YtcjafcbekegmlaaDoor
set_option linter.unusedVariables false
open Go.RowKit Go.Instr
attribute [local go_sem] ba_get ByteArray.mk_append_mk
attribute [local go_sem ↓] Go.wp_at_zero Go.wp_at_succ
namespace Trie
theorem verifyP_bad (root f e : List UInt8) (most : Nat) (items : List KV) (next : List UInt8) (nodes : List (List UInt8)) (h : (verifyP root f e most items next nodes).2.2 ≠ 0) :
    (verifyP root f e most items next nodes).1 = [] ∧ (verifyP root f e most items next nodes).2.1 = [] := by
  unfold verifyP at h ⊢
  split
  · exact ⟨rfl, rfl⟩
  rename_i h1
  rw [if_neg h1] at h
  split
  · split <;> exact ⟨rfl, rfl⟩
  rename_i h2
  rw [if_neg h2] at h
  split
  · exact ⟨rfl, rfl⟩
  rename_i h3
  rw [if_neg h3] at h
  exact absurd rfl h
theorem verifyP_ok (root f e : List UInt8) (most : Nat) (hm : 1 ≤ most) (items : List KV) (next : List UInt8) (nodes : List (List UInt8)) (h : (verifyP root f e most items next nodes).2.2 = 0) :
    verifyP root f e most items next nodes = (items, next, 0) ∧ items.length ≤ most := by
  unfold verifyP at h ⊢
  by_cases h1 : goesOnW items next e most = false
  · rw [if_pos h1] at h; cases h
  rw [if_neg h1] at h ⊢
  have hle : items.length ≤ most := by
    unfold goesOnW at h1
    split at h1
    · exact absurd rfl h1
    · omega
  refine ⟨?_, hle⟩
  by_cases h2 : root = []
  · rw [if_pos h2] at h ⊢
    by_cases h3 : nodes ≠ [] ∨ items ≠ []
    · rw [if_pos h3] at h; cases h
    rw [if_neg h3]
    have hi : items = [] := Decidable.byContradiction fun hc => h3 (.inr hc)
    subst hi
    by_cases hn : next = []
    · rw [hn]
    · exfalso
      apply h1
      unfold goesOnW
      rw [if_neg (by simp), if_neg hn, if_pos (.inl (by simp; omega))]
  · rw [if_neg h2] at h ⊢
    split at h
    · cases h
    · rename_i h4
      rw [if_neg h4]
end Trie
set_option maxRecDepth 100000 in
set_option maxHeartbeats 8000000 in
theorem law_SpanSound (w : World) (A0 : Option Addr) (c0 : Nat) (L : List Trie.KV) (f e : List UInt8) (most : Int) (items : List Trie.KV) (A1 : Option Addr) (c1 : Nat) (nx : List UInt8) (nodes : List (List UInt8)) (B1 : Option Addr) (d1 : Nat)
    (HR0 : Reads w w.heap.size 2 A0 L.length (icells L)) (hL : ∀ x ∈ L, x.1.length ≤ 9223372036854775807 ∧ x.2.length ≤ 9223372036854775807) (hf : f.length ≤ 1048576) (he : e.length ≤ 1048576) (HI : Reads w w.heap.size 2 A1 items.length (icells items)) (HN : Reads w w.heap.size 1 B1 nodes.length (strv nodes)) (hd1 : nodes.length ≤ d1) (hT : Tbl w) :
    Calls Tryd.prog 6 #[.slice A0 L.length c0, .agg #[.string ⟨f.toArray⟩, .string ⟨e.toArray⟩, .int .i64 most], .agg #[.slice A1 items.length c1, .string ⟨nx.toArray⟩, .slice B1 nodes.length d1]] w fun e w' => e = .returned (.bool true) ∧ Below w.heap.size w w' := by
  have HP : Hid (∀ w', Below w.heap.size w w' → (fun e w' => e = Ending.returned (.bool true) ∧ Below w.heap.size w w') (Ending.returned (.bool true)) w') := Lib.hid (fun W' a2 => ⟨rfl, a2⟩)
  generalize (fun e w' => e = Ending.returned (.bool true) ∧ Below w.heap.size w w') = P at HP ⊢
  have HTb := Lib.hid hT
  have HWk := Lib.hid (fun W (hW : Below w.heap.size w W) => law14_works W (hT.next hW))
  have HSo := Lib.hid (fun W (hW : Below w.heap.size w W) => law14_some W L hL A0 c0 ((HR0.below hW).more hW.size) (hT.next hW))
  have HRd : Hid (∀ W, Below w.heap.size w W → Reads W W.heap.size 2 A1 items.length (icells items) ∧ Reads W W.heap.size 1 B1 nodes.length (strv nodes)) := Lib.hid (fun W hW => ⟨(HI.below hW).more hW.size, (HN.below hW).more hW.size⟩)
  have HBg := Lib.hid (fun W (hW : Below w.heap.size w W) => law14_big W items A1 c1 (HRd.out W hW).1 nx nodes B1 d1 (HRd.out W hW).2)
  have HGd := Lib.hid (fewU_good L)
  have HLn := Lib.hid (few30_items L)
  have HFE := Lib.hid (And.intro hf he)
  generalize fewU L = t at *
  clear hL HR0 hT hf he HI HN
  by_cases hm : most < 1 ∨ 16 < most
  · have HV := Lib.hid (fun W (hW : Below w.heap.size w W) => span_Verify_bad W (Trie.sumT t) f e most hm items A1 c1 nx nodes B1 d1)
    clear hm HLn
    go_enter Tryd.func6, Tryd.ntmps6
    go_upto_region 1 with fail
    have F00 := Live.ha (Lib.hid (Live.start w)) #[.string ⟨f.toArray⟩, .string ⟨e.toArray⟩, .int .i64 most] 24
    have F01 := Live.ha F00 #[.slice A1 items.length c1, .string ⟨nx.toArray⟩, .slice B1 nodes.length d1] 31
    rw [show (w.alloc (.cells #[.string ⟨f.toArray⟩, .string ⟨e.toArray⟩, .int .i64 most] 24)).heap.size = w.heap.size + 1 from by show (w.heap.push _).size = _; exact Array.size_push _] at F01
    generalize (w.alloc (.cells #[.string ⟨f.toArray⟩, .string ⟨e.toArray⟩, .int .i64 most] 24)).alloc (.cells #[.slice A1 items.length c1, .string ⟨nx.toArray⟩, .slice B1 nodes.length d1] 31) = W0 at F01 ⊢
    clear F00
    obtain ⟨pb, hpb⟩ : ∃ pb, w.heap.size + 1 = pb := ⟨_, rfl⟩
    obtain ⟨bx, hbx⟩ : ∃ bx, w.heap.size = bx := ⟨_, rfl⟩
    have F0 : Hid (Live w W0 [(pb, 31, #[.slice A1 items.length c1, .string ⟨nx.toArray⟩, .slice B1 nodes.length d1]), (bx, 24, #[.string ⟨f.toArray⟩, .string ⟨e.toArray⟩, .int .i64 most])]) := by rw [← hpb, ← hbx]; exact F01
    rw [hpb, hbx]
    clear F01 hpb hbx
    go_wp2_with fail
    refine (HWk.out _ F0.out.b).mono ?_
    rintro q w1 ⟨rfl, hb⟩
    have F1 := Live.hb F0 hb
    clear hb F0 HWk
    have k0_0 : w1.cell? ⟨pb, 0, none⟩ = some (.slice A1 items.length c1) := F1.out.cell 0 0 rfl rfl; have k0_1 : w1.cell? ⟨pb, 1, none⟩ = some (.string ⟨nx.toArray⟩) := F1.out.cell 0 1 rfl rfl; have k0_2 : w1.cell? ⟨pb, 2, none⟩ = some (.slice B1 nodes.length d1) := F1.out.cell 0 2 rfl rfl
    go_wp2_with fail
    refine (HBg.out _ F1.out.b).mono ?_
    rintro q w2 ⟨bb, rfl, hb, hbig⟩
    have F2 := Live.hb F1 hb
    clear hb F1 k0_0 k0_1 k0_2 HBg
    cases bb with
    | true =>
      clear hbig
      go_wp2_with fail
      exact HP.out _ F2.out.b
    | false =>
    have HSm := Lib.hid (hbig rfl)
    clear hbig
    go_wp2_with fail
    refine (HSo.out _ F2.out.b).mono ?_
    rintro q w3 ⟨v3, A3, n3, c3, rfl, hk3, hn3, hc3, own3, hb⟩
    have F3 := Live.hb F2 hb
    have HK3 := Lib.hid hk3
    clear hb F2 own3 hn3 hc3 hk3 HSo
    obtain ⟨_, b3, x3, rfl, _⟩ := id HK3.out
    have HRo2 : Hid (∀ W, Below w3.heap.size w3 W → Calls Tryd.prog 11 #[.pointer (some ⟨b3, 0, none⟩)] W (Ret W (.string ⟨(Trie.sumT t).toArray⟩))) := Lib.hid (fun W hW => (trie_Root W t _ (HK3.out.next hW)).mono (by rintro e w' ⟨rfl, rfl⟩; exact ⟨rfl, Below.refl _ _⟩))
    have k0_0 : w3.cell? ⟨pb, 0, none⟩ = some (.slice A1 items.length c1) := F3.out.cell 0 0 rfl rfl; have k0_1 : w3.cell? ⟨pb, 1, none⟩ = some (.string ⟨nx.toArray⟩) := F3.out.cell 0 1 rfl rfl; have k0_2 : w3.cell? ⟨pb, 2, none⟩ = some (.slice B1 nodes.length d1) := F3.out.cell 0 2 rfl rfl
    have k1_0 : w3.cell? ⟨bx, 0, none⟩ = some (.string ⟨f.toArray⟩) := F3.out.cell 1 0 rfl rfl; have k1_1 : w3.cell? ⟨bx, 1, none⟩ = some (.string ⟨e.toArray⟩) := F3.out.cell 1 1 rfl rfl; have k1_2 : w3.cell? ⟨bx, 2, none⟩ = some (.int .i64 most) := F3.out.cell 1 2 rfl rfl
    go_wp2_with fail
    go_region_held3 (fun w' => (w'.cell? ⟨pb, 0, none⟩ = some (.slice A1 items.length c1) ∧ w'.cell? ⟨pb, 1, none⟩ = some (.string ⟨nx.toArray⟩) ∧ w'.cell? ⟨pb, 2, none⟩ = some (.slice B1 nodes.length d1)) ∧ w'.cell? ⟨bx, 0, none⟩ = some (.string ⟨f.toArray⟩) ∧ w'.cell? ⟨bx, 1, none⟩ = some (.string ⟨e.toArray⟩) ∧ w'.cell? ⟨bx, 2, none⟩ = some (.int .i64 (most))) (first | go_keep | (refine ⟨⟨?_, ?_, ?_⟩, ?_, ?_, ?_⟩ <;> assumption)) (first
      | (go_at_call 11; refine (HRo2.out _ (by first | exact Below.refl _ _ | exact (Below.refl _ _).drew)).mono ?_; rintro q w4 ⟨rfl, hb⟩; have B4 : Below w3.heap.size w3 w4 := (by first | exact hb | exact hb.start); have F4 := Live.hb F3 B4; have g0 := F4.out.cell 0 0 rfl rfl; have g1 := F4.out.cell 0 1 rfl rfl; have g2 := F4.out.cell 0 2 rfl rfl; have g3 := F4.out.cell 1 0 rfl rfl; have g4 := F4.out.cell 1 1 rfl rfl; have g5 := F4.out.cell 1 2 rfl rfl; clear hb)
      | (go_at_call 10; refine (HV.out _ F4.out.b).mono ?_; rintro q w5 ⟨A5, c5, rfl, own5, hb⟩; have B5 : Below w4.heap.size w4 w5 := (by first | exact hb | exact hb.start); have F5 := Live.hb F4 B5; have O5 := Lib.hid own5; have y0 := F5.out.cell 0 0 rfl rfl; have y1 := F5.out.cell 0 1 rfl rfl; have y2 := F5.out.cell 0 2 rfl rfl; have y3 := F5.out.cell 1 0 rfl rfl; have y4 := F5.out.cell 1 1 rfl rfl; have y5 := F5.out.cell 1 2 rfl rfl; clear hb own5))
    have B35 := Lib.hid (B4.nxt B5)
    clear g0 g1 g2 g3 g4 g5 y0 y1 y2 y3 y4 y5 k0_0 k0_1 k0_2 k1_0 k1_1 k1_2 F3 F4 B4 B5 HV HRo2
    go_wp2_with fail
    exact HP.out _ F5.out.b
  · obtain ⟨m, rfl, h1, h2⟩ : ∃ m : Nat, most = (m : Int) ∧ 1 ≤ m ∧ m ≤ 16 := ⟨most.toNat, by omega, by omega, by omega⟩
    clear hm
    have HV0 := Lib.hid (fun W (hW : Below w.heap.size w W) (hs : items.length ≤ 40 ∧ (nodes.length ≤ 60 ∧ ∀ x ∈ nodes, x.length ≤ 700) ∧ (∀ x ∈ items, okI x) ∧ nx.length ≤ 100) => span_Verify W (Trie.sumT t) f e HFE.out.1 HFE.out.2 m h1 h2 items A1 c1 (HRd.out W hW).1 (by omega) nx (by omega) nodes B1 d1 (HRd.out W hW).2 hd1 (by omega) (fun x hx => by have := hs.2.1.2 x hx; omega) (HTb.out.next hW))
    have HBad := Lib.hid (Trie.verifyP_bad (Trie.sumT t) f e m items nx nodes)
    have HOk := Lib.hid (Trie.verifyP_ok (Trie.sumT t) f e m h1 items nx nodes)
    have HSd := Lib.hid (Trie.span_sound HGd.out.1 f e m h1 items nx nodes)
    generalize Trie.verifyP (Trie.sumT t) f e m items nx nodes = r at *
    obtain ⟨l', s', k'⟩ := r
    simp only at HV0 HBad HOk HSd
    have HV := HV0
    clear HV0
    by_cases hk : k' = 0
    · subst hk
      obtain ⟨hr, hle⟩ := HOk.out rfl
      injection hr with hr1 hr2
      injection hr2 with hr2 _
      subst l'
      subst s'
      have HSd := Lib.hid (HSd.out rfl)
      have HLe := Lib.hid hle
      have HNo := Lib.hid (fun W v (hv : TrieP W t v) => trie_Nodes W t v hv (by have := HGd.out.2; omega))
      have HWi := Lib.hid (fun W p (hv : TrieP W t (.pointer p)) => law14_within W t p hv (by have := HGd.out.2; omega) f)
      clear HBad HOk hle
      go_enter Tryd.func6, Tryd.ntmps6
      go_upto_region 1 with fail
      have F00 := Live.ha (Lib.hid (Live.start w)) #[.string ⟨f.toArray⟩, .string ⟨e.toArray⟩, .int .i64 (m : Int)] 24
      have F01 := Live.ha F00 #[.slice A1 items.length c1, .string ⟨nx.toArray⟩, .slice B1 nodes.length d1] 31
      rw [show (w.alloc (.cells #[.string ⟨f.toArray⟩, .string ⟨e.toArray⟩, .int .i64 (m : Int)] 24)).heap.size = w.heap.size + 1 from by show (w.heap.push _).size = _; exact Array.size_push _] at F01
      generalize (w.alloc (.cells #[.string ⟨f.toArray⟩, .string ⟨e.toArray⟩, .int .i64 (m : Int)] 24)).alloc (.cells #[.slice A1 items.length c1, .string ⟨nx.toArray⟩, .slice B1 nodes.length d1] 31) = W0 at F01 ⊢
      clear F00
      obtain ⟨pb, hpb⟩ : ∃ pb, w.heap.size + 1 = pb := ⟨_, rfl⟩
      obtain ⟨bx, hbx⟩ : ∃ bx, w.heap.size = bx := ⟨_, rfl⟩
      have F0 : Hid (Live w W0 [(pb, 31, #[.slice A1 items.length c1, .string ⟨nx.toArray⟩, .slice B1 nodes.length d1]), (bx, 24, #[.string ⟨f.toArray⟩, .string ⟨e.toArray⟩, .int .i64 (m : Int)])]) := by rw [← hpb, ← hbx]; exact F01
      rw [hpb, hbx]
      clear F01 hpb hbx
      go_wp2_with fail
      refine (HWk.out _ F0.out.b).mono ?_
      rintro q w1 ⟨rfl, hb⟩
      have F1 := Live.hb F0 hb
      clear hb F0 HWk
      have k0_0 : w1.cell? ⟨pb, 0, none⟩ = some (.slice A1 items.length c1) := F1.out.cell 0 0 rfl rfl; have k0_1 : w1.cell? ⟨pb, 1, none⟩ = some (.string ⟨nx.toArray⟩) := F1.out.cell 0 1 rfl rfl; have k0_2 : w1.cell? ⟨pb, 2, none⟩ = some (.slice B1 nodes.length d1) := F1.out.cell 0 2 rfl rfl
      go_wp2_with fail
      refine (HBg.out _ F1.out.b).mono ?_
      rintro q w2 ⟨bb, rfl, hb, hbig⟩
      have F2 := Live.hb F1 hb
      clear hb F1 k0_0 k0_1 k0_2 HBg
      cases bb with
      | true =>
        clear hbig
        go_wp2_with fail
        exact HP.out _ F2.out.b
      | false =>
      have HSm := Lib.hid (hbig rfl)
      clear hbig
      go_wp2_with fail
      refine (HSo.out _ F2.out.b).mono ?_
      rintro q w3 ⟨v3, A3, n3, c3, rfl, hk3, hn3, hc3, own3, hb⟩
      have F3 := Live.hb F2 hb
      have HK3 := Lib.hid hk3
      clear hb F2 own3 hn3 hc3 hk3 HSo
      obtain ⟨_, b3, x3, rfl, _⟩ := id HK3.out
      have HRo2 : Hid (∀ W, Below w3.heap.size w3 W → Calls Tryd.prog 11 #[.pointer (some ⟨b3, 0, none⟩)] W (Ret W (.string ⟨(Trie.sumT t).toArray⟩))) := Lib.hid (fun W hW => (trie_Root W t _ (HK3.out.next hW)).mono (by rintro e w' ⟨rfl, rfl⟩; exact ⟨rfl, Below.refl _ _⟩))
      have k0_0 : w3.cell? ⟨pb, 0, none⟩ = some (.slice A1 items.length c1) := F3.out.cell 0 0 rfl rfl; have k0_1 : w3.cell? ⟨pb, 1, none⟩ = some (.string ⟨nx.toArray⟩) := F3.out.cell 0 1 rfl rfl; have k0_2 : w3.cell? ⟨pb, 2, none⟩ = some (.slice B1 nodes.length d1) := F3.out.cell 0 2 rfl rfl
      have k1_0 : w3.cell? ⟨bx, 0, none⟩ = some (.string ⟨f.toArray⟩) := F3.out.cell 1 0 rfl rfl; have k1_1 : w3.cell? ⟨bx, 1, none⟩ = some (.string ⟨e.toArray⟩) := F3.out.cell 1 1 rfl rfl; have k1_2 : w3.cell? ⟨bx, 2, none⟩ = some (.int .i64 (m : Int)) := F3.out.cell 1 2 rfl rfl
      go_wp2_with fail
      go_region_held3 (fun w' => (w'.cell? ⟨pb, 0, none⟩ = some (.slice A1 items.length c1) ∧ w'.cell? ⟨pb, 1, none⟩ = some (.string ⟨nx.toArray⟩) ∧ w'.cell? ⟨pb, 2, none⟩ = some (.slice B1 nodes.length d1)) ∧ w'.cell? ⟨bx, 0, none⟩ = some (.string ⟨f.toArray⟩) ∧ w'.cell? ⟨bx, 1, none⟩ = some (.string ⟨e.toArray⟩) ∧ w'.cell? ⟨bx, 2, none⟩ = some (.int .i64 ((m : Int)))) (first | go_keep | (refine ⟨⟨?_, ?_, ?_⟩, ?_, ?_, ?_⟩ <;> assumption)) (first
        | (go_at_call 11; refine (HRo2.out _ (by first | exact Below.refl _ _ | exact (Below.refl _ _).drew)).mono ?_; rintro q w4 ⟨rfl, hb⟩; have B4 : Below w3.heap.size w3 w4 := (by first | exact hb | exact hb.start); have F4 := Live.hb F3 B4; have g0 := F4.out.cell 0 0 rfl rfl; have g1 := F4.out.cell 0 1 rfl rfl; have g2 := F4.out.cell 0 2 rfl rfl; have g3 := F4.out.cell 1 0 rfl rfl; have g4 := F4.out.cell 1 1 rfl rfl; have g5 := F4.out.cell 1 2 rfl rfl; clear hb)
        | (go_at_call 10; refine (HV.out _ F4.out.b HSm.out).mono ?_; rintro q w5 ⟨A5, c5, rfl, own5, hb⟩; have B5 : Below w4.heap.size w4 w5 := (by first | exact hb | exact hb.start); have F5 := Live.hb F4 B5; have O5 := Lib.hid own5; have y0 := F5.out.cell 0 0 rfl rfl; have y1 := F5.out.cell 0 1 rfl rfl; have y2 := F5.out.cell 0 2 rfl rfl; have y3 := F5.out.cell 1 0 rfl rfl; have y4 := F5.out.cell 1 1 rfl rfl; have y5 := F5.out.cell 1 2 rfl rfl; clear hb own5))
      have B35 := Lib.hid (B4.nxt B5)
      clear g0 g1 g2 g3 g4 g5 y0 y1 y2 y3 y4 y5 k0_0 k0_1 k0_2 k1_0 k1_1 k1_2 F3 F4 B4 B5 HV HRo2
      have H700 := Lib.hid (told_700m HGd.out.1 allW)
      have HTl : Hid ((toldW allW t).length ≤ 100000) := Lib.hid (by
        rw [toldW, textsD, List.length_map]
        exact Trie.goT_short HGd.out.1.wf (by have := HGd.out.2; omega) _ _)
      have HNo2 := Lib.hid (fun W (hW : Below w5.heap.size w5 W) => HNo.out W _ (HK3.out.next (B35.out.nxt hW)))
      have HWi2 := Lib.hid (fun W (hW : Below w5.heap.size w5 W) => HWi.out W _ (HK3.out.next (B35.out.nxt hW)))
      have hle := HLe.out
      clear HNo HWi HK3 B35
      have k0_0 : w5.cell? ⟨pb, 0, none⟩ = some (.slice A1 items.length c1) := F5.out.cell 0 0 rfl rfl; have k0_1 : w5.cell? ⟨pb, 1, none⟩ = some (.string ⟨nx.toArray⟩) := F5.out.cell 0 1 rfl rfl; have k0_2 : w5.cell? ⟨pb, 2, none⟩ = some (.slice B1 nodes.length d1) := F5.out.cell 0 2 rfl rfl
      have k1_0 : w5.cell? ⟨bx, 0, none⟩ = some (.string ⟨f.toArray⟩) := F5.out.cell 1 0 rfl rfl; have k1_1 : w5.cell? ⟨bx, 1, none⟩ = some (.string ⟨e.toArray⟩) := F5.out.cell 1 1 rfl rfl; have k1_2 : w5.cell? ⟨bx, 2, none⟩ = some (.int .i64 (m : Int)) := F5.out.cell 1 2 rfl rfl
      by_cases hn : nx = []
      · subst hn
        have hup : Trie.upToW [] e = e := rfl
        rw [hup] at HSd
        go_wp2_with fail
        refine (HWi2.out _ (Below.refl _ _) e).mono ?_
        rintro q w6 ⟨A6, n6, c6, rfl, hn6, own6, hb⟩
        obtain rfl := hn6
        have F6 := Live.hb F5 hb
        have O6 := Lib.hid (own_below O5.out hb)
        have hal := allIn_len (Trie.itemsW t) f e
        have hln := HLn.out
        have hil := HSm.out.1
        have HS := Lib.hid (book_SameItems A5 A6 _ _ c5 c6 items (Trie.allIn (Trie.itemsW t) f e) w6 (Reads.of_own O6.out) (Reads.of_own own6) (by omega) (by omega))
        have B56 := Lib.hid hb
        clear hb own6 k0_0 k0_1 k0_2 k1_0 k1_1 k1_2 O5 F5
        by_cases hI : items = Trie.allIn (Trie.itemsW t) f e
        · rw [decide_eq_true hI] at HS
          clear hI HSd
          generalize Trie.allIn (Trie.itemsW t) f e = al at *
          go_wp2_with fail
          refine HS.out.mono ?_
          rintro q w7 ⟨rfl, hb⟩
          have F7 := Live.hb F6 hb
          clear hb F6
          have k1_0 : w7.cell? ⟨bx, 0, none⟩ = some (.string ⟨f.toArray⟩) := F7.out.cell 1 0 rfl rfl; have k1_1 : w7.cell? ⟨bx, 1, none⟩ = some (.string ⟨e.toArray⟩) := F7.out.cell 1 1 rfl rfl; have k1_2 : w7.cell? ⟨bx, 2, none⟩ = some (.int .i64 (m : Int)) := F7.out.cell 1 2 rfl rfl
          have hle' : (items.length : Int) ≤ m := by omega
          go_wp2_with fail
          exact HP.out _ F7.out.b
        · rw [decide_eq_false hI] at HS
          have hun : Hid (unlikeW (toldW allW t ++ nodes) = true) := Lib.hid (by
            rcases HSd.out with ⟨x, hx, y, hy, hne, hs⟩ | ⟨_, h, _⟩
            · exact unlikeW_of hx hy hne hs
            · exact absurd h hI)
          clear hI HSd
          generalize Trie.allIn (Trie.itemsW t) f e = al at *
          go_wp2_with fail
          refine HS.out.mono ?_
          rintro q w7 ⟨rfl, hb⟩
          have F7 := Live.hb F6 hb
          have B57 := Lib.hid (B56.out.nxt hb)
          clear hb F6 B56 HS
          have k0_2 := F7.out.cell 0 2 rfl rfl
          go_wp2_with fail
          obtain ⟨i0, hi0, hz0, hz1, hz2⟩ := info_parts info_str
          have hnl := HSm.out.2.1.1
          have htl := HTl.out
          have HUn : Hid (∀ W B A c, W.ownsRow B 9 1 (.slice A ((toldW allW t).length + nodes.length) c) ((toldW allW t).length + nodes.length) (strv (toldW allW t) ++ strv nodes) → Calls Tryd.prog 16 #[.int .i64 1, .slice A ((toldW allW t).length + nodes.length) c] W (Ret W (.bool true))) := Lib.hid (fun W B A c ho => by
            have hr := Reads.of_own ho
            have := ref04_Unlike W (toldW allW t ++ nodes) A c (by rw [List.length_append]; unfold strv at hr ⊢; rwa [List.map_append]) (by rw [List.length_append]; omega) (fun x hx => by
              rcases List.mem_append.1 hx with h | h
              · have := H700.out x h; omega
              · have := HSm.out.2.1.2 x h; omega)
            rwa [hun.out, List.length_append] at this)
          generalize toldW allW t = tl at *
          go_region_held3 (fun w' => w'.cell? ⟨pb, 2, none⟩ = some (.slice B1 nodes.length d1)) (first | go_keep | assumption) (first
            | (go_at_call 17; refine (HNo2.out _ (by first | exact B57.out | exact B57.out.drew)).mono ?_; rintro q w8 ⟨A8, n8, c8, rfl, hn8, own8', hb'⟩; obtain rfl := hn8; have hb : Below w7.heap.size w7 w8 := (by first | exact hb' | exact hb'.start); have own8 : w8.ownsRow w7.heap.size 9 1 (.slice A8 tl.length c8) tl.length (strv tl) := own8'; have F8 := Live.hb F7 hb; have B8 := Lib.hid hb; have u2 := F8.out.cell 0 2 rfl rfl; have R8 := (HRd.out _ F8.out.b).2; have hs8 := hb.size; clear hb hb' own8')
            | (refine step_append_any _ rfl _ _ 29 rfl w7.heap.size 9 i0 _ 1 16 Tryd.underlying29 hi0 hz0 hz1 hz2 rfl (by decide) (.slice A8 tl.length c8) tl.length (strv tl) rfl own8 w8.heap.size B1 nodes.length d1 (strv nodes) rfl R8 (strv_one _) (by simp only [maxLen]; omega) (by omega) hs8 ?_; intro v9 w9 own9 hg9' _; have hg9 : w8.grownBy w9 (Value.slice A8 tl.length c8).ownBlock := ⟨hg9'.os, hg9'.tape, hg9'.output, hg9'.size, hg9'.block⟩; obtain ⟨A9, c9, rfl, _, _, _⟩ := own_form own9; have B9 : Below w7.heap.size w7 w9 := B8.out.grown hg9 hs8 (fun k e => (own8.lt k e).1); have F9 := Live.hb F7 B9; have O9 := Lib.hid own9; have u3 := F9.out.cell 0 2 rfl rfl; clear hg9 hg9' own9 own8 R8)
            | (go_at_call 16; refine (HUn.out _ _ _ _ O9.out).mono ?_; rintro q w10 ⟨rfl, hb'⟩; have B10 : Below w9.heap.size w9 w10 := (by first | exact hb' | exact hb'.start); have F10 := Live.hb F9 B10; have u4 := F10.out.cell 0 2 rfl rfl; clear hb'))
          go_wp2_with fail
          exact HP.out _ F10.out.b
      · have ne1 : (nx.toArray = #[]) = False := by simp [hn]
        have ne2 : nx.isEmpty = false := by simp [hn]
        have hup : Trie.upToW nx e = nx := by unfold Trie.upToW; rw [if_pos hn]
        rw [hup] at HSd
        clear hn
        go_wp2_with fail
        refine (HWi2.out _ (Below.refl _ _) nx).mono ?_
        rintro q w6 ⟨A6, n6, c6, rfl, hn6, own6, hb⟩
        obtain rfl := hn6
        have F6 := Live.hb F5 hb
        have O6 := Lib.hid (own_below O5.out hb)
        have hal := allIn_len (Trie.itemsW t) f nx
        have hln := HLn.out
        have hil := HSm.out.1
        have HS := Lib.hid (book_SameItems A5 A6 _ _ c5 c6 items (Trie.allIn (Trie.itemsW t) f nx) w6 (Reads.of_own O6.out) (Reads.of_own own6) (by omega) (by omega))
        have B56 := Lib.hid hb
        clear hb own6 k0_0 k0_1 k0_2 k1_0 k1_1 k1_2 O5 F5
        by_cases hI : items = Trie.allIn (Trie.itemsW t) f nx
        · rw [decide_eq_true hI] at HS
          clear hI HSd
          generalize Trie.allIn (Trie.itemsW t) f nx = al at *
          go_wp2_with fail
          refine HS.out.mono ?_
          rintro q w7 ⟨rfl, hb⟩
          have F7 := Live.hb F6 hb
          clear hb F6
          have k1_0 : w7.cell? ⟨bx, 0, none⟩ = some (.string ⟨f.toArray⟩) := F7.out.cell 1 0 rfl rfl; have k1_1 : w7.cell? ⟨bx, 1, none⟩ = some (.string ⟨e.toArray⟩) := F7.out.cell 1 1 rfl rfl; have k1_2 : w7.cell? ⟨bx, 2, none⟩ = some (.int .i64 (m : Int)) := F7.out.cell 1 2 rfl rfl
          have hle' : (items.length : Int) ≤ m := by omega
          go_wp2_with fail
          exact HP.out _ F7.out.b
        · rw [decide_eq_false hI] at HS
          have hun : Hid (unlikeW (toldW allW t ++ nodes) = true) := Lib.hid (by
            rcases HSd.out with ⟨x, hx, y, hy, hne, hs⟩ | ⟨_, h, _⟩
            · exact unlikeW_of hx hy hne hs
            · exact absurd h hI)
          clear hI HSd
          generalize Trie.allIn (Trie.itemsW t) f nx = al at *
          go_wp2_with fail
          refine HS.out.mono ?_
          rintro q w7 ⟨rfl, hb⟩
          have F7 := Live.hb F6 hb
          have B57 := Lib.hid (B56.out.nxt hb)
          clear hb F6 B56 HS
          have k0_2 := F7.out.cell 0 2 rfl rfl
          go_wp2_with fail
          obtain ⟨i0, hi0, hz0, hz1, hz2⟩ := info_parts info_str
          have hnl := HSm.out.2.1.1
          have htl := HTl.out
          have HUn : Hid (∀ W B A c, W.ownsRow B 9 1 (.slice A ((toldW allW t).length + nodes.length) c) ((toldW allW t).length + nodes.length) (strv (toldW allW t) ++ strv nodes) → Calls Tryd.prog 16 #[.int .i64 1, .slice A ((toldW allW t).length + nodes.length) c] W (Ret W (.bool true))) := Lib.hid (fun W B A c ho => by
            have hr := Reads.of_own ho
            have := ref04_Unlike W (toldW allW t ++ nodes) A c (by rw [List.length_append]; unfold strv at hr ⊢; rwa [List.map_append]) (by rw [List.length_append]; omega) (fun x hx => by
              rcases List.mem_append.1 hx with h | h
              · have := H700.out x h; omega
              · have := HSm.out.2.1.2 x h; omega)
            rwa [hun.out, List.length_append] at this)
          generalize toldW allW t = tl at *
          go_region_held3 (fun w' => w'.cell? ⟨pb, 2, none⟩ = some (.slice B1 nodes.length d1)) (first | go_keep | assumption) (first
            | (go_at_call 17; refine (HNo2.out _ (by first | exact B57.out | exact B57.out.drew)).mono ?_; rintro q w8 ⟨A8, n8, c8, rfl, hn8, own8', hb'⟩; obtain rfl := hn8; have hb : Below w7.heap.size w7 w8 := (by first | exact hb' | exact hb'.start); have own8 : w8.ownsRow w7.heap.size 9 1 (.slice A8 tl.length c8) tl.length (strv tl) := own8'; have F8 := Live.hb F7 hb; have B8 := Lib.hid hb; have u2 := F8.out.cell 0 2 rfl rfl; have R8 := (HRd.out _ F8.out.b).2; have hs8 := hb.size; clear hb hb' own8')
            | (refine step_append_any _ rfl _ _ 29 rfl w7.heap.size 9 i0 _ 1 16 Tryd.underlying29 hi0 hz0 hz1 hz2 rfl (by decide) (.slice A8 tl.length c8) tl.length (strv tl) rfl own8 w8.heap.size B1 nodes.length d1 (strv nodes) rfl R8 (strv_one _) (by simp only [maxLen]; omega) (by omega) hs8 ?_; intro v9 w9 own9 hg9' _; have hg9 : w8.grownBy w9 (Value.slice A8 tl.length c8).ownBlock := ⟨hg9'.os, hg9'.tape, hg9'.output, hg9'.size, hg9'.block⟩; obtain ⟨A9, c9, rfl, _, _, _⟩ := own_form own9; have B9 : Below w7.heap.size w7 w9 := B8.out.grown hg9 hs8 (fun k e => (own8.lt k e).1); have F9 := Live.hb F7 B9; have O9 := Lib.hid own9; have u3 := F9.out.cell 0 2 rfl rfl; clear hg9 hg9' own9 own8 R8)
            | (go_at_call 16; refine (HUn.out _ _ _ _ O9.out).mono ?_; rintro q w10 ⟨rfl, hb'⟩; have B10 : Below w9.heap.size w9 w10 := (by first | exact hb' | exact hb'.start); have F10 := Live.hb F9 B10; have u4 := F10.out.cell 0 2 rfl rfl; clear hb'))
          go_wp2_with fail
          exact HP.out _ F10.out.b
    · obtain ⟨e1, e2⟩ := HBad.out hk
      subst e1
      subst e2
      have hk1 : ((k' : Int) == 0) = false := by rw [beq_eq_false_iff_ne]; omega
      have hk3 : ((k' : Int) = 0) = False := by simp only [eq_iff_iff, iff_false]; omega
      have hk4 : ((k' : Int) != 0) = true := by rw [bne_iff_ne]; omega
      clear hk HBad HOk HSd
      go_enter Tryd.func6, Tryd.ntmps6
      go_upto_region 1 with fail
      have F00 := Live.ha (Lib.hid (Live.start w)) #[.string ⟨f.toArray⟩, .string ⟨e.toArray⟩, .int .i64 (m : Int)] 24
      have F01 := Live.ha F00 #[.slice A1 items.length c1, .string ⟨nx.toArray⟩, .slice B1 nodes.length d1] 31
      rw [show (w.alloc (.cells #[.string ⟨f.toArray⟩, .string ⟨e.toArray⟩, .int .i64 (m : Int)] 24)).heap.size = w.heap.size + 1 from by show (w.heap.push _).size = _; exact Array.size_push _] at F01
      generalize (w.alloc (.cells #[.string ⟨f.toArray⟩, .string ⟨e.toArray⟩, .int .i64 (m : Int)] 24)).alloc (.cells #[.slice A1 items.length c1, .string ⟨nx.toArray⟩, .slice B1 nodes.length d1] 31) = W0 at F01 ⊢
      clear F00
      obtain ⟨pb, hpb⟩ : ∃ pb, w.heap.size + 1 = pb := ⟨_, rfl⟩
      obtain ⟨bx, hbx⟩ : ∃ bx, w.heap.size = bx := ⟨_, rfl⟩
      have F0 : Hid (Live w W0 [(pb, 31, #[.slice A1 items.length c1, .string ⟨nx.toArray⟩, .slice B1 nodes.length d1]), (bx, 24, #[.string ⟨f.toArray⟩, .string ⟨e.toArray⟩, .int .i64 (m : Int)])]) := by rw [← hpb, ← hbx]; exact F01
      rw [hpb, hbx]
      clear F01 hpb hbx
      go_wp2_with fail
      refine (HWk.out _ F0.out.b).mono ?_
      rintro q w1 ⟨rfl, hb⟩
      have F1 := Live.hb F0 hb
      clear hb F0 HWk
      have k0_0 : w1.cell? ⟨pb, 0, none⟩ = some (.slice A1 items.length c1) := F1.out.cell 0 0 rfl rfl; have k0_1 : w1.cell? ⟨pb, 1, none⟩ = some (.string ⟨nx.toArray⟩) := F1.out.cell 0 1 rfl rfl; have k0_2 : w1.cell? ⟨pb, 2, none⟩ = some (.slice B1 nodes.length d1) := F1.out.cell 0 2 rfl rfl
      go_wp2_with fail
      refine (HBg.out _ F1.out.b).mono ?_
      rintro q w2 ⟨bb, rfl, hb, hbig⟩
      have F2 := Live.hb F1 hb
      clear hb F1 k0_0 k0_1 k0_2 HBg
      cases bb with
      | true =>
        clear hbig
        go_wp2_with fail
        exact HP.out _ F2.out.b
      | false =>
      have HSm := Lib.hid (hbig rfl)
      clear hbig
      go_wp2_with fail
      refine (HSo.out _ F2.out.b).mono ?_
      rintro q w3 ⟨v3, A3, n3, c3, rfl, hk3, hn3, hc3, own3, hb⟩
      have F3 := Live.hb F2 hb
      have HK3 := Lib.hid hk3
      clear hb F2 own3 hn3 hc3 hk3 HSo
      obtain ⟨_, b3, x3, rfl, _⟩ := id HK3.out
      have HRo2 : Hid (∀ W, Below w3.heap.size w3 W → Calls Tryd.prog 11 #[.pointer (some ⟨b3, 0, none⟩)] W (Ret W (.string ⟨(Trie.sumT t).toArray⟩))) := Lib.hid (fun W hW => (trie_Root W t _ (HK3.out.next hW)).mono (by rintro e w' ⟨rfl, rfl⟩; exact ⟨rfl, Below.refl _ _⟩))
      have k0_0 : w3.cell? ⟨pb, 0, none⟩ = some (.slice A1 items.length c1) := F3.out.cell 0 0 rfl rfl; have k0_1 : w3.cell? ⟨pb, 1, none⟩ = some (.string ⟨nx.toArray⟩) := F3.out.cell 0 1 rfl rfl; have k0_2 : w3.cell? ⟨pb, 2, none⟩ = some (.slice B1 nodes.length d1) := F3.out.cell 0 2 rfl rfl
      have k1_0 : w3.cell? ⟨bx, 0, none⟩ = some (.string ⟨f.toArray⟩) := F3.out.cell 1 0 rfl rfl; have k1_1 : w3.cell? ⟨bx, 1, none⟩ = some (.string ⟨e.toArray⟩) := F3.out.cell 1 1 rfl rfl; have k1_2 : w3.cell? ⟨bx, 2, none⟩ = some (.int .i64 (m : Int)) := F3.out.cell 1 2 rfl rfl
      go_wp2_with fail
      go_region_held3 (fun w' => (w'.cell? ⟨pb, 0, none⟩ = some (.slice A1 items.length c1) ∧ w'.cell? ⟨pb, 1, none⟩ = some (.string ⟨nx.toArray⟩) ∧ w'.cell? ⟨pb, 2, none⟩ = some (.slice B1 nodes.length d1)) ∧ w'.cell? ⟨bx, 0, none⟩ = some (.string ⟨f.toArray⟩) ∧ w'.cell? ⟨bx, 1, none⟩ = some (.string ⟨e.toArray⟩) ∧ w'.cell? ⟨bx, 2, none⟩ = some (.int .i64 ((m : Int)))) (first | go_keep | (refine ⟨⟨?_, ?_, ?_⟩, ?_, ?_, ?_⟩ <;> assumption)) (first
        | (go_at_call 11; refine (HRo2.out _ (by first | exact Below.refl _ _ | exact (Below.refl _ _).drew)).mono ?_; rintro q w4 ⟨rfl, hb⟩; have B4 : Below w3.heap.size w3 w4 := (by first | exact hb | exact hb.start); have F4 := Live.hb F3 B4; have g0 := F4.out.cell 0 0 rfl rfl; have g1 := F4.out.cell 0 1 rfl rfl; have g2 := F4.out.cell 0 2 rfl rfl; have g3 := F4.out.cell 1 0 rfl rfl; have g4 := F4.out.cell 1 1 rfl rfl; have g5 := F4.out.cell 1 2 rfl rfl; clear hb)
        | (go_at_call 10; refine (HV.out _ F4.out.b HSm.out).mono ?_; rintro q w5 ⟨A5, c5, rfl, own5, hb⟩; have B5 : Below w4.heap.size w4 w5 := (by first | exact hb | exact hb.start); have F5 := Live.hb F4 B5; have O5 := Lib.hid own5; have y0 := F5.out.cell 0 0 rfl rfl; have y1 := F5.out.cell 0 1 rfl rfl; have y2 := F5.out.cell 0 2 rfl rfl; have y3 := F5.out.cell 1 0 rfl rfl; have y4 := F5.out.cell 1 1 rfl rfl; have y5 := F5.out.cell 1 2 rfl rfl; clear hb own5))
      have B35 := Lib.hid (B4.nxt B5)
      clear g0 g1 g2 g3 g4 g5 y0 y1 y2 y3 y4 y5 k0_0 k0_1 k0_2 k1_0 k1_1 k1_2 F3 F4 B4 B5 HV HRo2
      go_wp2_with fail
      exact HP.out _ F5.out.b
end Go.Proofs.YtcjafcbekegmlaaDoor
