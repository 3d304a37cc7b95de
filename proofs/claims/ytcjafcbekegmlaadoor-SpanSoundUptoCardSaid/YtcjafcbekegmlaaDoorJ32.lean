import Derived.Test.YtcjafcbekegmlaaDoorJ31
import Derived.Test.YtcjafcbekegmlaaDoorJ07
import Derived.Test.YtcjafcbekegmlaaDoorJ13
import Derived.Test.YtcjafcbekegmlaaDoorJ08
import Derived.Test.YtcjafcbekegmlaaDoorJ26
set_option linter.unusedSimpArgs false
set_option linter.unusedVariables false
namespace Go.Proofs.YtcjafcbekegmlaaDoor
set_option linter.unusedVariables false
namespace Trie
open Nib
def goesOnW (items : List KV) (next e : List UInt8) (most : Nat) : Bool :=
  if most < items.length then false
  else if next = [] then true
  else if items.length ≠ most ∨ (e ≠ [] ∧ Op.bytesLess next e = false) then false
  else decide (next = behindW (items.getD (most - 1) ([], [])).1)
def gotW (root f e : List UInt8) (nodes : List (List UInt8)) : Bool × Gst := gathW (coverW (of f) (of e) e) f e (nodes.length + 17) root [] ([], nodes)
def verifyP (root f e : List UInt8) (most : Nat) (items : List KV) (next : List UInt8) (nodes : List (List UInt8)) : List KV × List UInt8 × Nat :=
  if goesOnW items next e most = false then ([], [], 130)
  else if root = [] then (if nodes ≠ [] ∨ items ≠ [] then ([], [], 130) else ([], [], 0))
  else if (gotW root f (upToW next e) nodes).1 = false ∨ (gotW root f (upToW next e) nodes).2.2 ≠ [] ∨ (gotW root f (upToW next e) nodes).2.1 ≠ items then ([], [], 130)
  else (items, next, 0)
theorem gotW_whole {t : T} (h : Good t) (hn : t ≠ .nil) (f e : List UInt8) (rest : List (List UInt8)) : gotW (sumT t) f e (toldW (coverW (of f) (of e) e) t ++ rest) = (true, (allIn (itemsW t) f e, rest)) := by
  unfold gotW toldW
  rw [gath_whole _ f e _ t [] [] rest (h.okLd hn) rfl (by simp), List.nil_append, cover_items h]
  rfl
theorem goesOn_page {L : List KV} (hr : rises L) (hk : ∀ x ∈ L, x.1.length ≤ 8) (f e : List UInt8) (most : Nat) (hm : 1 ≤ most) : goesOnW (pageW L f e most).1 (pageW L f e most).2 e most = true := by
  obtain ⟨p1, p2, p3, p4⟩ := page_spec hr hk f e most hm
  unfold goesOnW
  rw [if_neg (by rw [p2, List.length_take]; omega)]
  split
  · rfl
  · rename_i hne
    obtain ⟨q1, q2, q3⟩ := p4 hne
    rw [if_neg]
    · exact decide_eq_true q3
    · rintro (h | ⟨h1, h2⟩)
      · exact h q1
      · rw [q2 h1] at h2; cases h2
theorem items_key {t : T} (h : Good t) : ∀ x ∈ itemsW t, x.1.length ≤ 8 := fun x hx => by
  obtain ⟨c1, _, _⟩ := putCode_zero (item_code h hx)
  exact (keyed_len c1).1
def pageN (t : T) (f e : List UInt8) (most : Nat) : List (List UInt8) := toldW (coverW (of f) (of (upToW (pageW (itemsW t) f e most).2 e)) (upToW (pageW (itemsW t) f e most).2 e)) t
theorem span_whole {t : T} (h : Good t) (f e : List UInt8) (most : Nat) (hm : 1 ≤ most) :
    verifyP (sumT t) f e most (pageW (itemsW t) f e most).1 (pageW (itemsW t) f e most).2 (pageN t f e most) = ((pageW (itemsW t) f e most).1, (pageW (itemsW t) f e most).2, 0) := by
  have hg := goesOn_page (rises_itemsW h) (items_key h) f e most hm
  obtain ⟨p1, p2, p3, p4⟩ := page_spec (rises_itemsW h) (items_key h) f e most hm
  unfold verifyP
  rw [if_neg (by simp [hg])]
  by_cases hn : t = .nil
  · subst hn
    have e0 : itemsW .nil = [] := rfl
    have e1 : pageW (itemsW .nil) f e most = ([], []) := by unfold pageW allIn; rw [e0]; simp
    rw [if_pos (show sumT .nil = [] from rfl), e1]
    have e2 : pageN .nil f e most = [] := rfl
    rw [e2]
    simp
  · rw [if_neg (fun he => hn (sumT_empty.1 he))]
    have hw := gotW_whole h hn f (upToW (pageW (itemsW t) f e most).2 e) []
    rw [List.append_nil] at hw
    have hw' : gotW (sumT t) f (upToW (pageW (itemsW t) f e most).2 e) (pageN t f e most) = (true, (allIn (itemsW t) f (upToW (pageW (itemsW t) f e most).2 e), [])) := hw
    rw [hw', p3]
    simp
theorem span_sound {t : T} (h : Good t) (f e : List UInt8) (most : Nat) (hm : 1 ≤ most) (items : List KV) (next : List UInt8) (nodes : List (List UInt8)) (hv : (verifyP (sumT t) f e most items next nodes).2.2 = 0) :
    (∃ x ∈ toldW allW t ++ nodes, ∃ y ∈ toldW allW t ++ nodes, x ≠ y ∧ shaW (1 :: x) = shaW (1 :: y)) ∨
    (verifyP (sumT t) f e most items next nodes = (items, next, 0) ∧ items = allIn (itemsW t) f (upToW next e) ∧ items.length ≤ most) := by
  unfold verifyP at hv ⊢
  by_cases h1 : goesOnW items next e most = false
  · rw [if_pos h1] at hv; cases hv
  rw [if_neg h1] at hv ⊢
  have hlen : items.length ≤ most := by
    unfold goesOnW at h1
    by_cases hl : most < items.length
    · rw [if_pos hl] at h1; exact absurd rfl h1
    · omega
  by_cases hn : t = .nil
  · subst hn
    rw [if_pos (show sumT .nil = [] from rfl)] at hv ⊢
    split at hv
    · cases hv
    · rename_i h2
      rw [if_neg h2]
      simp only [not_or, ne_eq, Decidable.not_not] at h2
      right
      obtain ⟨_, hi⟩ := h2
      subst hi
      have hnx : next = [] := by
        unfold goesOnW at h1
        rw [if_neg (by simp)] at h1
        by_cases hx : next = []
        · exact hx
        · rw [if_neg hx] at h1
          by_cases hz : ([] : List KV).length ≠ most ∨ (e ≠ [] ∧ Op.bytesLess next e = false)
          · rw [if_pos hz] at h1; exact absurd rfl h1
          · simp only [not_or, ne_eq, Decidable.not_not] at hz
            have := hz.1
            simp only [List.length_nil] at this
            omega
      subst hnx
      exact ⟨rfl, rfl, hlen⟩
  · have hs : sumT t ≠ [] := fun he => hn (sumT_empty.1 he)
    rw [if_neg hs] at hv ⊢
    by_cases h2 : (gotW (sumT t) f (upToW next e) nodes).1 = false ∨ (gotW (sumT t) f (upToW next e) nodes).2.2 ≠ [] ∨ (gotW (sumT t) f (upToW next e) nodes).2.1 ≠ items
    · rw [if_pos h2] at hv; cases hv
    rw [if_neg h2]
    simp only [not_or, ne_eq, Bool.not_eq_false, Decidable.not_not] at h2
    obtain ⟨a1, a2, a3⟩ := h2
    obtain ⟨r, hr⟩ : ∃ r, (gotW (sumT t) f (upToW next e) nodes).2 = r := ⟨_, rfl⟩
    have hg : gotW (sumT t) f (upToW next e) nodes = (true, r) := by rw [← a1, ← hr]
    rcases gath_sound _ f (upToW next e) _ t [] [] nodes r (h.okLd hn) hg with ⟨x, hx, y, hy, hne, hq⟩ | hq
    · left
      exact ⟨x, List.mem_append_right _ hx, y, List.mem_append_left _ (by rw [told_knots]; exact hy), hne, hq⟩
    · right
      refine ⟨rfl, ?_, hlen⟩
      rw [hr] at a2 a3
      rw [a2, List.append_nil] at hq
      have hw := gotW_whole h hn f (upToW next e) []
      rw [List.append_nil] at hw
      have hnodes : nodes = toldW (coverW (of f) (of (upToW next e)) (upToW next e)) t := hq
      rw [← hnodes, hg] at hw
      injection hw with _ hw
      rw [← a3, hw]
end Trie
end Go.Proofs.YtcjafcbekegmlaaDoor

namespace Go.Proofs.YtcjafcbekegmlaaDoor
set_option linter.unusedVariables false
namespace Trie
theorem nextB_short : ∀ (m : Nat) (k : List UInt8), k.length < m → nextB m k = some (k ++ [0])
  | 0, k, h => by omega
  | m + 1, [], h => rfl
  | m + 1, b :: r, h => by
    rw [List.length_cons] at h
    simp only [nextB]
    rw [nextB_short m r (by omega)]
    rfl
theorem nextB_full : ∀ (m : Nat) (k : List UInt8), k.length = m → ∀ n, n ≤ m → (∀ i, n ≤ i → i < m → k[i]? = some 255) →
    (n = 0 → nextB m k = none) ∧ (∀ b, 0 < n → k[n - 1]? = some b → b ≠ 255 → nextB m k = some (k.take (n - 1) ++ [b + 1]))
  | 0, k, h, n, hn, hi => ⟨fun _ => rfl, fun b h0 => by omega⟩
  | m + 1, [], h, n, hn, hi => by cases h
  | m + 1, c :: r, h, n, hn, hi => by
    rw [List.length_cons] at h
    cases n with
    | zero =>
      refine ⟨fun _ => ?_, fun b h0 => by omega⟩
      have ih := (nextB_full m r (by omega) 0 (by omega) (fun i h1 h2 => by
        have := hi (i + 1) (by omega) (by omega)
        simpa using this)).1 rfl
      have h0 := hi 0 (by omega) (by omega)
      simp only [List.getElem?_cons_zero, Option.some.injEq] at h0
      simp only [nextB]
      rw [ih, h0]
      rfl
    | succ n =>
      refine ⟨fun e => by omega, fun b _ hb hne => ?_⟩
      have ih := nextB_full m r (by omega) n (by omega) (fun i h1 h2 => by
        have := hi (i + 1) (by omega) (by omega)
        simpa using this)
      simp only [nextB]
      cases n with
      | zero =>
        rw [ih.1 rfl]
        simp at hb
        subst hb
        simp [hne]
      | succ n =>
        simp only [Nat.add_sub_cancel, List.getElem?_cons_succ] at hb
        have := ih.2 b (by omega) (by simpa using hb) hne
        rw [this]
        simp
theorem behind_long {k : List UInt8} (h : 8 < k.length) : behindW k = [] := by unfold behindW; rw [if_pos h]
theorem behind_short {k : List UInt8} (h : k.length < 8) : behindW k = k ++ [0] := by
  unfold behindW; rw [if_neg (by omega), nextB_short 8 k h]; rfl
theorem behind_zero {k : List UInt8} (h : k.length = 8) (hi : ∀ i, i < 8 → k[i]? = some 255) : behindW k = [] := by
  unfold behindW; rw [if_neg (by omega), (nextB_full 8 k h 0 (by omega) (fun i _ h2 => hi i h2)).1 rfl]; rfl
theorem behind_at {k : List UInt8} (h : k.length = 8) {n : Nat} (hn : n ≤ 8) (h0 : 0 < n) (hi : ∀ i, n ≤ i → i < 8 → k[i]? = some 255) {b : UInt8} (hb : k[n - 1]? = some b) (hne : b ≠ 255) : behindW k = k.take (n - 1) ++ [b + 1] := by
  unfold behindW; rw [if_neg (by omega), (nextB_full 8 k h n hn hi).2 b h0 hb hne]; rfl
theorem behind_le (k : List UInt8) : (behindW k).length ≤ 8 := by
  by_cases h8 : 8 < k.length
  · rw [behind_long h8]; simp
  by_cases h7 : k.length < 8
  · rw [behind_short h7]; simp; omega
  have key : ∀ (m : Nat) (k s : List UInt8), nextB m k = some s → s.length ≤ m := by
    intro m
    induction m with
    | zero => intro k s h; cases h
    | succ m ih =>
      intro k s h
      cases k with
      | nil => simp [nextB] at h; subst h; simp
      | cons b r =>
        simp only [nextB] at h
        split at h
        · rename_i s' hs; injection h with h; subst h; have := ih _ _ hs; simp; omega
        · split at h
          · cases h
          · injection h with h; subst h; simp
  unfold behindW
  rw [if_neg h8]
  cases hn : nextB 8 k with
  | none => simp
  | some s => exact key _ _ _ hn
end Trie
end Go.Proofs.YtcjafcbekegmlaaDoor

namespace Go.Proofs.YtcjafcbekegmlaaDoor
set_option linter.unusedVariables false
open Go.RowKit Go.Instr
attribute [local go_sem] ba_get ByteArray.mk_append_mk
set_option maxHeartbeats 1000000 in
theorem scan_Behind (w : World) (key : List UInt8) :
    Calls Tryd.prog 42 #[.string ⟨key.toArray⟩] w (Ret w (.string ⟨(Trie.behindW key).toArray⟩)) := by
  have HP : Hid (∀ s w', Trie.behindW key = s → Below w.heap.size w w' → Ret w (.string ⟨(Trie.behindW key).toArray⟩) (Ending.returned (.string ⟨s.toArray⟩)) w') := Lib.hid (fun s W' a1 a2 => ⟨by rw [a1], a2⟩)
  by_cases h8 : 8 < key.length
  · have HB := Lib.hid (Trie.behind_long h8)
    generalize Ret w (.string ⟨(Trie.behindW key).toArray⟩) = P at HP ⊢
    have hI : (8 : Int) < key.length := by omega
    clear h8
    go_enter Tryd.func42, Tryd.ntmps42
    go_wp2_with fail
    exact HP.out [] _ HB.out (Below.refl _ _)
  have hI : ((8 : Int) < key.length) = False := by simp; omega
  by_cases h7 : key.length < 8
  · have HB := Lib.hid (Trie.behind_short h7)
    generalize Ret w (.string ⟨(Trie.behindW key).toArray⟩) = P at HP ⊢
    have hJ : (key.length : Int) < 8 := by omega
    have hsum : key.length + 1 ≤ 9223372036854775807 := by omega
    clear h8 h7
    go_enter Tryd.func42, Tryd.ntmps42
    go_wp2_with fail
    exact HP.out _ _ HB.out (Below.refl _ _)
  have h8' : key.length = 8 := by omega
  have HZ : Hid (∀ n, n ≤ 8 → (∀ i, n ≤ i → i < 8 → key[i]? = some 255) → (n = 0 → Trie.behindW key = []) ∧ (∀ m, n = m + 1 → key.getD m 0 ≠ 255 → Trie.behindW key = key.take m ++ [key.getD m 0 + 1])) := Lib.hid (fun n hn hi => ⟨fun e => by subst e; exact Trie.behind_zero h8' (fun i h => hi i (Nat.zero_le _) h), fun m e hne => by
    subst e
    have hm : m < key.length := by omega
    have e1 : key.getD m 0 = key[m] := by rw [List.getD_eq_getElem?_getD, List.getElem?_eq_getElem hm]; rfl
    rw [e1] at hne ⊢
    exact Trie.behind_at h8' hn (Nat.succ_pos _) hi (by rw [Nat.add_sub_cancel, List.getElem?_eq_getElem hm]) hne⟩)
  generalize Ret w (.string ⟨(Trie.behindW key).toArray⟩) = P at HP ⊢
  have hL : (key.length : Int) = 8 := by omega
  have H8 := Lib.hid h8'
  clear h8 h7 h8' hI
  go_enter Tryd.func42, Tryd.ntmps42
  go_wp2_with fail
  refine wp_loop_ghost_k (fun k a wr => ∀ Φ : Act → Prop, (∀ (s1 s2 s4 s5 s6 s7 s8 s9 s10 s11 s12 s13 s14 s15 s16 s17 s18 s19 s20 s21 s22 s23 s24 s25 s26 s27 s28 s29 s30 s31 s32 s33 s34 s35 s36 s37 s38 : Value) (n : Nat), (n ≤ 8 ∧ k = n ∧ (∀ i, n ≤ i → i < 8 → key[i]? = some 255) ∧ Below w.heap.size w wr) → Φ { tmps := #[.string ⟨key.toArray⟩, s1, s2, .int .i64 (n : Int), s4, s5, s6, s7, s8, s9, s10, s11, s12, s13, s14, s15, s16, s17, s18, s19, s20, s21, s22, s23, s24, s25, s26, s27, s28, s29, s30, s31, s32, s33, s34, s35, s36, s37, s38], defers := [] }) → Φ a) (8) ?_ ?_
  · refine fun Φ hΦ => hΦ _ _ _ _ _ _ _ _ _ _ _ _ _ _ _ _ _ _ _ _ _ _ _ _ _ _ _ _ _ _ _ _ _ _ _ _ _ (8) ?_
    exact ⟨Nat.le_refl _, rfl, fun i h1 h2 => absurd h2 (by omega), Below.refl _ _⟩
  · intro k1 a1 wr1 hI1 J1 K1 hJ1 hK1
    refine hI1 (fun a => Code.wp _ _ _ a _) ?_
    clear hI1 a1
    intro s0 s1 s2 s3 s4 s5 s6 s7 s8 s9 s10 s11 s12 s13 s14 s15 s16 s17 s18 s19 s20 s21 s22 s23 s24 s25 s26 s27 s28 s29 s30 s31 s32 s33 s34 s35 s36 n hrel
    show Code.wp _ _ _ _ _
    obtain ⟨h1, h2, h3, hb⟩ := hrel
    have HH := Lib.hid h3
    have HBl := Lib.hid hb
    clear h3 hb
    cases n with
    | zero =>
      have HB := Lib.hid ((HZ.out 0 (by omega) HH.out).1 rfl)
      clear h1 h2 HZ
      go_wp2_with fail
      exact HP.out [] _ HB.out HBl.out
    | succ m =>
      have hm : m < key.length := by have := H8.out; omega
      have HX := fun W => run_byte key m hm W
      have hp : (0 : Int) < (m : Int) + 1 := by omega
      have em : ((m : Int) + 1 - 1) = (m : Int) := by omega
      have hw : IntKind.i64.wrap (m : Int) = (m : Int) := IntWalk.i64_in _ (by omega)
      have HN := Lib.hid ((HZ.out (m + 1) h1 HH.out).2 m rfl)
      have HU : Hid (key.getD m 0 = 255 → ∀ i, m ≤ i → i < 8 → key[i]? = some 255) := Lib.hid (fun e i g1 g2 => by
        by_cases hi : i = m
        · subst hi
          rw [List.getElem?_eq_getElem hm]
          rw [List.getD_eq_getElem?_getD, List.getElem?_eq_getElem hm] at e
          exact congrArg some e
        · exact HH.out i (by omega) g2)
      have HT := fun W => run_take key m (by omega) W
      have HM := Lib.hid (And.intro h1 (And.intro h2 hm))
      clear HZ h1 h2 HH
      generalize key.getD m 0 = b at *
      by_cases hb : b = 255
      · have hbI : ((b.toNat : Int) == 255) = true := by subst hb; rfl
        have HU2 := Lib.hid (HU.out hb)
        clear hb HU HN HT
        go_wp2_with fail
        refine Handed.intro (m) ?_ (hJ1 _ _ _ (fun Φ hΦ => hΦ _ _ _ _ _ _ _ _ _ _ _ _ _ _ _ _ _ _ _ _ _ _ _ _ _ _ _ _ _ _ _ _ _ _ _ _ _ (m) ?_))
        · have := HM.out.2.1; omega
        · exact ⟨by have := HM.out.1; omega, rfl, HU2.out, HBl.out⟩
      · have hn255 : b.toNat ≠ 255 := fun e => hb (UInt8.toNat_inj.1 e)
        have hbI : ((b.toNat : Int) == 255) = false := by simp; omega
        have hlt := b.toNat_lt
        have HB := Lib.hid (HN.out hb)
        have hbw : IntKind.u8.wrap ((b.toNat : Int) + 1) = (b.toNat : Int) + 1 := IntWalk.u8_in _ (by omega)
        have hcv : UInt8.ofNat ((b.toNat : Int) + 1).toNat = b + 1 := by
          apply UInt8.toNat_inj.1
          rw [UInt8.toNat_add]
          simp
        have hq0 : (0 : Int) ≤ (b.toNat : Int) + 1 := by omega
        have hq1 : (b.toNat : Int) + 1 < 256 := by omega
        have hc1 := fun W => conv1 W ((b.toNat : Int) + 1) hq0 hq1
        have hc2 := fun W => conv1d W ((b.toNat : Int) + 1) hq0 hq1
        rw [hcv] at hc1 hc2
        have hmz : ((m : Int) + 1 == 0) = false := by simp; omega
        have hjs : (key.take m).length + 1 ≤ 9223372036854775807 := by rw [List.length_take]; omega
        clear hb HU HN hn255 hcv hlt hq0 hq1
        generalize key.take m = pre at *
        go_wp2_with fail
        go_region
        all_goals go_wp2
        all_goals exact HP.out _ _ HB.out (HBl.out.nxt (by go_grown))
end Go.Proofs.YtcjafcbekegmlaaDoor

namespace Go.Proofs.YtcjafcbekegmlaaDoor
set_option linter.unusedVariables false
open Go.RowKit Go.Instr
attribute [local go_sem] ba_get ByteArray.mk_append_mk
theorem span_upTo (w : World) (nx e : List UInt8) :
    Calls Tryd.prog 24 #[.string ⟨nx.toArray⟩, .string ⟨e.toArray⟩] w fun r w' => r = .returned (.string ⟨(Trie.upToW nx e).toArray⟩) ∧ w = w' := by
  have HP : Hid (∀ s w', Trie.upToW nx e = s → w = w' → (fun r w' => r = Ending.returned (.string ⟨(Trie.upToW nx e).toArray⟩) ∧ w = w') (Ending.returned (.string ⟨s.toArray⟩)) w') := Lib.hid (fun s w' h1 h2 => ⟨by rw [h1], h2⟩)
  generalize (fun r w' => r = Ending.returned (.string ⟨(Trie.upToW nx e).toArray⟩) ∧ w = w') = P at HP ⊢
  by_cases hn : nx = []
  · subst hn
    have HE : Hid (Trie.upToW [] e = e) := Lib.hid rfl
    go_enter Tryd.func24, Tryd.ntmps24
    go_wp2_with fail
    exact HP.out e _ HE.out rfl
  · have HE : Hid (Trie.upToW nx e = nx) := Lib.hid (by unfold Trie.upToW; rw [if_pos hn])
    have ne1 : (nx.toArray = #[]) = False := by simp [hn]
    have ne2 : nx.isEmpty = false := by simp [hn]
    clear hn
    go_enter Tryd.func24, Tryd.ntmps24
    go_wp2_with fail
    exact HP.out nx _ HE.out rfl
theorem decide_beq (a b : List UInt8) : decide (a = b) = (a == b) := by
  by_cases h : a = b
  · simp [h]
  · simp [h]
set_option maxHeartbeats 2000000 in
theorem span_goesOn (w : World) (items : List Trie.KV) (A : Option Addr) (c : Nat) (HR : Reads w w.heap.size 2 A items.length (icells items)) (nx e : List UInt8) (NV : Value) (most : Nat) (h1 : 1 ≤ most) (h2 : most ≤ 16) (h1' : NV.oneCell' = true) (hil : items.length ≤ 100000) :
    Calls Tryd.prog 25 #[.agg #[.slice A items.length c, .string ⟨nx.toArray⟩, NV], .string ⟨e.toArray⟩, .int .i64 (most : Int)] w (Ret w (.bool (Trie.goesOnW items nx e most))) := by
  have HP : Hid (∀ r w', Trie.goesOnW items nx e most = r → Below w.heap.size w w' → Ret w (.bool (Trie.goesOnW items nx e most)) (Ending.returned (.bool r)) w') := Lib.hid (fun r W' a1 a2 => ⟨by rw [a1], a2⟩)
  have HG : Hid (Trie.goesOnW items nx e most = if most < items.length then false
  else if nx = [] then true
  else if items.length ≠ most ∨ (e ≠ [] ∧ Op.bytesLess nx e = false) then false
  else decide (nx = Trie.behindW (items.getD (most - 1) ([], [])).1)) := Lib.hid rfl
  generalize Ret w (.bool (Trie.goesOnW items nx e most)) = P at HP ⊢
  generalize Trie.goesOnW items nx e most = G at *
  by_cases k1 : most < items.length
  · rw [if_pos k1] at HG
    have kI : (most : Int) < items.length := by omega
    clear HR
    go_enter Tryd.func25, Tryd.ntmps25
    go_upto_region 1 with fail
    obtain ⟨nb, hnb⟩ : ∃ nb, w.heap.size = nb := ⟨_, rfl⟩
    have hb0 : Hid (Blk (w.alloc (.cells #[.slice A items.length c, .string ⟨nx.toArray⟩, NV] 31)) nb 31 #[.slice A items.length c, .string ⟨nx.toArray⟩, NV] ∧ Below w.heap.size w (w.alloc (.cells #[.slice A items.length c, .string ⟨nx.toArray⟩, NV] 31))) := Lib.hid (by subst hnb; exact ⟨Blk.new _ _ _, by go_grown⟩)
    try rw [hnb]
    generalize w.alloc (.cells #[.slice A items.length c, .string ⟨nx.toArray⟩, NV] 31) = W0 at hb0 ⊢
    clear hnb
    have c0 : W0.cell? ⟨nb, 0, none⟩ = some (.slice A items.length c) := hb0.out.1.cell 0
    have c1 : W0.cell? ⟨nb, 1, none⟩ = some (.string ⟨nx.toArray⟩) := hb0.out.1.cell 1
    go_wp2_with fail
    exact HP.out false _ HG.out hb0.out.2
  rw [if_neg k1] at HG
  have kI : ((most : Int) < items.length) = False := by simp; omega
  by_cases k2 : nx = []
  · subst k2
    rw [if_pos rfl] at HG
    clear HR
    go_enter Tryd.func25, Tryd.ntmps25
    go_upto_region 1 with fail
    obtain ⟨nb, hnb⟩ : ∃ nb, w.heap.size = nb := ⟨_, rfl⟩
    have hb0 : Hid (Blk (w.alloc (.cells #[.slice A items.length c, .string ⟨#[]⟩, NV] 31)) nb 31 #[.slice A items.length c, .string ⟨#[]⟩, NV] ∧ Below w.heap.size w (w.alloc (.cells #[.slice A items.length c, .string ⟨#[]⟩, NV] 31))) := Lib.hid (by subst hnb; exact ⟨Blk.new _ _ _, by go_grown⟩)
    try rw [hnb]
    generalize w.alloc (.cells #[.slice A items.length c, .string ⟨#[]⟩, NV] 31) = W0 at hb0 ⊢
    clear hnb
    have c0 : W0.cell? ⟨nb, 0, none⟩ = some (.slice A items.length c) := hb0.out.1.cell 0
    have c1 : W0.cell? ⟨nb, 1, none⟩ = some (.string ⟨#[]⟩) := hb0.out.1.cell 1
    go_wp2_with fail
    exact HP.out true _ HG.out hb0.out.2
  rw [if_neg k2] at HG
  have ne1 : (nx.toArray = #[]) = False := by simp [k2]
  have ne2 : nx.isEmpty = false := by simp [k2]
  clear k2
  by_cases k3 : items.length = most
  · have kJ : ((items.length : Int) != (most : Int)) = false := by simp; omega
    have HBe : Hid (∀ W, Calls Tryd.prog 42 #[.string ⟨(items.getD (most - 1) ([], [])).1.toArray⟩] W (Ret W (.string ⟨(Trie.behindW (items.getD (most - 1) ([], [])).1).toArray⟩))) := Lib.hid (fun W => scan_Behind W _)
    obtain ⟨m, hm⟩ : ∃ m, most = m + 1 := ⟨most - 1, by omega⟩
    have hmi : m < items.length := by omega
    obtain ⟨ad, off, rfl, hbl, hcell⟩ := item_cells HR hmi
    have eg : items.getD (most - 1) ([], []) = items[m] := by rw [hm, Nat.add_sub_cancel, List.getD_eq_getElem?_getD, List.getElem?_eq_getElem hmi]; rfl
    rw [eg] at HG HBe
    have HK : Hid (∀ W, Below w.heap.size w W → W.cell? ⟨ad, off + m * 2, none⟩ = some (.string ⟨items[m].1.toArray⟩)) := Lib.hid (fun W hW => (hcell W hW).1)
    generalize items[m].1 = ky at *
    have em : ((most : Int) - 1) = (m : Int) := by omega
    have hm0 : (0 : Int) ≤ m := by omega
    have hw : IntKind.i64.wrap ((most : Int) - 1) = (m : Int) := by rw [em]; exact IntWalk.i64_in _ (by constructor <;> omega)
    clear em
    have hm1 : (m : Int) < items.length := by omega
    generalize Trie.behindW ky = bk at *
    have k3' := k3
    have HK3 := Lib.hid k3'
    by_cases k4 : e = []
    · subst k4
      rw [if_neg (by simp [k3])] at HG
      clear HR hcell eg k3 k3' hmi hm
      go_enter Tryd.func25, Tryd.ntmps25
      go_upto_region 1 with fail
      obtain ⟨nb, hnb⟩ : ∃ nb, w.heap.size = nb := ⟨_, rfl⟩
      have hb0 : Hid (Blk (w.alloc (.cells #[.slice (some ⟨ad, off, none⟩) items.length c, .string ⟨nx.toArray⟩, NV] 31)) nb 31 #[.slice (some ⟨ad, off, none⟩) items.length c, .string ⟨nx.toArray⟩, NV] ∧ Below w.heap.size w (w.alloc (.cells #[.slice (some ⟨ad, off, none⟩) items.length c, .string ⟨nx.toArray⟩, NV] 31))) := Lib.hid (by subst hnb; exact ⟨Blk.new _ _ _, by go_grown⟩)
      try rw [hnb]
      generalize w.alloc (.cells #[.slice (some ⟨ad, off, none⟩) items.length c, .string ⟨nx.toArray⟩, NV] 31) = W0 at hb0 ⊢
      clear hnb
      have c0 : W0.cell? ⟨nb, 0, none⟩ = some (.slice (some ⟨ad, off, none⟩) items.length c) := hb0.out.1.cell 0
      have c1 : W0.cell? ⟨nb, 1, none⟩ = some (.string ⟨nx.toArray⟩) := hb0.out.1.cell 1
      go_upto_region 7 with fail
      have q1 := HK.out W0 hb0.out.2
      go_region_held3 (fun w' => w'.cell? ⟨nb, 0, none⟩ = some (.slice (some ⟨ad, off, none⟩) items.length c) ∧ w'.cell? ⟨nb, 1, none⟩ = some (.string ⟨nx.toArray⟩) ∧ w'.cell? ⟨ad, off + m * 2, none⟩ = some (.string ⟨ky.toArray⟩)) (first | go_keep | (refine ⟨?_, ?_, ?_⟩ <;> assumption)) ((go_at_call 42; refine (HBe.out _).mono ?_; rintro r w1 ⟨rfl, hb⟩; have B1 : Below W0.heap.size W0 w1 := (by first | exact hb | exact hb.start); have d0 := (B1.cell (p := ⟨nb, 0, none⟩) hb0.out.1.lt).trans c0; have d1 := (B1.cell (p := ⟨nb, 1, none⟩) hb0.out.1.lt).trans c1; have d2 := HK.out w1 (hb0.out.2.nxt B1); clear hb))
      go_wp2_with fail
      exact HP.out _ _ (HG.out.trans (decide_beq nx bk)) (hb0.out.2.nxt B1)
    · have ne3 : (e.toArray = #[]) = False := by simp [k4]
      have ne4 : e.isEmpty = false := by simp [k4]
      cases k5 : Op.bytesLess nx e with
      | false =>
        rw [if_pos (.inr ⟨k4, k5⟩)] at HG
        clear HR hcell eg k4 k3 k3' hmi hm
        go_enter Tryd.func25, Tryd.ntmps25
        go_upto_region 1 with fail
        obtain ⟨nb, hnb⟩ : ∃ nb, w.heap.size = nb := ⟨_, rfl⟩
        have hb0 : Hid (Blk (w.alloc (.cells #[.slice (some ⟨ad, off, none⟩) items.length c, .string ⟨nx.toArray⟩, NV] 31)) nb 31 #[.slice (some ⟨ad, off, none⟩) items.length c, .string ⟨nx.toArray⟩, NV] ∧ Below w.heap.size w (w.alloc (.cells #[.slice (some ⟨ad, off, none⟩) items.length c, .string ⟨nx.toArray⟩, NV] 31))) := Lib.hid (by subst hnb; exact ⟨Blk.new _ _ _, by go_grown⟩)
        try rw [hnb]
        generalize w.alloc (.cells #[.slice (some ⟨ad, off, none⟩) items.length c, .string ⟨nx.toArray⟩, NV] 31) = W0 at hb0 ⊢
        clear hnb
        have c0 : W0.cell? ⟨nb, 0, none⟩ = some (.slice (some ⟨ad, off, none⟩) items.length c) := hb0.out.1.cell 0
        have c1 : W0.cell? ⟨nb, 1, none⟩ = some (.string ⟨nx.toArray⟩) := hb0.out.1.cell 1
        go_wp2_with fail
        exact HP.out false _ HG.out hb0.out.2
      | true =>
        rw [if_neg (by simp [k3, k5])] at HG
        clear HR hcell eg k4 k3 k3' hmi hm
        go_enter Tryd.func25, Tryd.ntmps25
        go_upto_region 1 with fail
        obtain ⟨nb, hnb⟩ : ∃ nb, w.heap.size = nb := ⟨_, rfl⟩
        have hb0 : Hid (Blk (w.alloc (.cells #[.slice (some ⟨ad, off, none⟩) items.length c, .string ⟨nx.toArray⟩, NV] 31)) nb 31 #[.slice (some ⟨ad, off, none⟩) items.length c, .string ⟨nx.toArray⟩, NV] ∧ Below w.heap.size w (w.alloc (.cells #[.slice (some ⟨ad, off, none⟩) items.length c, .string ⟨nx.toArray⟩, NV] 31))) := Lib.hid (by subst hnb; exact ⟨Blk.new _ _ _, by go_grown⟩)
        try rw [hnb]
        generalize w.alloc (.cells #[.slice (some ⟨ad, off, none⟩) items.length c, .string ⟨nx.toArray⟩, NV] 31) = W0 at hb0 ⊢
        clear hnb
        have c0 : W0.cell? ⟨nb, 0, none⟩ = some (.slice (some ⟨ad, off, none⟩) items.length c) := hb0.out.1.cell 0
        have c1 : W0.cell? ⟨nb, 1, none⟩ = some (.string ⟨nx.toArray⟩) := hb0.out.1.cell 1
        go_upto_region 7 with fail
        have q1 := HK.out W0 hb0.out.2
        go_region_held3 (fun w' => w'.cell? ⟨nb, 0, none⟩ = some (.slice (some ⟨ad, off, none⟩) items.length c) ∧ w'.cell? ⟨nb, 1, none⟩ = some (.string ⟨nx.toArray⟩) ∧ w'.cell? ⟨ad, off + m * 2, none⟩ = some (.string ⟨ky.toArray⟩)) (first | go_keep | (refine ⟨?_, ?_, ?_⟩ <;> assumption)) ((go_at_call 42; refine (HBe.out _).mono ?_; rintro r w1 ⟨rfl, hb⟩; have B1 : Below W0.heap.size W0 w1 := (by first | exact hb | exact hb.start); have d0 := (B1.cell (p := ⟨nb, 0, none⟩) hb0.out.1.lt).trans c0; have d1 := (B1.cell (p := ⟨nb, 1, none⟩) hb0.out.1.lt).trans c1; have d2 := HK.out w1 (hb0.out.2.nxt B1); clear hb))
        go_wp2_with fail
        exact HP.out _ _ (HG.out.trans (decide_beq nx bk)) (hb0.out.2.nxt B1)
  · rw [if_pos (.inl k3)] at HG
    have kJ : ((items.length : Int) != (most : Int)) = true := by simp; omega
    clear HR k3
    go_enter Tryd.func25, Tryd.ntmps25
    go_upto_region 1 with fail
    obtain ⟨nb, hnb⟩ : ∃ nb, w.heap.size = nb := ⟨_, rfl⟩
    have hb0 : Hid (Blk (w.alloc (.cells #[.slice A items.length c, .string ⟨nx.toArray⟩, NV] 31)) nb 31 #[.slice A items.length c, .string ⟨nx.toArray⟩, NV] ∧ Below w.heap.size w (w.alloc (.cells #[.slice A items.length c, .string ⟨nx.toArray⟩, NV] 31))) := Lib.hid (by subst hnb; exact ⟨Blk.new _ _ _, by go_grown⟩)
    try rw [hnb]
    generalize w.alloc (.cells #[.slice A items.length c, .string ⟨nx.toArray⟩, NV] 31) = W0 at hb0 ⊢
    clear hnb
    have c0 : W0.cell? ⟨nb, 0, none⟩ = some (.slice A items.length c) := hb0.out.1.cell 0
    have c1 : W0.cell? ⟨nb, 1, none⟩ = some (.string ⟨nx.toArray⟩) := hb0.out.1.cell 1
    go_wp2_with fail
    exact HP.out false _ HG.out hb0.out.2
end Go.Proofs.YtcjafcbekegmlaaDoor
