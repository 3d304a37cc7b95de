import Derived.Test.YtcjafcbekegmlaaGreatDoorJ38
import Derived.Test.YtcjafcbekegmlaaGreatDoorJ08
import Derived.Test.YtcjafcbekegmlaaGreatDoorJ14
import Derived.Test.YtcjafcbekegmlaaGreatDoorJ24
import Derived.Test.YtcjafcbekegmlaaGreatDoorJ28
set_option linter.unusedSimpArgs false
set_option linter.unusedVariables false
namespace Go.Proofs.YtcjafcbekegmlaaGreatDoor
set_option linter.unusedVariables false
namespace Trie
open Nib
def goesOnW (items : List KV) (next e : List UInt8) (most : Nat) : Bool :=
  if most < items.length then false
  else if next = [] then true
  else if items.length ≠ most ∨ (e ≠ [] ∧ Op.bytesLess next e = false) then false
  else decide (next = behindW (items.getD (most - 1) ([], [])).1)
def gotW (root f e : List UInt8) (nodes : List (List UInt8)) : Bool × Gst := gathW (coverW (of f) (of e) e) f e (nodes.length + 17) root [] ([], nodes)
def verifyP (root f e : List UInt8) (most : Nat) (items : List KV) (next : List UInt8) (nodes : List (List UInt8)) : List KV × List UInt8 × Nat :=
  if goesOnW items next e most = false then ([], [], 130)
  else if root = [] then (if nodes ≠ [] ∨ items ≠ [] then ([], [], 130) else ([], [], 0))
  else if (gotW root f (upToW next e) nodes).1 = false ∨ (gotW root f (upToW next e) nodes).2.2 ≠ [] ∨ (gotW root f (upToW next e) nodes).2.1 ≠ items then ([], [], 130)
  else (items, next, 0)
theorem gotW_whole {t : T} (h : Good t) (hn : t ≠ .nil) (f e : List UInt8) (rest : List (List UInt8)) : gotW (sumT t) f e (toldW (coverW (of f) (of e) e) t ++ rest) = (true, (allIn (itemsW t) f e, rest)) := by
  unfold gotW toldW
  rw [gath_whole _ f e _ t [] [] rest (h.okLd hn) rfl (by simp), List.nil_append, cover_items h]
  rfl
theorem goesOn_page {L : List KV} (hr : rises L) (hk : ∀ x ∈ L, x.1.length ≤ 8) (f e : List UInt8) (most : Nat) (hm : 1 ≤ most) : goesOnW (pageW L f e most).1 (pageW L f e most).2 e most = true := by
  obtain ⟨p1, p2, p3, p4⟩ := page_spec hr hk f e most hm
  unfold goesOnW
  rw [if_neg (by rw [p2, List.length_take]; omega)]
  split
  · rfl
  · rename_i hne
    obtain ⟨q1, q2, q3⟩ := p4 hne
    rw [if_neg]
    · exact decide_eq_true q3
    · rintro (h | ⟨h1, h2⟩)
      · exact h q1
      · rw [q2 h1] at h2; cases h2
theorem items_key {t : T} (h : Good t) : ∀ x ∈ itemsW t, x.1.length ≤ 8 := fun x hx => by
  obtain ⟨c1, _, _⟩ := putCode_zero (item_code h hx)
  exact (keyed_len c1).1
def pageN (t : T) (f e : List UInt8) (most : Nat) : List (List UInt8) := toldW (coverW (of f) (of (upToW (pageW (itemsW t) f e most).2 e)) (upToW (pageW (itemsW t) f e most).2 e)) t
theorem span_whole {t : T} (h : Good t) (f e : List UInt8) (most : Nat) (hm : 1 ≤ most) :
    verifyP (sumT t) f e most (pageW (itemsW t) f e most).1 (pageW (itemsW t) f e most).2 (pageN t f e most) = ((pageW (itemsW t) f e most).1, (pageW (itemsW t) f e most).2, 0) := by
  have hg := goesOn_page (rises_itemsW h) (items_key h) f e most hm
  obtain ⟨p1, p2, p3, p4⟩ := page_spec (rises_itemsW h) (items_key h) f e most hm
  unfold verifyP
  rw [if_neg (by simp [hg])]
  by_cases hn : t = .nil
  · subst hn
    have e0 : itemsW .nil = [] := rfl
    have e1 : pageW (itemsW .nil) f e most = ([], []) := by unfold pageW allIn; rw [e0]; simp
    rw [if_pos (show sumT .nil = [] from rfl), e1]
    have e2 : pageN .nil f e most = [] := rfl
    rw [e2]
    simp
  · rw [if_neg (fun he => hn (sumT_empty.1 he))]
    have hw := gotW_whole h hn f (upToW (pageW (itemsW t) f e most).2 e) []
    rw [List.append_nil] at hw
    have hw' : gotW (sumT t) f (upToW (pageW (itemsW t) f e most).2 e) (pageN t f e most) = (true, (allIn (itemsW t) f (upToW (pageW (itemsW t) f e most).2 e), [])) := hw
    rw [hw', p3]
    simp
end Trie
end Go.Proofs.YtcjafcbekegmlaaGreatDoor

namespace Go.Proofs.YtcjafcbekegmlaaGreatDoor
set_option linter.unusedVariables false
namespace Trie
theorem nextB_short : ∀ (m : Nat) (k : List UInt8), k.length < m → nextB m k = some (k ++ [0])
  | 0, k, h => by omega
  | m + 1, [], h => rfl
  | m + 1, b :: r, h => by
    rw [List.length_cons] at h
    simp only [nextB]
    rw [nextB_short m r (by omega)]
    rfl
theorem nextB_full : ∀ (m : Nat) (k : List UInt8), k.length = m → ∀ n, n ≤ m → (∀ i, n ≤ i → i < m → k[i]? = some 255) →
    (n = 0 → nextB m k = none) ∧ (∀ b, 0 < n → k[n - 1]? = some b → b ≠ 255 → nextB m k = some (k.take (n - 1) ++ [b + 1]))
  | 0, k, h, n, hn, hi => ⟨fun _ => rfl, fun b h0 => by omega⟩
  | m + 1, [], h, n, hn, hi => by cases h
  | m + 1, c :: r, h, n, hn, hi => by
    rw [List.length_cons] at h
    cases n with
    | zero =>
      refine ⟨fun _ => ?_, fun b h0 => by omega⟩
      have ih := (nextB_full m r (by omega) 0 (by omega) (fun i h1 h2 => by
        have := hi (i + 1) (by omega) (by omega)
        simpa using this)).1 rfl
      have h0 := hi 0 (by omega) (by omega)
      simp only [List.getElem?_cons_zero, Option.some.injEq] at h0
      simp only [nextB]
      rw [ih, h0]
      rfl
    | succ n =>
      refine ⟨fun e => by omega, fun b _ hb hne => ?_⟩
      have ih := nextB_full m r (by omega) n (by omega) (fun i h1 h2 => by
        have := hi (i + 1) (by omega) (by omega)
        simpa using this)
      simp only [nextB]
      cases n with
      | zero =>
        rw [ih.1 rfl]
        simp at hb
        subst hb
        simp [hne]
      | succ n =>
        simp only [Nat.add_sub_cancel, List.getElem?_cons_succ] at hb
        have := ih.2 b (by omega) (by simpa using hb) hne
        rw [this]
        simp
theorem behind_long {k : List UInt8} (h : 8 < k.length) : behindW k = [] := by unfold behindW; rw [if_pos h]
theorem behind_short {k : List UInt8} (h : k.length < 8) : behindW k = k ++ [0] := by
  unfold behindW; rw [if_neg (by omega), nextB_short 8 k h]; rfl
theorem behind_zero {k : List UInt8} (h : k.length = 8) (hi : ∀ i, i < 8 → k[i]? = some 255) : behindW k = [] := by
  unfold behindW; rw [if_neg (by omega), (nextB_full 8 k h 0 (by omega) (fun i _ h2 => hi i h2)).1 rfl]; rfl
theorem behind_at {k : List UInt8} (h : k.length = 8) {n : Nat} (hn : n ≤ 8) (h0 : 0 < n) (hi : ∀ i, n ≤ i → i < 8 → k[i]? = some 255) {b : UInt8} (hb : k[n - 1]? = some b) (hne : b ≠ 255) : behindW k = k.take (n - 1) ++ [b + 1] := by
  unfold behindW; rw [if_neg (by omega), (nextB_full 8 k h n hn hi).2 b h0 hb hne]; rfl
theorem behind_le (k : List UInt8) : (behindW k).length ≤ 8 := by
  by_cases h8 : 8 < k.length
  · rw [behind_long h8]; simp
  by_cases h7 : k.length < 8
  · rw [behind_short h7]; simp; omega
  have key : ∀ (m : Nat) (k s : List UInt8), nextB m k = some s → s.length ≤ m := by
    intro m
    induction m with
    | zero => intro k s h; cases h
    | succ m ih =>
      intro k s h
      cases k with
      | nil => simp [nextB] at h; subst h; simp
      | cons b r =>
        simp only [nextB] at h
        split at h
        · rename_i s' hs; injection h with h; subst h; have := ih _ _ hs; simp; omega
        · split at h
          · cases h
          · injection h with h; subst h; simp
  unfold behindW
  rw [if_neg h8]
  cases hn : nextB 8 k with
  | none => simp
  | some s => exact key _ _ _ hn
end Trie
end Go.Proofs.YtcjafcbekegmlaaGreatDoor

namespace Go.Proofs.YtcjafcbekegmlaaGreatDoor
set_option linter.unusedVariables false
open Go.RowKit Go.Instr
attribute [local go_sem] ba_get ByteArray.mk_append_mk
set_option maxHeartbeats 1000000 in
theorem ref11_Behind (w : World) (key : List UInt8) :
    Calls Tryz.prog 57 #[.string ⟨key.toArray⟩] w (Ret w (.string ⟨(Trie.behindW key).toArray⟩)) := by
  have HP : Hid (∀ s w', Trie.behindW key = s → Below w.heap.size w w' → Ret w (.string ⟨(Trie.behindW key).toArray⟩) (Ending.returned (.string ⟨s.toArray⟩)) w') := Lib.hid (fun s W' a1 a2 => ⟨by rw [a1], a2⟩)
  by_cases h8 : 8 < key.length
  · have HB := Lib.hid (Trie.behind_long h8)
    generalize Ret w (.string ⟨(Trie.behindW key).toArray⟩) = P at HP ⊢
    have hI : (8 : Int) < key.length := by omega
    clear h8
    go_enter Tryz.func57, Tryz.ntmps57
    go_wp2_with fail
    exact HP.out [] _ HB.out (Below.refl _ _)
  have hI : ((8 : Int) < key.length) = False := by simp; omega
  by_cases h7 : key.length < 8
  · have HB := Lib.hid (Trie.behind_short h7)
    generalize Ret w (.string ⟨(Trie.behindW key).toArray⟩) = P at HP ⊢
    have hJ : (key.length : Int) < 8 := by omega
    have hsum : key.length + 1 ≤ 9223372036854775807 := by omega
    clear h8 h7
    go_enter Tryz.func57, Tryz.ntmps57
    go_wp2_with fail
    exact HP.out _ _ HB.out (Below.refl _ _)
  have h8' : key.length = 8 := by omega
  have HZ : Hid (∀ n, n ≤ 8 → (∀ i, n ≤ i → i < 8 → key[i]? = some 255) → (n = 0 → Trie.behindW key = []) ∧ (∀ m, n = m + 1 → key.getD m 0 ≠ 255 → Trie.behindW key = key.take m ++ [key.getD m 0 + 1])) := Lib.hid (fun n hn hi => ⟨fun e => by subst e; exact Trie.behind_zero h8' (fun i h => hi i (Nat.zero_le _) h), fun m e hne => by
    subst e
    have hm : m < key.length := by omega
    have e1 : key.getD m 0 = key[m] := by rw [List.getD_eq_getElem?_getD, List.getElem?_eq_getElem hm]; rfl
    rw [e1] at hne ⊢
    exact Trie.behind_at h8' hn (Nat.succ_pos _) hi (by rw [Nat.add_sub_cancel, List.getElem?_eq_getElem hm]) hne⟩)
  generalize Ret w (.string ⟨(Trie.behindW key).toArray⟩) = P at HP ⊢
  have hL : (key.length : Int) = 8 := by omega
  have H8 := Lib.hid h8'
  clear h8 h7 h8' hI
  go_enter Tryz.func57, Tryz.ntmps57
  go_wp2_with fail
  refine wp_loop_ghost_k (fun k a wr => ∀ Φ : Act → Prop, (∀ (s1 s2 s4 s5 s6 s7 s8 s9 s10 s11 s12 s13 s14 s15 s16 s17 s18 s19 s20 s21 s22 s23 s24 s25 s26 s27 s28 s29 s30 s31 s32 : Value) (n : Nat) (j : Int), (j = (n : Int) - 1 ∧ n ≤ 8 ∧ k = n ∧ (∀ i, n ≤ i → i < 8 → key[i]? = some 255) ∧ Below w.heap.size w wr) → Φ { tmps := #[.string ⟨key.toArray⟩, s1, s2, .int .i64 j, s4, s5, s6, s7, s8, s9, s10, s11, s12, s13, s14, s15, s16, s17, s18, s19, s20, s21, s22, s23, s24, s25, s26, s27, s28, s29, s30, s31, s32], defers := [] }) → Φ a) (8) ?_ ?_
  · refine fun Φ hΦ => hΦ _ _ _ _ _ _ _ _ _ _ _ _ _ _ _ _ _ _ _ _ _ _ _ _ _ _ _ _ _ _ _ (8) (7) ?_
    exact ⟨rfl, Nat.le_refl _, rfl, fun i h1 h2 => absurd h2 (by omega), Below.refl _ _⟩
  · intro k1 a1 wr1 hI1 J1 K1 hJ1 hK1
    refine hI1 (fun a => Code.wp _ _ _ a _) ?_
    clear hI1 a1
    intro s0 s1 s2 s3 s4 s5 s6 s7 s8 s9 s10 s11 s12 s13 s14 s15 s16 s17 s18 s19 s20 s21 s22 s23 s24 s25 s26 s27 s28 s29 s30 n j hrel
    show Code.wp _ _ _ _ _
    obtain ⟨hj, h1, h2, h3, hb⟩ := hrel
    have HH := Lib.hid h3
    have HBl := Lib.hid hb
    clear h3 hb
    cases n with
    | zero =>
      have HB := Lib.hid ((HZ.out 0 (by omega) HH.out).1 rfl)
      clear h1 h2 HZ
      obtain rfl : j = -1 := by omega
      clear hj
      go_wp2_with fail
      exact HP.out [] _ HB.out HBl.out
    | succ m =>
      have hm : m < key.length := by have := H8.out; omega
      obtain rfl : j = (m : Int) := by omega
      clear hj
      have hm8 : (m : Int) < 8 := by omega
      have hm0 : (0 : Int) ≤ m := by omega
      have HX := fun W => run_byte key m hm W
      have HN := Lib.hid ((HZ.out (m + 1) h1 HH.out).2 m rfl)
      have HU : Hid (key.getD m 0 = 255 → ∀ i, m ≤ i → i < 8 → key[i]? = some 255) := Lib.hid (fun e i g1 g2 => by
        by_cases hi : i = m
        · subst hi
          rw [List.getElem?_eq_getElem hm]
          rw [List.getD_eq_getElem?_getD, List.getElem?_eq_getElem hm] at e
          exact congrArg some e
        · exact HH.out i (by omega) g2)
      have HT := fun W => run_take key m (by omega) W
      have HM := Lib.hid (And.intro h1 (And.intro h2 hm))
      clear HZ h1 h2 HH
      generalize key.getD m 0 = b at *
      by_cases hb : b = 255
      · have hbI : ((b.toNat : Int) < 255) = False := by subst hb; simp
        have HU2 := Lib.hid (HU.out hb)
        clear hb HU HN HT
        go_wp2_with fail
        refine Handed.intro (m) ?_ (hJ1 _ _ _ (fun Φ hΦ => hΦ _ _ _ _ _ _ _ _ _ _ _ _ _ _ _ _ _ _ _ _ _ _ _ _ _ _ _ _ _ _ _ (m) ((m : Int) - 1) ?_))
        · have := HM.out.2.1; omega
        · exact ⟨rfl, by have := HM.out.1; omega, rfl, HU2.out, HBl.out⟩
      · have hn255 : b.toNat ≠ 255 := fun e => hb (UInt8.toNat_inj.1 e)
        have hlt := b.toNat_lt
        have hbI : (b.toNat : Int) < 255 := by omega
        have HB := Lib.hid (HN.out hb)
        have hbw : IntKind.u8.wrap ((b.toNat : Int) + 1) = (b.toNat : Int) + 1 := IntWalk.u8_in _ (by omega)
        have hcv : UInt8.ofNat ((b.toNat : Int) + 1).toNat = b + 1 := by
          apply UInt8.toNat_inj.1
          rw [UInt8.toNat_add]
          simp
        have hq0 : (0 : Int) ≤ (b.toNat : Int) + 1 := by omega
        have hq1 : (b.toNat : Int) + 1 < 256 := by omega
        have hc1 := fun W => conv1 W ((b.toNat : Int) + 1) hq0 hq1
        have hc2 := fun W => conv1d W ((b.toNat : Int) + 1) hq0 hq1
        rw [hcv] at hc1 hc2
        have hjs : (key.take m).length + 1 ≤ 9223372036854775807 := by rw [List.length_take]; omega
        clear hb HU HN hn255 hcv hlt hq0 hq1
        generalize key.take m = pre at *
        go_wp2_with fail
        go_region
        all_goals go_wp2
        all_goals exact HP.out _ _ HB.out (HBl.out.nxt (by go_grown))
end Go.Proofs.YtcjafcbekegmlaaGreatDoor

namespace Go.Proofs.YtcjafcbekegmlaaGreatDoor
set_option linter.unusedVariables false
open Go.RowKit Go.Instr
attribute [local go_sem] ba_get ByteArray.mk_append_mk
theorem allIn_snoc11 (l : List Trie.KV) (x : Trie.KV) (f e : List UInt8) : Trie.allIn (l ++ [x]) f e = if Trie.inK f e x.1 = true then Trie.allIn l f e ++ [x] else Trie.allIn l f e := by
  unfold Trie.allIn
  rw [List.filter_append]
  cases h : Trie.inK f e x.1 <;> simp [h]
set_option maxHeartbeats 1000000 in
theorem ref11_In (w : World) (key f e : List UInt8) :
    Calls Tryz.prog 96 #[.string ⟨key.toArray⟩, .string ⟨f.toArray⟩, .string ⟨e.toArray⟩] w (Ret w (.bool (Trie.inK f e key))) := by
  have HP : Hid (∀ b, Trie.inK f e key = b → Ret w (.bool (Trie.inK f e key)) (.returned (.bool b)) w) := Lib.hid (fun b h => ⟨by rw [h], Below.refl _ _⟩)
  generalize Ret w (.bool (Trie.inK f e key)) = P at HP ⊢
  cases k4 : Op.bytesLess key f with
  | true =>
    have HB : Hid (Trie.inK f e key = false) := Lib.hid (by simp [Trie.inK, k4])
    go_enter Tryz.func96, Tryz.ntmps96
    go_wp2_with fail
    exact HP.out _ HB.out
  | false =>
    by_cases k5 : e = []
    · subst k5
      have HB : Hid (Trie.inK f [] key = true) := Lib.hid (by simp [Trie.inK, k4])
      go_enter Tryz.func96, Tryz.ntmps96
      go_wp2_with fail
      exact HP.out _ HB.out
    · have ne1 : (e.toArray = #[]) = False := by simp [k5]
      have ne2 : e.isEmpty = false := by simp [k5]
      cases k6 : Op.bytesLess key e with
      | true =>
        have HB : Hid (Trie.inK f e key = true) := Lib.hid (by simp [Trie.inK, k4, k6])
        clear k5
        go_enter Tryz.func96, Tryz.ntmps96
        go_wp2_with fail
        exact HP.out _ HB.out
      | false =>
        have HB : Hid (Trie.inK f e key = false) := Lib.hid (by simp [Trie.inK, k4, k6, k5])
        clear k5
        go_enter Tryz.func96, Tryz.ntmps96
        go_wp2_with fail
        exact HP.out _ HB.out
set_option maxRecDepth 100000 in
set_option maxHeartbeats 4000000 in
theorem ref11_All (w : World) (L : List Trie.KV) (A : Option Addr) (c : Nat) (HR : Reads w w.heap.size 2 A L.length (icells L)) (hLc : L.length ≤ 20000) (f e : List UInt8) :
    Calls Tryz.prog 86 #[.slice A L.length c, .string ⟨f.toArray⟩, .string ⟨e.toArray⟩] w (ItemsEnd w (Trie.allIn L f e)) := by
  have HP : Hid (∀ A n c w', n = (Trie.allIn L f e).length → w'.ownsRow w.heap.size 76 2 (.slice A n c) n (icells (Trie.allIn L f e)) → Below w.heap.size w w' → ItemsEnd w (Trie.allIn L f e) (.returned (.slice A n c)) w') := Lib.hid (fun A n c w' h1 h2 h3 => ⟨A, n, c, rfl, h1, h2, h3⟩)
  generalize ItemsEnd w (Trie.allIn L f e) = P at HP ⊢
  have HRd := Lib.hid HR
  have HLc := Lib.hid hLc
  have HIn := Lib.hid (fun W key => ref11_In W key f e)
  clear HR
  go_enter Tryz.func86, Tryz.ntmps86
  go_wp2_with fail
  refine wp_loop_ghost_k (fun k a wr => ∀ Φ : Act → Prop, (∀ (s3 s4 s5 s6 s9 s10 s11 s12 s13 s14 s15 s16 s17 s18 s19 s20 s21 s22 s23 s24 s25 s26 s27 s28 s29 s30 : Value) (i n c2 : Nat) (O : Option Addr), (i + k = L.length ∧ n = (Trie.allIn (L.take i) f e).length ∧ wr.ownsRow w.heap.size 76 2 (.slice O n c2) n (icells (Trie.allIn (L.take i) f e)) ∧ Below w.heap.size w wr) → Φ { tmps := #[.slice A L.length c, .string ⟨f.toArray⟩, .string ⟨e.toArray⟩, s3, s4, s5, s6, .slice O n c2, .int .i64 (i : Int), s9, s10, s11, s12, s13, s14, s15, s16, s17, s18, s19, s20, s21, s22, s23, s24, s25, s26, s27, s28, s29, s30], defers := [] }) → Φ a) (L.length) ?_ ?_
  · refine fun Φ hΦ => hΦ _ _ _ _ _ _ _ _ _ _ _ _ _ _ _ _ _ _ _ _ _ _ _ _ _ _ (0) (0) (0) (none) ?_
    exact ⟨by omega, rfl, World.ownsRow_nil _ _ _ _, Below.refl _ _⟩
  · intro k1 a1 wr1 hI1 J1 K1 hJ1 hK1
    refine hI1 (fun a => Code.wp _ _ _ a _) ?_
    clear hI1 a1
    intro s0 s1 s2 s3 s4 s5 s6 s7 s8 s9 s10 s11 s12 s13 s14 s15 s16 s17 s18 s19 s20 s21 s22 s23 s24 s25 i n c2 O hrel
    show Code.wp _ _ _ _ _
    obtain ⟨h1, h2, h3, h4⟩ := hrel
    have HI := Lib.hid (And.intro h1 (And.intro h2 (And.intro h3 h4)))
    clear h1 h2 h3 h4
    by_cases hi : i < L.length
    · obtain ⟨ad, off, rfl, hbl, hcell⟩ := item_cells HRd.out hi
      obtain ⟨q0, q1⟩ := hcell _ HI.out.2.2.2
      have hi1 : (i : Int) < L.length := by omega
      have hi0 : (0 : Int) ≤ i := by omega
      have hn1 : n ≤ 20000 := by
        have a := HI.out.2.1
        have b : (Trie.allIn (L.take i) f e).length ≤ (L.take i).length := List.length_filter_le _ _
        rw [List.length_take] at b
        omega
      have HSn : Hid (Trie.allIn (L.take (i + 1)) f e = if Trie.inK f e L[i].1 = true then Trie.allIn (L.take i) f e ++ [L[i]] else Trie.allIn (L.take i) f e) := Lib.hid (by
        rw [List.take_succ_eq_append_getElem hi, allIn_snoc11])
      have HQ := Lib.hid hcell
      clear hcell hbl
      generalize L[i] = x at *
      obtain ⟨ky, vl⟩ := x
      simp only at q0 q1 HSn HQ
      go_wp2_with fail
      refine (HIn.out _ ky).mono ?_
      rintro q w1 ⟨rfl, hb⟩
      have HB1 := Lib.hid (HI.out.2.2.2.nxt hb)
      have HO := Lib.hid (own_below HI.out.2.2.1 hb)
      obtain ⟨q0, q1⟩ := HQ.out _ HB1.out
      clear hb HQ
      cases hin : Trie.inK f e ky with
      | true =>
        rw [hin, if_pos rfl] at HSn
        clear hin
        go_wp2_with (at_builtin; refine wpList_append_new w1 76 [.string ⟨ky.toArray⟩, .string ⟨vl.toArray⟩] rfl _ _ 39 rfl w.heap.size 2 32 _ info_item Tryz.underlying39 rfl (by decide) (.slice O n c2) n _ rfl HO.out 1 1 rfl rfl (by simp [Value.oneCell']) (by simp only [maxLen]; omega) (by omega) w.heap.size w HB1.out (Nat.le_refl _) HB1.out.size ?_; intro v2 w2 hown2 hb2 _ _ _; obtain ⟨A2, cc2, rfl, _, _, _⟩ := own_form hown2; have O2 := Lib.hid (And.intro hown2 hb2); clear hown2 hb2)
        refine Handed.intro (L.length - (i + 1)) ?_ (hJ1 _ _ _ (fun Φ hΦ => hΦ _ _ _ _ _ _ _ _ _ _ _ _ _ _ _ _ _ _ _ _ _ _ _ _ _ _ (i + 1) (n + 1) (cc2) (A2) ?_))
        · have := HI.out.1; omega
        · exact ⟨by have := HI.out.1; omega, by rw [HSn.out, List.length_append, ← HI.out.2.1]; rfl, by rw [HSn.out, icells_snoc]; exact O2.out.1, O2.out.2⟩
      | false =>
        rw [hin, if_neg (by simp)] at HSn
        clear hin
        go_wp2_with fail
        refine Handed.intro (L.length - (i + 1)) ?_ (hJ1 _ _ _ (fun Φ hΦ => hΦ _ _ _ _ _ _ _ _ _ _ _ _ _ _ _ _ _ _ _ _ _ _ _ _ _ _ (i + 1) (n) (c2) (O) ?_))
        · have := HI.out.1; omega
        · exact ⟨by have := HI.out.1; omega, by rw [HSn.out]; exact HI.out.2.1, by rw [HSn.out]; exact HO.out, HB1.out⟩
    · have hi1 : ((i : Int) < L.length) = False := by simp; omega
      have HF : Hid (Trie.allIn L f e = Trie.allIn (L.take i) f e) := Lib.hid (by rw [List.take_of_length_le (by omega)])
      go_wp2_with fail
      exact HP.out _ _ _ _ (by rw [HF.out]; exact HI.out.2.1) (by rw [HF.out]; exact HI.out.2.2.1) HI.out.2.2.2
end Go.Proofs.YtcjafcbekegmlaaGreatDoor
