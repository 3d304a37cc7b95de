import Derived.Test.YtaplecncnkkigaaDoorK27
import Derived.Deep.Slices
import Derived.Deep.Fields
import Derived.ChangeSame
/- Plain laws: the texts of a trie's nodes tell the trie. No program in sight. -/
namespace Go.Proofs.YtaplecncnkkigaaDoor
set_option linter.unusedVariables false
theorem numW_small {n : Nat} (h : n < 256) : numW n = if n = 0 then [0] else [1, UInt8.ofNat n] := by
  split
  · subst_vars; rw [numW, beB_zero]; rfl
  · rw [numW, beB_pos (by omega), show n / 256 = 0 by omega, beB_zero]; rfl
theorem numW_pre {n m : Nat} {r r' : List UInt8} (hn : n < 256) (hm : m < 256) (h : numW n ++ r = numW m ++ r') : n = m ∧ r = r' := by
  rw [numW_small hn, numW_small hm] at h
  by_cases h1 : n = 0 <;> by_cases h2 : m = 0
  · subst h1 h2; simpa using h
  · rw [if_pos h1, if_neg h2] at h
    simp at h
  · rw [if_neg h1, if_pos h2] at h
    simp at h
  · rw [if_neg h1, if_neg h2] at h
    simp at h
    refine ⟨?_, h.2⟩
    have := congrArg UInt8.toNat h.1
    simp at this
    omega
theorem textW_pre {s s' r r' : List UInt8} (hn : s.length < 256) (hm : s'.length < 256) (h : textW s ++ r = textW s' ++ r') : s = s' ∧ r = r' := by
  simp only [textW, List.append_assoc] at h
  obtain ⟨e, h2⟩ := numW_pre hn hm h
  exact List.append_inj h2 e
theorem bitsTo_inj (K L : List (List UInt8)) : ∀ i, i ≤ 16 → bitsTo K i = bitsTo L i → ∀ j, j < i → (K.getD j []).isEmpty = (L.getD j []).isEmpty
  | 0, _, _, j, hj => by omega
  | i + 1, hi, h, j, hj => by
    obtain ⟨k1, _⟩ := bitsTo_mod K i (by omega)
    obtain ⟨l1, _⟩ := bitsTo_mod L i (by omega)
    have hp : (2 : Nat) ^ (16 - i) = 2 * 2 ^ (15 - i) := by rw [show 16 - i = 15 - i + 1 by omega, Nat.pow_succ]; omega
    have hpos : 0 < (2 : Nat) ^ (15 - i) := Nat.pow_pos (by omega)
    rw [hp] at k1 l1
    simp only [bitsTo] at h
    generalize (2 : Nat) ^ (15 - i) = p at *
    have hk := Nat.mod_add_div (bitsTo K i) (2 * p)
    have hl := Nat.mod_add_div (bitsTo L i) (2 * p)
    have key : bitsTo K i = bitsTo L i ∧ (K.getD i []).isEmpty = (L.getD i []).isEmpty := by
      cases h1 : (K.getD i []).isEmpty <;> cases h2 : (L.getD i []).isEmpty <;> simp only [h1, h2, if_true, Bool.false_eq_true, if_false] at h
      · exact ⟨by omega, rfl⟩
      · have e : (bitsTo K i + p) % (2 * p) = (bitsTo L i) % (2 * p) := by rw [h, Nat.add_zero]
        rw [Nat.add_mod, k1, l1, Nat.zero_add, Nat.mod_mod, Nat.mod_eq_of_lt (by omega)] at e
        omega
      · have e : (bitsTo K i) % (2 * p) = (bitsTo L i + p) % (2 * p) := by rw [← h, Nat.add_zero]
        rw [Nat.add_mod (bitsTo L i), k1, l1, Nat.zero_add, Nat.mod_mod, Nat.mod_eq_of_lt (by omega)] at e
        omega
      · exact ⟨by omega, rfl⟩
    by_cases hji : j = i
    · subst hji; exact key.2
    · exact bitsTo_inj K L i (by omega) key.1 j (by omega)
theorem two_bytes {a b : Nat} (ha : a < 65536) (hb : b < 65536) (h1 : UInt8.ofNat (a / 256) = UInt8.ofNat (b / 256)) (h2 : UInt8.ofNat a = UInt8.ofNat b) : a = b := by
  have e1 := congrArg UInt8.toNat h1
  have e2 := congrArg UInt8.toNat h2
  simp at e1 e2
  omega
namespace Trie
theorem flat32 {l : List (List UInt8)} (h : sumsOk l = true) : l.flatten.length = 32 * l.length := by
  induction l with
  | nil => rfl
  | cons a l ih =>
    simp only [sumsOk, List.all_cons, Bool.and_eq_true, decide_eq_true_eq] at h
    rw [List.flatten_cons, List.length_append, List.length_cons, h.1, ih h.2]; omega
theorem sums_at (t : T) (i : Fin 16) : ((sumsT t).getD i.val []).isEmpty = isNil (kidsT t i) := by
  rw [← sumT_nil_iff]
  congr 1
  rw [List.getD_eq_getElem?_getD, List.getElem?_eq_getElem (by rw [sumsT_length]; exact i.isLt), Option.getD_some]
  simp only [sumsT, List.getElem_ofFn]
theorem text_head {a b : T} (ha : ∃ p, At p a) (hb : ∃ p, At p b) (na : a ≠ .nil) (nb : b ≠ .nil) (h : textT a = textT b) :
    kindT a = kindT b ∧ pathT a = pathT b ∧ valT a = valT b ∧ (kindT a = 3 → ∀ i, isNil (kidsT a i) = isNil (kidsT b i)) := by
  obtain ⟨pa, ha⟩ := ha
  obtain ⟨pb, hb⟩ := hb
  obtain ⟨ka, fa, la, va, _⟩ := fineN_parts (fineT na ha.wf ha.small)
  obtain ⟨kb, fb, lb, vb, _⟩ := fineN_parts (fineT nb hb.wf hb.small)
  have hk : kindT a = kindT b := by
    have h0 := congrArg (fun l : List UInt8 => l.headD 0) h
    simp only [textT, nodeText] at h0
    rcases ka with e | e | e <;> rcases kb with e' | e' | e' <;> rw [e, e'] at h0 ⊢ <;> simp at h0
  refine ⟨hk, ?_⟩
  simp only [textT, nodeText] at h
  rw [← hk] at h
  have hpk : ∀ (p : List UInt8) (l : Bool), p.length ≤ 16 → (Nib.packed p l).length < 256 := fun p l hp => by rw [Nib.packed_length]; omega
  rcases ka with e | e | e
  · rw [e] at h ⊢
    simp only [show ¬ (1 = 3) by decide, if_false, if_true, decide_true, List.cons.injEq, true_and] at h
    obtain ⟨h1, h2⟩ := textW_pre (hpk _ _ la) (hpk _ _ lb) h
    have h3 := textW_pre (s := valT a) (s' := valT b) (r := []) (r' := []) (by omega) (by omega) (by simpa using h2)
    have h4 := congrArg (fun s => (Nib.unpack s).1) h1
    simp only [Nib.unpack_packed _ _ fa, Nib.unpack_packed _ _ fb] at h4
    exact ⟨h4, h3.1, fun h => absurd h (by decide)⟩
  · rw [e] at h ⊢
    simp only [show ¬ (2 = 3) by decide, show ¬ (2 = 1) by decide, if_false, decide_false, List.cons.injEq, true_and] at h
    obtain ⟨h1, h2⟩ := textW_pre (hpk _ _ la) (hpk _ _ lb) h
    have h4 := congrArg (fun s => (Nib.unpack s).1) h1
    simp only [Nib.unpack_packed _ _ fa, Nib.unpack_packed _ _ fb] at h4
    refine ⟨h4, ?_, fun h => absurd h (by decide)⟩
    rw [e] at hk
    cases a <;> simp [kindT] at e
    cases b <;> simp [kindT] at hk
    rfl
  · rw [e] at h ⊢
    simp only [if_true, List.cons.injEq, true_and] at h
    obtain ⟨h1, h2, h3⟩ := h
    obtain ⟨_, l1⟩ := bitsTo_mod (sumsT a) 16 (by omega)
    obtain ⟨_, l2⟩ := bitsTo_mod (sumsT b) 16 (by omega)
    have hbits := two_bytes (by omega) (by omega) h1 h2
    have hnil : ∀ i, isNil (kidsT a i) = isNil (kidsT b i) := fun i => by
      have := bitsTo_inj _ _ 16 (by omega) hbits i.val i.isLt
      rwa [sums_at, sums_at] at this
    have hmany : many (kidsT a) = many (kidsT b) := by
      unfold many; congr 2; funext i; rw [hnil i]
    have hv := List.append_inj h3 (by rw [flat32 (kidsW_sums a), flat32 (kidsW_sums b), kidsW_length, kidsW_length, hmany])
    have h5 := textW_pre (s := valT a) (s' := valT b) (r := []) (r' := []) (by omega) (by omega) (by simpa using hv.2)
    rw [e] at hk
    refine ⟨?_, h5.1, fun _ => hnil⟩
    cases a <;> simp [kindT] at e
    cases b <;> simp [kindT] at hk
    rfl
theorem told_head {t : T} (h : t ≠ .nil) (pl : List UInt8) : ∃ D, textsD (goT allW t pl) = textT t :: D := by
  cases t with
  | nil => exact absurd rfl h
  | leaf p v => exact ⟨[], by simp [goT, allW, textsD]⟩
  | ext p t => exact ⟨_, by simp [goT, allW, textsD]; rfl⟩
  | branch v kids => exact ⟨_, by simp [goT, allW, textsD]; rfl⟩
theorem told_pre (a : T) : ∀ (b : T) (pl pl' : List UInt8) (r r' : List (List UInt8)), (∃ p, At p a) → (∃ p, At p b) → a ≠ .nil → b ≠ .nil →
    textsD (goT allW a pl) ++ r = textsD (goT allW b pl') ++ r' → a = b ∧ r = r' := by
  induction a with
  | nil => intro b pl pl' r r' _ _ h; exact absurd rfl h
  | leaf p v =>
    intro b pl pl' r r' ha hb na nb h
    obtain ⟨D, hD⟩ := told_head nb pl'
    have h0 := h
    rw [hD] at h0
    have hh : textT (.leaf p v) = textT b := by simp [goT, allW, textsD] at h0; exact h0.1
    obtain ⟨k1, k2, k3, k4⟩ := text_head ha hb na nb hh
    clear k4
    cases b <;> simp [kindT] at k1
    simp only [pathT, valT] at k2 k3
    subst k2 k3
    exact ⟨rfl, by simpa [goT, allW, textsD] using h⟩
  | ext p t ih =>
    intro b pl pl' r r' ha hb na nb h
    obtain ⟨D, hD⟩ := told_head nb pl'
    have h0 := h
    rw [hD] at h0
    have hh : textT (.ext p t) = textT b := by simp [goT, allW, textsD] at h0; exact h0.1
    obtain ⟨k1, k2, k3, k4⟩ := text_head ha hb na nb hh
    clear k4
    cases b <;> simp [kindT] at k1
    rename_i p' t'
    simp only [pathT] at k2
    subst k2
    obtain ⟨pa, ha⟩ := ha
    obtain ⟨pb, hb⟩ := hb
    have n1 : t ≠ .nil := fun e => by have := ha.wf.2.2.1; rw [e] at this; cases this
    have n2 : t' ≠ .nil := fun e => by have := hb.wf.2.2.1; rw [e] at this; cases this
    have h1 : textsD (goT allW t (pl ++ p)) ++ r = textsD (goT allW t' (pl' ++ p)) ++ r' := by
      simp only [goT, allW, textsD, if_true, List.map_cons, List.cons_append, List.cons.injEq] at h
      exact h.2
    obtain ⟨e, er⟩ := ih t' _ _ _ _ ⟨_, ha.below⟩ ⟨_, hb.below⟩ n1 n2 h1
    subst e
    exact ⟨rfl, er⟩
  | branch v kids ih =>
    intro b pl pl' r r' ha hb na nb h
    obtain ⟨D, hD⟩ := told_head nb pl'
    have h0 := h
    rw [hD] at h0
    have hh : textT (.branch v kids) = textT b := by simp [goT, allW, textsD] at h0; exact h0.1
    obtain ⟨k1, k2, k3, k4⟩ := text_head ha hb na nb hh
    cases b <;> simp [kindT] at k1
    rename_i v' kids'
    simp only [valT] at k3
    subst k3
    have k5 : ∀ i, isNil (kids i) = isNil (kids' i) := k4 rfl
    obtain ⟨pa, ha⟩ := ha
    obtain ⟨pb, hb⟩ := hb
    have h1 : textsD ((List.finRange 16).flatMap fun i => goT allW (kids i) (pl ++ [Trie.hb i])) ++ r = textsD ((List.finRange 16).flatMap fun i => goT allW (kids' i) (pl' ++ [Trie.hb i])) ++ r' := by
      simp only [goT, allW, textsD, if_true, List.map_cons, List.cons_append, List.cons.injEq] at h
      exact h.2
    have all : ∀ (l : List (Fin 16)) (r r' : List (List UInt8)), textsD (l.flatMap fun i => goT allW (kids i) (pl ++ [Trie.hb i])) ++ r = textsD (l.flatMap fun i => goT allW (kids' i) (pl' ++ [Trie.hb i])) ++ r' → (∀ i ∈ l, kids i = kids' i) ∧ r = r' := by
      intro l
      induction l with
      | nil => intro r r' h; exact ⟨by simp, by simpa [textsD] using h⟩
      | cons i l ihl =>
        intro r r' h
        have sp : ∀ (x y : List (List UInt8 × T)), textsD (x ++ y) = textsD x ++ textsD y := fun x y => by simp [textsD]
        rw [List.flatMap_cons, List.flatMap_cons, sp, sp, List.append_assoc, List.append_assoc] at h
        by_cases hn : kids i = .nil
        · have hn' : kids' i = .nil := isNil_iff.1 (by rw [← k5 i, hn]; rfl)
          rw [hn, hn'] at h
          obtain ⟨e1, e2⟩ := ihl _ _ (by simpa [goT, textsD] using h)
          exact ⟨fun j hj => by rcases List.mem_cons.1 hj with rfl | hj; exact hn.trans hn'.symm; exact e1 j hj, e2⟩
        · have hn' : kids' i ≠ .nil := fun e => hn (isNil_iff.1 (by rw [k5 i, e]; rfl))
          obtain ⟨e0, h2⟩ := ih i _ _ _ _ _ ⟨_, ha.kid i⟩ ⟨_, hb.kid i⟩ hn hn' h
          obtain ⟨e1, e2⟩ := ihl _ _ h2
          exact ⟨fun j hj => by rcases List.mem_cons.1 hj with rfl | hj; exact e0; exact e1 j hj, e2⟩
    obtain ⟨e1, e2⟩ := all _ _ _ h1
    have : kids = kids' := funext fun i => e1 i (List.mem_finRange i)
    subst this
    exact ⟨rfl, e2⟩
theorem told_inj {a b : T} (ha : Good a) (hb : Good b) (h : toldW allW a = toldW allW b) : a = b := by
  by_cases na : a = .nil
  · by_cases nb : b = .nil
    · rw [na, nb]
    · obtain ⟨D, hD⟩ := told_head nb []
      rw [toldW, toldW, hD, na] at h
      simp [goT, textsD] at h
  · by_cases nb : b = .nil
    · obtain ⟨D, hD⟩ := told_head na []
      rw [toldW, toldW, hD, nb] at h
      simp [goT, textsD] at h
    · exact (told_pre a b [] [] [] [] ⟨[], At.top ha⟩ ⟨[], At.top hb⟩ na nb (by simpa [toldW] using h)).1
end Trie
end Go.Proofs.YtaplecncnkkigaaDoor

/- Layer 10's laws: TrieOne. No conditions. -/
namespace Go.Proofs.YtaplecncnkkigaaDoor
set_option linter.unusedVariables false
open Go.RowKit Go.Instr
attribute [local go_sem] ba_get ByteArray.mk_append_mk
attribute [local go_sem ↓] Go.wp_at_zero Go.wp_at_succ

namespace Trie
theorem fold_count : ∀ (L : List Act10) (t : T), Good t → count (L.foldl actW t) ≤ count t + L.length ∧ Good (L.foldl actW t)
  | [], t, h => ⟨by simp, h⟩
  | a :: L, t, h => by
    obtain ⟨h1, h2⟩ := fold_count L (actW t a) (h.act a)
    have := count_act h a
    rw [List.foldl_cons, List.length_cons]
    exact ⟨by omega, h2⟩
theorem made_count (L : List Act10) : count (madeW L) ≤ 30 ∧ Good (madeW L) := by
  obtain ⟨h1, h2⟩ := fold_count (L.take 30) .nil Good.nil
  simp only [count, List.length_take] at h1
  exact ⟨by simp only [madeW]; omega, h2⟩
theorem itemsW_length (t : T) : (itemsW t).length = count t := by rw [itemsW, List.length_map, length_items]
theorem count_zero {t : T} (h : Good t) (hn : t ≠ .nil) : count t ≠ 0 := by
  obtain ⟨q, hq, hl⟩ := look_some t h.wf (by cases hi : isNil t with | false => rfl | true => exact absurd (isNil_iff.1 hi) hn)
  have := mem_at h hq hl
  rw [← itemsW_length]
  exact Nat.pos_iff_ne_zero.1 (List.length_pos_of_mem this)
theorem item_len {t : T} (h : Good t) : ∀ x ∈ itemsW t, x.1.length ≤ 9223372036854775000 ∧ x.2.length ≤ 9223372036854775000 := fun x hx => by
  obtain ⟨c1, c2, c3⟩ := putCode_zero (item_code h hx)
  have := keyed_len c1
  omega
theorem told_len {t : T} (h : Good t) (hc : count t ≤ 30) : (toldW allW t).length ≤ 100000 := by
  rw [toldW, textsD, List.length_map]
  exact goT_short h.wf (by omega) _ _
end Trie

set_option maxRecDepth 100000 in
set_option maxHeartbeats 1000000 in
theorem law_TrieOne (w : World) (A0 A1 : Option Addr) (c0 c1 : Nat) (L0 L1 : List Act10) (HR0 : Reads w w.heap.size 3 A0 L0.length (acts L0)) (HR1 : Reads w w.heap.size 3 A1 L1.length (acts L1)) (hT : Tbl w) :
    Calls Tryd.prog 6 #[.slice A0 L0.length c0, .slice A1 L1.length c1] w fun e w' => e = .returned (.bool true) ∧ Below w.heap.size w w' := by
  have HP : Hid (∀ w', Below w.heap.size w w' → (fun e w' => e = Ending.returned (.bool true) ∧ Below w.heap.size w w') (Ending.returned (.bool true)) w') := Lib.hid (fun W' a2 => ⟨rfl, a2⟩)
  generalize (fun e w' => e = Ending.returned (.bool true) ∧ Below w.heap.size w w') = P at HP ⊢
  have HTb := Lib.hid hT
  have HA := Lib.hid HR0
  have HB := Lib.hid HR1
  clear hT HR0 HR1
  have HL0 : Hid (∀ W, Below w.heap.size w W → Calls Tryd.prog 29 #[.slice A0 L0.length c0, .int .i64 30] W fun e w' => e = .returned (.bool (longW L0 30)) ∧ Below W.heap.size W w') := Lib.hid (fun W hW => law10_long W A0 c0 L0 30 ((HA.out.below hW).more hW.size) (by omega))
  have HL1 : Hid (∀ W, Below w.heap.size w W → Calls Tryd.prog 29 #[.slice A1 L1.length c1, .int .i64 30] W fun e w' => e = .returned (.bool (longW L1 30)) ∧ Below W.heap.size W w') := Lib.hid (fun W hW => law10_long W A1 c1 L1 30 ((HB.out.below hW).more hW.size) (by omega))
  go_enter Tryd.func6, Tryd.ntmps6
  go_wp2_with fail
  refine (law10_works _ HTb.out).mono ?_
  rintro e w1 ⟨rfl, hb1⟩
  have HB1 := Lib.hid hb1
  clear hb1
  go_wp2_with fail
  refine (HL0.out _ HB1.out).mono ?_
  rintro e w2 ⟨rfl, hb2⟩
  have HB2 := Lib.hid (HB1.out.nxt hb2)
  clear hb2
  cases hlo0 : longW L0 30 with
  | true =>
    go_wp2_with fail
    exact HP.out _ HB2.out
  | false =>
  go_wp2_with fail
  refine (HL1.out _ HB2.out).mono ?_
  rintro e w3 ⟨rfl, hb3⟩
  have HB3 := Lib.hid (HB2.out.nxt hb3)
  clear hb3
  cases hlo1 : longW L1 30 with
  | true =>
    go_wp2_with fail
    exact HP.out _ HB3.out
  | false =>
  have hs0 : L0.any longA = false := by simp [longW] at hlo0 ⊢; exact hlo0.2
  have hs1 : L1.any longA = false := by simp [longW] at hlo1 ⊢; exact hlo1.2
  have HM0 : Hid (∀ W, Below w.heap.size w W → Calls Tryd.prog 35 #[.slice A0 L0.length c0] W (NewEnd W (Trie.madeW L0))) := Lib.hid (fun W hW => law10_made W A0 c0 L0 ((HA.out.below hW).more hW.size) hs0 (HTb.out.next hW))
  have HM1 : Hid (∀ W, Below w.heap.size w W → Calls Tryd.prog 35 #[.slice A1 L1.length c1] W (NewEnd W (Trie.madeW L1))) := Lib.hid (fun W hW => law10_made W A1 c1 L1 ((HB.out.below hW).more hW.size) hs1 (HTb.out.next hW))
  have HC0 := Lib.hid (Trie.made_count L0)
  have HC1 := Lib.hid (Trie.made_count L1)
  clear hlo0 hlo1 hs0 hs1 HL0 HL1
  generalize Trie.madeW L0 = t at *
  generalize Trie.madeW L1 = s at *
  go_wp2_with fail
  refine (HM0.out _ HB3.out).mono ?_
  rintro e w4 ⟨v4, rfl, hk4, hb4⟩
  have HB4 := Lib.hid (HB3.out.nxt hb4)
  have HK4 := Lib.hid hk4
  clear hb4 hk4
  go_wp2_with fail
  refine (HM1.out _ HB4.out).mono ?_
  rintro e w5 ⟨v5, rfl, hk5, hb5⟩
  have HB5 := Lib.hid (HB4.out.nxt hb5)
  have HKt := Lib.hid (HK4.out.next hb5)
  have HKs := Lib.hid hk5
  clear hb5 hk5 HK4 HM0 HM1
  have HK : Hid (∀ W, Below w5.heap.size w5 W → TrieP W t v4 ∧ TrieP W s v5) := Lib.hid (fun W hW => ⟨HKt.out.next hW, HKs.out.next hW⟩)
  have HTk : Hid (∀ W, Below w5.heap.size w5 W → Tbl W) := Lib.hid (fun W hW => HTb.out.next (HB5.out.nxt hW))
  have HIt : Hid (∀ W, Below w5.heap.size w5 W → Calls Tryd.prog 27 #[v4] W (ItemsEnd W (Trie.itemsW t))) := Lib.hid (fun W hW => trie_Items W t v4 (HK.out W hW).1 (by have := HC0.out.1; omega))
  have HIs : Hid (∀ W, Below w5.heap.size w5 W → Calls Tryd.prog 27 #[v5] W (ItemsEnd W (Trie.itemsW s))) := Lib.hid (fun W hW => trie_Items W s v5 (HK.out W hW).2 (by have := HC1.out.1; omega))
  have HNt : Hid (∀ W, Below w5.heap.size w5 W → Calls Tryd.prog 17 #[v4] W (TextsEnd W (toldW allW t))) := Lib.hid (fun W hW => trie_Nodes W t v4 (HK.out W hW).1 (by have := HC0.out.1; omega))
  have HNs : Hid (∀ W, Below w5.heap.size w5 W → Calls Tryd.prog 17 #[v5] W (TextsEnd W (toldW allW s))) := Lib.hid (fun W hW => trie_Nodes W s v5 (HK.out W hW).2 (by have := HC1.out.1; omega))
  have HRt : Hid (∀ W, Below w5.heap.size w5 W → Calls Tryd.prog 25 #[v4] W fun e w' => e = .returned (.string ⟨(Trie.sumT t).toArray⟩) ∧ W = w') := Lib.hid (fun W hW => trie_Root W t v4 (HK.out W hW).1)
  have HRs : Hid (∀ W, Below w5.heap.size w5 W → Calls Tryd.prog 25 #[v5] W fun e w' => e = .returned (.string ⟨(Trie.sumT s).toArray⟩) ∧ W = w') := Lib.hid (fun W hW => trie_Root W s v5 (HK.out W hW).2)
  have HLt : Hid (∀ W, Below w5.heap.size w5 W → Calls Tryd.prog 37 #[v4] W fun e w' => e = .returned (.int .i64 (Trie.count t : Int)) ∧ W = w') := Lib.hid (fun W hW => trie_Len W t v4 (HK.out W hW).1)
  obtain ⟨same, HE1, HE2, HE4⟩ : ∃ same, Hid (decide (Trie.itemsW t = Trie.itemsW s) = same) ∧ Hid (decide (toldW allW t = toldW allW s) = same) ∧ Hid (same = true → Trie.sumT s = Trie.sumT t) := by
    by_cases e : t = s
    · exact ⟨true, Lib.hid (decide_eq_true (by rw [e])), Lib.hid (decide_eq_true (by rw [e])), Lib.hid (fun _ => by rw [e])⟩
    · exact ⟨false, Lib.hid (decide_eq_false (fun h => e (Trie.items_inj HC0.out.2 HC1.out.2 h))), Lib.hid (decide_eq_false (fun h => e (Trie.told_inj HC0.out.2 HC1.out.2 h))), Lib.hid (fun h => by cases h)⟩
  have HE3 : Hid (Trie.ofW .nil (Trie.itemsW t) = (t, 0)) := Lib.hid (Trie.ofW_items HC0.out.2)
  have HE5 : Hid ((Trie.sumT t = [] ∧ Trie.count t = 0) ∨ (Trie.sumT t ≠ [] ∧ Trie.count t ≠ 0)) := Lib.hid (by
    by_cases hn : t = .nil
    · subst hn; exact .inl ⟨rfl, rfl⟩
    · refine .inr ⟨fun e => ?_, Trie.count_zero HC0.out.2 hn⟩
      have := Trie.sumT_len hn
      rw [e] at this; cases this)
  have HLn : Hid ((Trie.itemsW t).length ≤ 30 ∧ (Trie.itemsW s).length ≤ 30 ∧ (toldW allW t).length ≤ 100000 ∧ (toldW allW s).length ≤ 100000) := Lib.hid ⟨by rw [Trie.itemsW_length]; exact HC0.out.1, by rw [Trie.itemsW_length]; exact HC1.out.1, Trie.told_len HC0.out.2 HC0.out.1, Trie.told_len HC1.out.2 HC1.out.1⟩
  have HIl := Lib.hid (Trie.item_len HC0.out.2)
  clear HK HKt HKs
  go_wp2_with fail
  refine (HIt.out _ (Below.refl _ _)).mono ?_
  rintro e w6 ⟨A6, n6, k6, rfl, rfl, own6, hb6⟩
  have HB6 := Lib.hid hb6
  have R6 := Lib.hid (Reads.of_own own6)
  clear hb6 own6
  go_wp2_with fail
  refine (HIs.out _ HB6.out).mono ?_
  rintro e w7 ⟨A7, n7, k7, rfl, rfl, own7, hb7⟩
  have HB7 := Lib.hid (HB6.out.nxt hb7)
  have R6b := Lib.hid ((R6.out.below hb7).more hb7.size)
  have R7 := Lib.hid (Reads.of_own own7)
  clear hb7 own7
  go_wp2_with fail
  refine (book_SameItems A6 A7 _ _ _ _ _ _ _ R6b.out R7.out (by have := HLn.out.1; omega) (by have := HLn.out.2.1; omega)).mono ?_
  rw [HE1.out]
  rintro e w8 ⟨rfl, hb8⟩
  have HB8 := Lib.hid (HB7.out.nxt hb8)
  clear hb8 R6 R6b R7
  go_wp2_with fail
  refine (HIt.out _ HB8.out).mono ?_
  rintro e w9 ⟨A9, n9, k9, rfl, rfl, own9, hb9⟩
  have HB9 := Lib.hid (HB8.out.nxt hb9)
  have R9 := Lib.hid (Reads.of_own own9)
  clear hb9 own9
  go_wp2_with fail
  refine (trie_Of _ (by have := HLn.out.1; omega) HIl.out _ (HTk.out _ HB9.out) _ _ R9.out).mono ?_
  rw [HE3.out]
  rintro e w10 ⟨v10, rfl, hb10, hk10, _⟩
  have HB10 := Lib.hid (HB9.out.nxt hb10)
  have HKu := Lib.hid (hk10 rfl)
  clear hb10 hk10 R9
  go_wp2_with fail
  refine (trie_Root _ _ _ HKu.out).mono ?_
  rintro e w11 ⟨rfl, rfl⟩
  go_wp2_with fail
  refine (HRt.out _ HB10.out).mono ?_
  rintro e w11 ⟨rfl, rfl⟩
  go_wp2_with fail
  refine (trie_Nodes _ _ _ HKu.out (by have := HC0.out.1; omega)).mono ?_
  rintro e w11 ⟨A11, n11, k11, rfl, rfl, own11, hb11⟩
  have HB11 := Lib.hid (HB10.out.nxt hb11)
  have R11 := Lib.hid (Reads.of_own own11)
  clear hb11 own11
  go_wp2_with fail
  refine (HNt.out _ HB11.out).mono ?_
  rintro e w12 ⟨A12, n12, k12, rfl, rfl, own12, hb12⟩
  have HB12 := Lib.hid (HB11.out.nxt hb12)
  have R11b := Lib.hid ((R11.out.below hb12).more hb12.size)
  have R12 := Lib.hid (Reads.of_own own12)
  clear hb12 own12
  go_wp2_with fail
  refine (book_SameTexts A11 A12 _ _ _ _ _ _ _ R11b.out R12.out (by have := HLn.out.2.2.1; omega) (by have := HLn.out.2.2.1; omega)).mono ?_
  rw [decide_eq_true rfl]
  rintro e w13 ⟨rfl, hb13⟩
  have HB13 := Lib.hid (HB12.out.nxt hb13)
  clear hb13 R11 R11b R12 HKu
  go_wp2_with fail
  refine (HNt.out _ HB13.out).mono ?_
  rintro e w14 ⟨A14, n14, k14, rfl, rfl, own14, hb14⟩
  have HB14 := Lib.hid (HB13.out.nxt hb14)
  have R14 := Lib.hid (Reads.of_own own14)
  clear hb14 own14
  go_wp2_with fail
  refine (HNs.out _ HB14.out).mono ?_
  rintro e w15 ⟨A15, n15, k15, rfl, rfl, own15, hb15⟩
  have HB15 := Lib.hid (HB14.out.nxt hb15)
  have R14b := Lib.hid ((R14.out.below hb15).more hb15.size)
  have R15 := Lib.hid (Reads.of_own own15)
  clear hb15 own15
  go_wp2_with fail
  refine (book_SameTexts A14 A15 _ _ _ _ _ _ _ R14b.out R15.out (by have := HLn.out.2.2.1; omega) (by have := HLn.out.2.2.2; omega)).mono ?_
  rw [HE2.out]
  rintro e w16 ⟨rfl, hb16⟩
  have HB16 := Lib.hid (HB15.out.nxt hb16)
  clear hb16 R14 R14b R15
  generalize Trie.sumT t = st at *
  generalize Trie.sumT s = ss at *
  generalize Trie.count t = ct at *
  clear HE1 HE2 HE3 HIl HIt HIs HNt HNs HTk
  cases same with
  | true =>
    obtain rfl := HE4.out rfl
    rcases HE5.out with ⟨rfl, rfl⟩ | ⟨h1, h2⟩
    · skip
      go_wp2_with fail
      refine (HRt.out _ HB16.out).mono ?_
      rintro e w17 ⟨rfl, rfl⟩
      go_wp2_with fail
      refine (HRs.out _ HB16.out).mono ?_
      rintro e w17 ⟨rfl, rfl⟩
      go_wp2_with fail
      refine (HRt.out _ HB16.out).mono ?_
      rintro e w17 ⟨rfl, rfl⟩
      go_wp2_with fail
      refine (HLt.out _ HB16.out).mono ?_
      rintro e w17 ⟨rfl, rfl⟩
      go_wp2_with fail
      exact HP.out _ (HB5.out.nxt HB16.out)
    · have g1 : (ss.toArray = #[]) = False := by simp [h1]
      have g2 : ss.isEmpty = false := by simp [h1]
      have g3 : ((ct : Int) == 0) = false := by simp; exact h2
      clear h1 h2
      go_wp2_with fail
      refine (HRt.out _ HB16.out).mono ?_
      rintro e w17 ⟨rfl, rfl⟩
      go_wp2_with fail
      refine (HRs.out _ HB16.out).mono ?_
      rintro e w17 ⟨rfl, rfl⟩
      go_wp2_with fail
      refine (HRt.out _ HB16.out).mono ?_
      rintro e w17 ⟨rfl, rfl⟩
      go_wp2_with fail
      refine (HLt.out _ HB16.out).mono ?_
      rintro e w17 ⟨rfl, rfl⟩
      go_wp2_with fail
      exact HP.out _ (HB5.out.nxt HB16.out)
  | false =>
    rcases HE5.out with ⟨rfl, rfl⟩ | ⟨h1, h2⟩
    · skip
      go_wp2_with fail
      refine (HRt.out _ HB16.out).mono ?_
      rintro e w17 ⟨rfl, rfl⟩
      go_wp2_with fail
      refine (HLt.out _ HB16.out).mono ?_
      rintro e w17 ⟨rfl, rfl⟩
      go_wp2_with fail
      exact HP.out _ (HB5.out.nxt HB16.out)
    · have g1 : (st.toArray = #[]) = False := by simp [h1]
      have g2 : st.isEmpty = false := by simp [h1]
      have g3 : ((ct : Int) == 0) = false := by simp; exact h2
      clear h1 h2
      go_wp2_with fail
      refine (HRt.out _ HB16.out).mono ?_
      rintro e w17 ⟨rfl, rfl⟩
      go_wp2_with fail
      refine (HLt.out _ HB16.out).mono ?_
      rintro e w17 ⟨rfl, rfl⟩
      go_wp2_with fail
      exact HP.out _ (HB5.out.nxt HB16.out)
end Go.Proofs.YtaplecncnkkigaaDoor

/- A slice of acts as an argument: opened to its cells. No conditions. -/
namespace Go.Proofs.YtaplecncnkkigaaDoor
set_option linter.unusedVariables false
open Go.RowKit Go.Instr Go.ChangeShapes Go.WideShapes Go.Deep

section
variable {H : Type} {enc : TypeId × Value → H} {P : Program} {w : World} {base : Nat} {spare : Nat → Bool} {held : Bool}
theorem open_slice_fields {t e : TypeId} {fs : Array Field} {fuel : Nat} {cs : List Value} {x : DataW H × List MemPlace} (ht : P.underlying t = some (.slice e)) (he : P.underlying e = some (.struct fs))
    (hone : oneCellFields P fs = true) (hC : P.cellsOf e = fs.size) (h : DataW.trod enc P w base spare held fuel t cs = some x) :
    (cs = [.slice none 0 0] ∧ x = (.nil, [])) ∨
    ∃ (a : Addr) (len cap m : Nat) (D : Nat → DataW H) (Pl : Nat → List MemPlace), cs = [.slice (some a) len cap] ∧ base ≤ a.block ∧ len ≤ cap ∧ cap ≤ maxLen ∧ m = (if spare a.block then cap else len) ∧
      x = (.slice ((List.range len).map D) ((List.range (m - len)).map fun j => D (len + j)), MemPlace.row a (m * fs.size) ++ (List.range m).flatMap Pl) ∧
      ∀ i, i < m → ∃ (ys : List (DataW H × List MemPlace)) (n : Nat), D i = .agg (ys.map (·.1)) ∧ Pl i = ys.flatMap (·.2) ∧ ys.length = fs.size ∧
        ∀ (j : Nat) (f : Field), fs[j]? = some f → ∃ (v : Value) (y : DataW H × List MemPlace), w.cell? (a.add (i * fs.size + j)) = some v ∧ ys[j]? = some y ∧ DataW.trod enc P w base spare held n f.type [v] = some y := by
  rcases open_slice ht h with h0 | ⟨a, len, cap, m, n, D, Pl, hcs, hb, hl, hm, hmm, hx, hi⟩
  · exact .inl h0
  · refine .inr ⟨a, len, cap, m, D, Pl, hcs, hb, hl, hm, hmm, by rw [hC] at hx; exact hx, fun i him => ?_⟩
    obtain ⟨cs', hc, ht'⟩ := hi i him
    rw [hC] at hc
    obtain ⟨ys, n', hn', hy, hlen, hyl, hf⟩ := DataW.trod_struct he ht'
    obtain ⟨_, hcl, hat⟩ := World.cells?_some hc
    simp only [Prod.mk.injEq] at hy
    refine ⟨ys, n', hy.1, hy.2, hyl, fun j f hj => ?_⟩
    obtain ⟨ho, hk⟩ := hone_of hone j f hj
    have hjl : j < fs.size := (Array.getElem?_eq_some_iff.1 hj).1
    have hcell := hat j hjl
    have hv : cs'[j]? = some (cs'[j]'(by omega)) := List.getElem?_eq_getElem (by omega)
    have h1 := hf j f hj
    rw [ho, hk] at h1
    have hone' : (cs'.drop j).take 1 = [cs'[j]'(by omega)] := by
      rw [List.drop_eq_getElem_cons (by omega)]
      rfl
    rw [hone'] at h1
    have hys : ys[j]? = some (ys[j]'(by omega)) := List.getElem?_eq_getElem (by omega)
    refine ⟨_, _, ?_, hys, h1.trans hys⟩
    rw [← Go.Deep.add_add, hcell, hv]
end

theorem list_of {α : Type} (P : Nat → α → Prop) : ∀ (n : Nat), (∀ i, i < n → ∃ s, P i s) → ∃ L : List α, L.length = n ∧ ∀ i s, L[i]? = some s → P i s
  | 0, _ => ⟨[], rfl, fun i s h => by simp at h⟩
  | n + 1, each => by
    obtain ⟨L, hL, hc⟩ := list_of P n (fun i hi => each i (by omega))
    obtain ⟨s, hs⟩ := each n (by omega)
    refine ⟨L ++ [s], by simp [hL], fun i s' h => ?_⟩
    by_cases hin : i < L.length
    · rw [List.getElem?_append_left hin] at h
      exact hc i s' h
    · have hl2 := (List.getElem?_eq_some_iff.1 h).1
      rw [List.length_append, List.length_singleton] at hl2
      have ei : i = n := by omega
      subst ei
      rw [List.getElem?_append_right (by omega), hL, Nat.sub_self] at h
      injection h with h
      subst h
      exact hs
theorem open_acts {H : Type} {enc : TypeId × Value → H} {W : World} {fuel : Nat} {A : Option Addr} {n c : Nat} {x : DataW H × List MemPlace}
    (h : DataW.trod enc Tryd.prog W 0 (fun _ => true) true fuel 49 [.slice A n c] = some x) :
    ∃ L : List Act10, L.length = n ∧ Reads W W.heap.size 3 A n (acts L) ∧ n ≤ maxLen := by
  rcases open_slice_fields Tryd.underlying49 Tryd.underlying54 (by kernel_rfl) (by kernel_rfl) h with ⟨e, _⟩ | ⟨a, len, cap, m, D, Pl, e, hb, hl, hcap, hm, _, hi⟩
  · injection e with e _
    injection e with e1 e2 e3
    subst e1
    subst e2
    exact ⟨[], rfl, Reads.none_, by simp only [maxLen]; omega⟩
  · injection e with e _
    injection e with e1 e2 e3
    subst e1
    subst e2
    have hmn : n ≤ m := by rw [hm]; simp only [if_true]; omega
    have each : ∀ i, i < n → ∃ s : Act10, ∀ j u, (actv s)[j]? = some u → W.cell? (a.add (i * 3 + j)) = some u := fun i hin => by
      obtain ⟨ys, k, _, _, hyl, hf⟩ := hi i (by omega)
      obtain ⟨v0, y0, c0, _, t0⟩ := hf 0 _ rfl
      obtain ⟨v1, y1, c1, _, t1⟩ := hf 1 _ rfl
      obtain ⟨v2, y2, c2, _, t2⟩ := hf 2 _ rfl
      obtain ⟨s0, e0, _⟩ := DataW.trod_int Tryd.underlying3 t0
      obtain ⟨s1, e1, _⟩ := DataW.trod_string Tryd.underlying9 t1
      obtain ⟨s2, e2, _⟩ := DataW.trod_string Tryd.underlying9 t2
      injection e0 with e0; injection e1 with e1; injection e2 with e2
      subst e0; subst e1; subst e2
      refine ⟨⟨s0, s1.data.toList, s2.data.toList⟩, fun j u hu => ?_⟩
      match j, hu with
      | 0, hu => injection hu with hu; subst hu; exact c0
      | 1, hu => injection hu with hu; subst hu; exact c1
      | 2, hu => injection hu with hu; subst hu; exact c2
    have := list_of (fun i s => ∀ j u, (actv s)[j]? = some u → W.cell? (a.add (i * 3 + j)) = some u) n each
    obtain ⟨L, hL, hc⟩ := this
    have hcell : ∀ j u, (acts L)[j]? = some u → W.cell? (a.add j) = some u := fun j u hu => by
      have hj : j < L.length * 3 := by have := (List.getElem?_eq_some_iff.1 hu).1; rwa [acts_length] at this
      have hx : L[j / 3]? = some (L[j / 3]'(by omega)) := List.getElem?_eq_getElem (by omega)
      have h4 := acts_at L (j / 3) (j % 3) _ hx (by omega)
      rw [show j / 3 * 3 + j % 3 = j by omega] at h4
      have := hc (j / 3) _ hx (j % 3) u (by rw [← h4, hu])
      rwa [show j / 3 * 3 + j % 3 = j by omega] at this
    refine ⟨L, hL, ⟨by rw [acts_length, hL], fun hn => ⟨a, rfl, ?_, hcell⟩⟩, by omega⟩
    have h0 : (acts L)[0]? = some ((acts L)[0]'(by rw [acts_length]; omega)) := List.getElem?_eq_getElem (by rw [acts_length]; omega)
    have := hcell 0 _ h0
    have := World.block_lt_of_cell? _ _ this
    rwa [block_of_add] at this
end Go.Proofs.YtaplecncnkkigaaDoor
