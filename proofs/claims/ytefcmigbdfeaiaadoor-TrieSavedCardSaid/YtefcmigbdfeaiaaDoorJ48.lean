import Derived.Test.YtefcmigbdfeaiaaDoorJ46
import Derived.Test.YtefcmigbdfeaiaaDoorJ37
import Derived.Test.YtefcmigbdfeaiaaDoorJ47
import Derived.Test.YtefcmigbdfeaiaaDoorJ38
import Derived.Test.YtefcmigbdfeaiaaDoorJ30
import Derived.Test.YtefcmigbdfeaiaaDoorJ32
set_option linter.unusedSimpArgs false
set_option linter.unusedVariables false
namespace Go.Proofs.YtefcmigbdfeaiaaDoor
set_option linter.unusedVariables false
namespace Trie
open Nib
theorem kidsLd_back {F : List UInt8 → List UInt8 → Nat → Nat → Ld} {K : List (List UInt8)} {at_ : Nat → List UInt8} (ts : Nat → T) (hn : ∀ i, i < 16 → (K.getD i [] = [] ↔ ts i = .nil))
    (hF : ∀ i m, i < 16 → ts i ≠ .nil → m + count (ts i) ≤ 1024 → F (K.getD i []) (at_ i) m 0 = (ts i, m + count (ts i), 0)) :
    ∀ n m, n ≤ 16 → m + ((List.range n).map fun j => count (ts (16 - n + j))).sum ≤ 1024 →
      kidsLd F K at_ n m 0 = ((List.range n).map fun j => ts (16 - n + j), m + ((List.range n).map fun j => count (ts (16 - n + j))).sum, 0)
  | 0, m, _, _ => rfl
  | n + 1, m, hle, hm => by
    have e1 : ∀ j, 16 - (n + 1) + (j + 1) = 16 - n + j := fun j => by omega
    rw [List.range_succ_eq_map, List.map_cons, List.map_cons, List.map_map, List.map_map] at *
    simp only [Function.comp_def, Nat.succ_eq_add_one, e1, List.sum_cons, Nat.add_zero] at hm ⊢
    rw [show 16 - (n + 1) = 15 - n by omega] at hm ⊢
    simp only [kidsLd]
    by_cases hz : K.getD (15 - n) [] = []
    · have h0 := (hn _ (by omega)).1 hz
      rw [h0] at hm ⊢
      simp only [count, Nat.zero_add] at hm ⊢
      rw [if_pos hz, kidsLd_back ts hn hF n m (by omega) hm]
    · have h0 : ts (15 - n) ≠ .nil := fun e => hz ((hn _ (by omega)).2 e)
      rw [if_neg hz, hF _ _ (by omega) h0 (by omega)]
      simp only
      rw [kidsLd_back ts hn hF n _ (by omega) (by omega), Nat.add_assoc]
theorem range_fin {α : Type} (f : Nat → α) : (List.range 16).map f = (List.finRange 16).map fun i => f i.val := by
  refine List.ext_getElem (by simp) fun i h1 h2 => ?_
  simp
theorem OkLd.kid {pl v : List UInt8} {kids : Fin 16 → T} (h : OkLd pl (.branch v kids)) (i : Fin 16) (hi : kids i ≠ .nil) : OkLd (pl ++ [UInt8.ofNat i.val]) (kids i) := by
  refine ⟨hi, h.wf.1 i, fun q hq hl => ?_⟩
  obtain ⟨e1, e2⟩ := ix_of i
  have := h.all (UInt8.ofNat i.val :: q) (fit_cons'.2 ⟨e2, hq⟩) (by simp only [look, e1]; exact hl)
  simp only [look, e1] at this
  rw [List.append_assoc]
  exact this
theorem OkLd.below {pl p : List UInt8} {t : T} (h : OkLd pl (.ext p t)) : OkLd (pl ++ p) t := by
  have hw := h.wf
  refine ⟨fun e => (by have := hw.2.2.1; rw [e] at this; cases this), hw.2.2.2, fun q hq hl => ?_⟩
  have := h.all (p ++ q) (fit_append.2 ⟨hw.1, hq⟩) (by rw [look_ext]; exact hl)
  rw [look_ext] at this
  rw [List.append_assoc]
  exact this
theorem OkLd.has {pl : List UInt8} {t : T} (h : OkLd pl t) : ∃ q, fit q = true ∧ look t q ≠ [] := look_some t h.wf (by cases hi : isNil t with | false => rfl | true => exact absurd (isNil_iff.1 hi) h.nn)
theorem OkLd.short {pl : List UInt8} {t : T} (h : OkLd pl t) : pl.length ≤ 16 := by
  obtain ⟨q, h1, h2⟩ := h.has
  have := (h.all q h1 h2).1
  rw [List.length_append] at this
  omega
theorem OkLd.odd {pl : List UInt8} {t : T} {below : Bool} (h : OkLd pl t) (hb : below = true → isBranch t = true) : oddLd (nd t) pl below = false := by
  unfold oddLd nd
  simp only [Bool.or_eq_false_iff, Bool.and_eq_false_imp, decide_eq_false_iff_not, Bool.not_eq_false', decide_eq_true_eq]
  cases t with
  | nil => exact absurd rfl h.nn
  | leaf p v =>
    refine ⟨⟨fun e => ?_, ?_⟩, ?_⟩
    · have := hb e; cases this
    · have := (h.all p h.wf.1 (by simp [look]; exact h.wf.2)).1
      rw [List.length_append] at this
      simp only [pathT]; omega
    · intro e; simp [kindT] at e
  | ext p t =>
    refine ⟨⟨fun e => ?_, ?_⟩, ?_⟩
    · have := hb e; cases this
    · have := h.below.short
      rw [List.length_append] at this
      simp only [pathT]; omega
    · intro e; simp [kindT] at e
  | branch v kids =>
    refine ⟨⟨fun e => rfl, ?_⟩, fun e => ?_⟩
    · have := h.short; simp [pathT]; omega
    · simp only [kindT, pathT, List.length_nil, Nat.add_zero] at e ⊢
      intro h16
      have h2 := h.wf.2
      have hkid : ∃ i, kids i ≠ .nil := by
        by_cases hex : ∃ i, kids i ≠ .nil
        · exact hex
        · exfalso
          have h0 : many kids = 0 := by
            unfold many
            rw [List.length_eq_zero_iff, List.filter_eq_nil_iff]
            intro i _
            have : kids i = .nil := Classical.byContradiction fun hc => hex ⟨i, hc⟩
            rw [this]; simp [isNil]
          rw [h0] at h2
          split at h2 <;> omega
      obtain ⟨i, hi⟩ := hkid
      have := (h.kid i hi).short
      rw [List.length_append, List.length_singleton] at this
      omega
theorem OkLd.many {pl : List UInt8} {t : T} {m : Nat} (h : OkLd pl t) (hm : m + count t ≤ 1024) : manyLd (nd t) pl m = (m + (if (valT t).isEmpty then 0 else 1), 0) := by
  have hc := count_eq h.nn h.wf
  unfold manyLd nd
  simp only
  by_cases hv : valT t = []
  · rw [if_pos hv, hv]; rfl
  · have he : (valT t).isEmpty = false := by simp [hv]
    rw [he] at hc ⊢
    rw [if_neg hv]
    simp only [Bool.false_eq_true, if_false] at hc ⊢
    have hl : (pl.length + (pathT t).length) % 2 = 0 ∧ pl.length + (pathT t).length ≠ 0 := by
      cases t with
      | nil => exact absurd rfl hv
      | leaf p v =>
        have := h.all p h.wf.1 (by simp [look]; exact h.wf.2)
        simp only [pathT, ← List.length_append]
        exact ⟨this.2.1, fun e => this.2.2.1 (List.length_eq_zero_iff.1 e)⟩
      | ext p t => exact absurd rfl hv
      | branch v kids =>
        have := h.all [] rfl hv
        rw [List.append_nil] at this
        simp only [pathT, List.length_nil, Nat.add_zero]
        exact ⟨this.2.1, fun e => this.2.2.1 (List.length_eq_zero_iff.1 e)⟩
    unfold itemLd
    rw [if_neg (by omega), if_neg (by omega)]
theorem nodeOf_back {D : List KV} {pl : List UInt8} {t : T} (h : OkLd pl t) (hl : lookB D (sumT t) = some (textT t)) : nodeOf D (sumT t) = (nd t, 0) := by
  unfold nodeOf
  rw [hl]
  exact decN_text h.nn h.wf h.small
theorem mkT_back {t : T} (hn : t ≠ .nil) : mkT (nd t) ((List.range 16).map fun j => if hj : j < 16 then kidsT t ⟨j, hj⟩ else .nil) = t := by
  have hg : ∀ i : Fin 16, ((List.range 16).map fun j => if hj : j < 16 then kidsT t ⟨j, hj⟩ else .nil).getD i.val .nil = kidsT t i := fun i => by
    rw [List.getD_eq_getElem?_getD, List.getElem?_map, List.getElem?_range i.isLt]
    simp
  generalize ((List.range 16).map fun j => if hj : j < 16 then kidsT t ⟨j, hj⟩ else .nil) = ts at *
  cases t with
  | nil => exact absurd rfl hn
  | leaf p v => simp [mkT, nd, kindT, pathT, valT]
  | ext p t =>
    have := hg 0
    simp [mkT, nd, kindT, pathT, valT]
    exact this
  | branch v kids =>
    have e : mkT (nd (.branch v kids)) ts = .branch v fun i => ts.getD i.val .nil := by simp [mkT, nd, kindT, valT]
    rw [e]
    congr 1
    funext i
    exact hg i
theorem kidAt_nd {pl : List UInt8} {t : T} (i : Fin 16) (h : kidsT t i ≠ .nil) (hok : OkLd pl t) : OkLd (kidAt (nd t) pl i.val) (kidsT t i) ∧ ((kindT t = 2) → isBranch (kidsT t i) = true) ∧ pl.length < (kidAt (nd t) pl i.val).length := by
  cases t with
  | nil => exact absurd rfl h
  | leaf p v => exact absurd rfl h
  | ext p t =>
    simp only [kidsT] at h ⊢
    by_cases hi : i = 0
    · rw [if_pos hi] at h ⊢
      have e : kidAt (nd (.ext p t)) pl i.val = pl ++ p := by simp [kidAt, nd, kindT, pathT]
      rw [e, List.length_append]
      have := List.length_pos_iff.2 hok.wf.2.1
      exact ⟨hok.below, fun _ => hok.wf.2.2.1, by omega⟩
    · rw [if_neg hi] at h; exact absurd rfl h
  | branch v kids =>
    have e : kidAt (nd (.branch v kids)) pl i.val = pl ++ [UInt8.ofNat i.val] := by simp [kidAt, nd, kindT]
    rw [e, List.length_append]
    exact ⟨hok.kid i h, fun e => by simp [kindT] at e, by simp⟩
theorem knots_kid {t k : T} (i : Fin 16) (h : k ∈ knots (kidsT t i)) : k ∈ knots t := by
  cases t with
  | nil => cases h
  | leaf p v => cases h
  | ext p t =>
    simp only [kidsT] at h
    by_cases hi : i = 0
    · rw [if_pos hi] at h; exact List.mem_cons_of_mem _ h
    · rw [if_neg hi] at h; cases h
  | branch v kids =>
    simp only [knots]
    exact List.mem_cons_of_mem _ (List.mem_flatMap.2 ⟨i, List.mem_finRange _, h⟩)
theorem knots_self {t : T} (h : t ≠ .nil) : t ∈ knots t := by
  cases t with
  | nil => exact absurd rfl h
  | leaf p v => simp [knots]
  | ext p t => simp [knots]
  | branch v kids => simp [knots]
theorem loadW_back {D : List KV} : ∀ f t pl below m, OkLd pl t → (∀ k ∈ knots t, lookB D (sumT k) = some (textT k)) → (below = true → isBranch t = true) → 17 ≤ f + pl.length → m + count t ≤ 1024 →
    loadW D f (sumT t) pl below m 0 = (t, m + count t, 0)
  | 0, t, pl, below, m, hok, _, _, hf, _ => by have := hok.short; omega
  | f + 1, t, pl, below, m, hok, hD, hb, hf, hm => by
    have hno := nodeOf_back hok (hD t (knots_self hok.nn))
    unfold loadW
    rw [if_neg (by simp), hno]
    simp only
    rw [if_neg (by simp), hok.odd hb, if_neg (by simp), hok.many hm, if_neg (by simp)]
    have hc := count_eq hok.nn hok.wf
    have hsum : ((List.range 16).map fun j => count (if hj : j < 16 then kidsT t ⟨j, hj⟩ else .nil)).sum = belowT t 16 := by
      rw [range_fin]
      unfold belowT
      rw [List.take_of_length_le (by simp)]
      congr 1
    have hk := kidsLd_back (F := fun s p m c => loadW D f s p (decide ((nd t).1 = 2)) m c) (K := (nd t).2.2.2) (at_ := kidAt (nd t) pl) (fun j => if hj : j < 16 then kidsT t ⟨j, hj⟩ else .nil)
      (fun i hi => by
        rw [dif_pos hi]
        have := sumsT_at t ⟨i, hi⟩
        simp only at this
        show (sumsT t).getD i [] = [] ↔ _
        rw [this]
        exact sumT_empty)
      (fun i m' hi hne hm' => by
        rw [dif_pos hi] at hne hm' ⊢
        obtain ⟨k1, k2, k3⟩ := kidAt_nd ⟨i, hi⟩ hne hok
        have e : (nd t).2.2.2.getD i [] = sumT (kidsT t ⟨i, hi⟩) := sumsT_at t ⟨i, hi⟩
        simp only [e]
        exact loadW_back f _ _ _ m' k1 (fun k hk => hD k (knots_kid ⟨i, hi⟩ hk)) (fun h => k2 (of_decide_eq_true h)) (by simp only at k3; omega) hm')
      16 (m + (if (valT t).isEmpty then 0 else 1)) (by omega) (by
        simp only [Nat.sub_self, Nat.zero_add]
        rw [hsum]; omega)
    simp only [Nat.sub_self, Nat.zero_add] at hk
    rw [hsum] at hk
    rw [hk]
    unfold endLd
    rw [if_pos rfl]
    simp only
    rw [mkT_back hok.nn]
    have e : m + (if (valT t).isEmpty then 0 else 1) + belowT t 16 = m + count t := by omega
    rw [e]
theorem Good.okLd {t : T} (h : Good t) (hn : t ≠ .nil) : OkLd [] t := by
  obtain ⟨h1, h2, h3⟩ := h
  refine ⟨hn, h1, fun q hq hl => ?_⟩
  have a := h2 q hq hl
  have b := h3 q hq hl
  exact ⟨a.1, b.1, b.2, a.2⟩
end Trie
theorem lookB_putB (D : List Trie.KV) (k v q : List UInt8) : lookB (putB D k v) q = if q = k then some v else lookB D q := by
  induction D with
  | nil => simp [putB, lookB]
  | cons x D ih =>
    simp only [putB]
    by_cases h : k = x.1
    · rw [if_pos h]
      simp only [lookB]
      by_cases h2 : q = k
      · rw [if_pos h2, if_pos h2]
      · rw [if_neg h2, if_neg h2, if_neg (fun e => h2 (e.trans h.symm))]
    · rw [if_neg h]
      simp only [lookB, ih]
      by_cases h2 : q = x.1
      · rw [if_pos h2, if_pos h2, if_neg (fun e => h (e.symm.trans h2))]
      · rw [if_neg h2, if_neg h2]
theorem Trie.knots_nn (t : Trie.T) : ∀ k ∈ Trie.knots t, k ≠ .nil := by
  induction t with
  | nil => intro k h; cases h
  | leaf p v => intro k h; rw [Trie.knots, List.mem_singleton] at h; subst h; simp
  | ext p t ih =>
    intro k h
    rcases List.mem_cons.1 h with rfl | h
    · simp
    · exact ih k h
  | branch v kids ih =>
    intro k h
    rcases List.mem_cons.1 h with rfl | h
    · simp
    · obtain ⟨i, _, h⟩ := List.mem_flatMap.1 h
      exact ih i k h
theorem putS_look (D : List Trie.KV) (x : List UInt8) : ∃ key, shaW (1 :: x) = key ∧ putS D x = if (lookB D key).isSome then D else putB D key x := ⟨_, rfl, rfl⟩
theorem putS_from {D : List Trie.KV} {x k s : List UInt8} (h : lookB (putS D x) k = some s) : lookB D k = some s ∨ (shaW (1 :: x) = k ∧ s = x) := by
  obtain ⟨key, hk, e⟩ := putS_look D x
  rw [hk]
  rw [e] at h
  clear e hk
  by_cases h1 : (lookB D key).isSome = true
  · rw [if_pos h1] at h; exact .inl h
  · rw [if_neg h1, lookB_putB] at h
    by_cases h2 : k = key
    · rw [if_pos h2] at h
      exact .inr ⟨h2.symm, (Option.some.inj h).symm⟩
    · rw [if_neg h2] at h; exact .inl h
theorem saveD_true {D : List Trie.KV} {l : List (List UInt8)} (hD : ∀ k s, lookB D k = some s → shaW (1 :: s) = k) : ∀ k s, lookB (saveD D l) k = some s → shaW (1 :: s) = k := by
  induction l generalizing D with
  | nil => exact hD
  | cons x l ih =>
    refine ih (D := putS D x) fun k s h => ?_
    rcases putS_from h with h | ⟨h1, h2⟩
    · exact hD k s h
    · rw [h2]; exact h1
theorem putS_old {D : List Trie.KV} {x k s : List UInt8} (h : lookB D k = some s) : lookB (putS D x) k = some s := by
  obtain ⟨key, hk, e⟩ := putS_look D x
  rw [e]
  clear e hk
  by_cases h1 : (lookB D key).isSome = true
  · rw [if_pos h1]; exact h
  · rw [if_neg h1, lookB_putB, if_neg]
    · exact h
    · rintro rfl
      rw [h] at h1
      exact h1 rfl
theorem saveD_old {l : List (List UInt8)} {D : List Trie.KV} {k s : List UInt8} (h : lookB D k = some s) : lookB (saveD D l) k = some s := by
  induction l generalizing D with
  | nil => exact h
  | cons x l ih => exact ih (D := putS D x) (putS_old h)
theorem putB_mem {D : List Trie.KV} {k v : List UInt8} {x : Trie.KV} (h : x ∈ putB D k v) : x = (k, v) ∨ x ∈ D := by
  induction D with
  | nil => simp [putB] at h; exact .inl h
  | cons y D ih =>
    simp only [putB] at h
    by_cases h1 : k = y.1
    · rw [if_pos h1] at h
      rcases List.mem_cons.1 h with h | h
      · exact .inl h
      · exact .inr (List.mem_cons_of_mem _ h)
    · rw [if_neg h1] at h
      rcases List.mem_cons.1 h with h | h
      · exact .inr (by rw [h]; exact List.mem_cons_self ..)
      · rcases ih h with h | h
        · exact .inl h
        · exact .inr (List.mem_cons_of_mem _ h)
theorem putS_mem {D : List Trie.KV} {y : List UInt8} {x : Trie.KV} (h : x ∈ putS D y) : x.2 = y ∨ x ∈ D := by
  obtain ⟨key, hk, e⟩ := putS_look D y
  rw [e] at h
  clear e hk
  by_cases h1 : (lookB D key).isSome = true
  · rw [if_pos h1] at h; exact .inr h
  · rw [if_neg h1] at h
    rcases putB_mem h with h | h
    · exact .inl (by rw [h])
    · exact .inr h
theorem saveD_mem {l : List (List UInt8)} {D : List Trie.KV} {x : Trie.KV} (h : x ∈ saveD D l) : x ∈ D ∨ x.2 ∈ l := by
  induction l generalizing D with
  | nil => exact .inl h
  | cons y l ih =>
    rcases ih (D := putS D y) h with h | h
    · rcases putS_mem h with h | h
      · exact .inr (by rw [h]; exact List.mem_cons_self ..)
      · exact .inl h
    · exact .inr (List.mem_cons_of_mem _ h)
theorem putS_has (D : List Trie.KV) (x : List UInt8) : ∃ s, lookB (putS D x) (shaW (1 :: x)) = some s := by
  obtain ⟨key, hk, e⟩ := putS_look D x
  rw [hk, e]
  clear e hk
  by_cases h1 : (lookB D key).isSome = true
  · rw [if_pos h1]; exact Option.isSome_iff_exists.1 h1
  · rw [if_neg h1]
    exact ⟨x, by rw [lookB_putB, if_pos rfl]⟩
theorem saveD_has {l : List (List UInt8)} {D : List Trie.KV} {x : List UInt8} (h : x ∈ l) : (lookB (saveD D l) (shaW (1 :: x))).isSome = true := by
  induction l generalizing D with
  | nil => cases h
  | cons y l ih =>
    rcases List.mem_cons.1 h with rfl | h
    · obtain ⟨s, hs⟩ := putS_has D x
      have : lookB (saveD (putS D x) l) (shaW (1 :: x)) = some s := saveD_old hs
      show (lookB (saveD (putS D x) l) _).isSome = true
      rw [this]; rfl
    · exact ih (D := putS D y) h
theorem load_back {D : List Trie.KV} {l : List (List UInt8)} {X : Trie.T} (hX : Trie.Good X) (hc : Trie.count X ≤ 1024) (hT : ∀ k s, lookB D k = some s → shaW (1 :: s) = k)
    (hl : ∀ x ∈ toldW allW X, x ∈ l) (hD : ∀ k s, lookB D k = some s → s ∈ l) (hH : ∀ x ∈ toldW allW X, (lookB D (shaW (1 :: x))).isSome = true) :
    unlikeW l = true ∨ loadR D (Trie.sumT X) = (X, 0) := by
  by_cases hu : unlikeW l = true
  · exact .inl hu
  · refine .inr ?_
    unfold loadR
    by_cases hn : X = .nil
    · subst hn; rfl
    · rw [if_neg (fun e => hn (Trie.sumT_empty.1 e))]
      have hback := Trie.loadW_back (D := D) 17 X [] false 0 (hX.okLd hn) (fun k hk => ?_) (fun h => by cases h) (by simp) (by omega)
      · rw [hback]
      · have hm : Trie.textT k ∈ toldW allW X := by rw [Trie.told_knots]; exact List.mem_map.2 ⟨k, hk, rfl⟩
        have hkn : k ≠ .nil := by
          rintro rfl
          exact Trie.knots_nn X _ hk rfl
        rw [← Trie.sum_text hkn]
        obtain ⟨s, hs⟩ := Option.isSome_iff_exists.1 (hH _ hm)
        rw [hs]
        congr 1
        refine Decidable.byContradiction fun hne => hu ?_
        exact unlikeW_of (hD _ _ hs) (hl _ hm) hne (hT _ _ hs)
end Go.Proofs.YtefcmigbdfeaiaaDoor

namespace Go.Proofs.YtefcmigbdfeaiaaDoor
set_option linter.unusedVariables false
open Go.RowKit Go.Instr
attribute [local go_sem] ba_get ByteArray.mk_append_mk
attribute [local go_sem ↓] Go.wp_at_zero Go.wp_at_succ
set_option maxRecDepth 100000 in
set_option maxHeartbeats 2000000 in
theorem law_TrieSaved (w : World) (A0 A1 : Option Addr) (c0 c1 : Nat) (L0 L1 : List Act10) (HR0 : Reads w w.heap.size 3 A0 L0.length (acts L0)) (HR1 : Reads w w.heap.size 3 A1 L1.length (acts L1)) (hT : Tbl w) :
    Calls Tryd.prog 4 #[.slice A0 L0.length c0, .slice A1 L1.length c1] w fun e w' => e = .returned (.bool true) ∧ Below w.heap.size w w' := by
  have HP : Hid (∀ w', Below w.heap.size w w' → (fun e w' => e = Ending.returned (.bool true) ∧ Below w.heap.size w w') (Ending.returned (.bool true)) w') := Lib.hid (fun W' a2 => ⟨rfl, a2⟩)
  generalize (fun e w' => e = Ending.returned (.bool true) ∧ Below w.heap.size w w') = P at HP ⊢
  have HTb := Lib.hid hT
  have HA := Lib.hid HR0
  have HB := Lib.hid HR1
  clear hT HR0 HR1
  have HL0 : Hid (∀ W, Below w.heap.size w W → Calls Tryd.prog 28 #[.slice A0 L0.length c0, .int .i64 30] W fun e w' => e = .returned (.bool (longW L0 30)) ∧ Below W.heap.size W w') := Lib.hid (fun W hW => law10_long W A0 c0 L0 30 ((HA.out.below hW).more hW.size) (by omega))
  have HL1 : Hid (∀ W, Below w.heap.size w W → Calls Tryd.prog 28 #[.slice A1 L1.length c1, .int .i64 30] W fun e w' => e = .returned (.bool (longW L1 30)) ∧ Below W.heap.size W w') := Lib.hid (fun W hW => law10_long W A1 c1 L1 30 ((HB.out.below hW).more hW.size) (by omega))
  go_enter Tryd.func4, Tryd.ntmps4
  go_wp2_with fail
  refine (law10_works _ HTb.out).mono ?_
  rintro e w1 ⟨rfl, hb1⟩
  have HB1 := Lib.hid hb1
  clear hb1
  go_wp2_with fail
  refine (HL0.out _ HB1.out).mono ?_
  rintro e w2 ⟨rfl, hb2⟩
  have HB2 := Lib.hid (HB1.out.nxt hb2)
  clear hb2
  cases hlo0 : longW L0 30 with
  | true =>
    go_wp2_with fail
    exact HP.out _ HB2.out
  | false =>
  go_wp2_with fail
  refine (HL1.out _ HB2.out).mono ?_
  rintro e w3 ⟨rfl, hb3⟩
  have HB3 := Lib.hid (HB2.out.nxt hb3)
  clear hb3
  cases hlo1 : longW L1 30 with
  | true =>
    go_wp2_with fail
    exact HP.out _ HB3.out
  | false =>
  have hs0 : L0.any longA = false := by simp [longW] at hlo0 ⊢; exact hlo0.2
  have hs1 : L1.any longA = false := by simp [longW] at hlo1 ⊢; exact hlo1.2
  have HM0 : Hid (∀ W, Below w.heap.size w W → Calls Tryd.prog 30 #[.slice A0 L0.length c0] W (NewEnd W (Trie.madeW L0))) := Lib.hid (fun W hW => law10_made W A0 c0 L0 ((HA.out.below hW).more hW.size) hs0 (HTb.out.next hW))
  have HM1 : Hid (∀ W, Below w.heap.size w W → Calls Tryd.prog 30 #[.slice A1 L1.length c1] W (NewEnd W (Trie.madeW L1))) := Lib.hid (fun W hW => law10_made W A1 c1 L1 ((HB.out.below hW).more hW.size) hs1 (HTb.out.next hW))
  have HC0 := Lib.hid (Trie.made_count L0)
  have HC1 := Lib.hid (Trie.made_count L1)
  clear hlo0 hlo1 hs0 hs1 HL0 HL1
  generalize Trie.madeW L0 = t at *
  generalize Trie.madeW L1 = s at *
  go_wp2_with fail
  refine (store_New _).mono ?_
  rintro e w4 ⟨g, b, rfl, hs4, hb4, hg4, hbb4⟩
  have HB4 := Lib.hid (HB3.out.nxt hb4)
  have HS4 := Lib.hid hs4
  have Hgb : Hid (w.heap.size ≤ g ∧ w.heap.size ≤ b) := Lib.hid ⟨Nat.le_trans HB3.out.size hg4, Nat.le_trans HB3.out.size hbb4⟩
  clear hs4 hb4 hg4 hbb4
  go_wp2_with fail
  refine (HM0.out _ HB4.out).mono ?_
  rintro e w5 ⟨v5, rfl, hk5, hb5⟩
  have HB5 := Lib.hid (HB4.out.nxt hb5)
  have HS5 := Lib.hid (HS4.out.next hb5)
  have HK5 := Lib.hid hk5
  clear hb5 hk5 HS4
  go_wp2_with fail
  refine (HM1.out _ HB5.out).mono ?_
  rintro e w6 ⟨v6, rfl, hk6, hb6⟩
  have HB6 := Lib.hid (HB5.out.nxt hb6)
  have HS6 := Lib.hid (HS5.out.next hb6)
  have HKt := Lib.hid (HK5.out.next hb6)
  have HKs := Lib.hid hk6
  obtain ⟨_, b6, x6, rfl, _⟩ := id hk6
  obtain ⟨_, b5, x5, rfl, _⟩ := id HKt.out
  clear hb6 hk6 HK5 HS5 HM0 HM1
  have H7t := Lib.hid (told_700m HC0.out.2 allW)
  have H7s := Lib.hid (told_700m HC1.out.2 allW)
  have HSv1 := Lib.hid (trie_Save w6 s _ HKs.out (by have := HC1.out.1; omega) (fun x hx => by have := H7s.out x hx; omega) g b [] HS6.out (HTb.out.next HB6.out))
  go_wp2_with fail
  refine HSv1.out.mono ?_
  rintro e w7 ⟨rfl, hs7, hg7⟩
  have HB7 : Hid (Below w.heap.size w w7) := Lib.hid (HB6.out.grown hg7 HB6.out.size (fun k e => by injection e with e; subst e; exact Hgb.out.2))
  have HK7t := Lib.hid (HKt.out.grown HS6.out.map hg7)
  have HK7s := Lib.hid (HKs.out.grown HS6.out.map hg7)
  have HSv2 := Lib.hid (trie_Save w7 t _ HK7t.out (by have := HC0.out.1; omega) (fun x hx => by have := H7t.out x hx; omega) g b _ hs7 (HTb.out.next HB7.out))
  have HS7 := Lib.hid hs7
  clear HKt HKs HS6 HSv1 hs7 hg7
  go_wp2_with fail
  refine HSv2.out.mono ?_
  rintro e w8 ⟨rfl, hs8, hg8⟩
  have HB8 : Hid (Below w.heap.size w w8) := Lib.hid (HB7.out.grown hg8 HB7.out.size (fun k e => by injection e with e; subst e; exact Hgb.out.2))
  have HK8t := Lib.hid (HK7t.out.grown HS7.out.map hg8)
  have HK8s := Lib.hid (HK7s.out.grown HS7.out.map hg8)
  have HS8 := Lib.hid hs8
  clear HK7t HK7s HS7 HSv2 hs8 hg8
  have hDt : ∀ k x, lookB (saveD (saveD [] (toldW allW s)) (toldW allW t)) k = some x → shaW (1 :: x) = k := saveD_true (saveD_true (fun k x h => by simp [lookB] at h))
  have hDm : ∀ x ∈ saveD (saveD [] (toldW allW s)) (toldW allW t), x.2 ∈ toldW allW t ++ toldW allW s := fun x hx => by
    rcases saveD_mem hx with h | h
    · rcases saveD_mem h with h | h
      · cases h
      · exact List.mem_append_right _ h
    · exact List.mem_append_left _ h
  have hdl : ∀ k x, lookB (saveD (saveD [] (toldW allW s)) (toldW allW t)) k = some x → x ∈ toldW allW t ++ toldW allW s := fun k x h => hDm _ (lookB_mem h)
  have HZ1 := load_back HC0.out.2 (by have := HC0.out.1; omega) hDt (fun x h => List.mem_append_left _ h) hdl (fun x h => saveD_has h)
  have HZ2 := load_back HC1.out.2 (by have := HC1.out.1; omega) hDt (fun x h => List.mem_append_right _ h) hdl (fun x h => by
    obtain ⟨y, hy⟩ := Option.isSome_iff_exists.1 (saveD_has (D := []) h)
    rw [saveD_old hy]; rfl)
  have H700 : Hid (∀ x ∈ toldW allW t ++ toldW allW s, x.length ≤ 900000) := Lib.hid (fun x hx => by
    rcases List.mem_append.1 hx with h | h
    · have := H7t.out x h; omega
    · have := H7s.out x h; omega)
  have hD9 : ∀ x ∈ saveD (saveD [] (toldW allW s)) (toldW allW t), x.2.length ≤ 900000 := fun x hx => H700.out _ (hDm x hx)
  have HTk : Hid (∀ W, Below w8.heap.size w8 W → Tbl W) := Lib.hid (fun W hW => HTb.out.next (HB8.out.nxt hW))
  have HLd := Lib.hid (fun r W (hW : Below w8.heap.size w8 W) => trie_Load W g b _ (HS8.out.next hW) hD9 hDt (HTk.out W hW) r)
  generalize saveD (saveD [] (toldW allW s)) (toldW allW t) = D at *
  clear hDt hDm hdl hD9 HS8 H7t H7s
  have HNt : Hid (∀ W, Below w8.heap.size w8 W → Calls Tryd.prog 17 #[.pointer (some ⟨b5, 0, none⟩)] W (TextsEnd W (toldW allW t))) := Lib.hid (fun W hW => trie_Nodes W t _ (HK8t.out.next hW) (by have := HC0.out.1; omega))
  have HNs : Hid (∀ W, Below w8.heap.size w8 W → Calls Tryd.prog 17 #[.pointer (some ⟨b6, 0, none⟩)] W (TextsEnd W (toldW allW s))) := Lib.hid (fun W hW => trie_Nodes W s _ (HK8s.out.next hW) (by have := HC1.out.1; omega))
  have HIt : Hid (∀ W, Below w8.heap.size w8 W → Calls Tryd.prog 27 #[.pointer (some ⟨b5, 0, none⟩)] W (ItemsEnd W (Trie.itemsW t))) := Lib.hid (fun W hW => trie_Items W t _ (HK8t.out.next hW) (by have := HC0.out.1; omega))
  have HIs : Hid (∀ W, Below w8.heap.size w8 W → Calls Tryd.prog 27 #[.pointer (some ⟨b6, 0, none⟩)] W (ItemsEnd W (Trie.itemsW s))) := Lib.hid (fun W hW => trie_Items W s _ (HK8s.out.next hW) (by have := HC1.out.1; omega))
  have HRt : Hid (∀ W, Below w8.heap.size w8 W → Calls Tryd.prog 25 #[.pointer (some ⟨b5, 0, none⟩)] W fun e w' => e = .returned (.string ⟨(Trie.sumT t).toArray⟩) ∧ W = w') := Lib.hid (fun W hW => trie_Root W t _ (HK8t.out.next hW))
  have HRs : Hid (∀ W, Below w8.heap.size w8 W → Calls Tryd.prog 25 #[.pointer (some ⟨b6, 0, none⟩)] W fun e w' => e = .returned (.string ⟨(Trie.sumT s).toArray⟩) ∧ W = w') := Lib.hid (fun W hW => trie_Root W s _ (HK8s.out.next hW))
  have HTl : Hid ((toldW allW t).length ≤ 100000 ∧ (toldW allW s).length ≤ 100000) := Lib.hid ⟨Trie.told_len HC0.out.2 HC0.out.1, Trie.told_len HC1.out.2 HC1.out.1⟩
  have HIl : Hid ((Trie.itemsW t).length ≤ 30 ∧ (Trie.itemsW s).length ≤ 30) := Lib.hid ⟨by rw [Trie.itemsW_length]; exact HC0.out.1, by rw [Trie.itemsW_length]; exact HC1.out.1⟩
  obtain ⟨rt, hrt⟩ : ∃ r, loadR D (Trie.sumT t) = r := ⟨_, rfl⟩
  obtain ⟨rs, hrs⟩ : ∃ r, loadR D (Trie.sumT s) = r := ⟨_, rfl⟩
  obtain ⟨T, et⟩ := rt
  obtain ⟨U, es⟩ := rs
  have HZ : Hid (unlikeW (toldW allW t ++ toldW allW s) = true ∨ (et = 0 ∧ es = 0 ∧ T = t ∧ U = s)) := Lib.hid (by
    rcases HZ1 with h | h
    · exact .inl h
    · rcases HZ2 with h2 | h2
      · exact .inl h2
      · rw [hrt] at h
        rw [hrs] at h2
        injection h with a1 a2
        injection h2 with a3 a4
        exact .inr ⟨a2, a4, a1, a3⟩)
  have HLt := Lib.hid (HLd.out (Trie.sumT t))
  have HLs := Lib.hid (HLd.out (Trie.sumT s))
  rw [hrt] at HLt
  rw [hrs] at HLs
  clear HZ1 HZ2 HLd hrt hrs HK8t HK8s HC0 HC1 HTk
  generalize hlt : toldW allW t = lt at *
  generalize hls : toldW allW s = ls at *
  generalize hit : Trie.itemsW t = jt at *
  generalize his : Trie.itemsW s = js at *
  generalize Trie.sumT t = st at *
  generalize Trie.sumT s = ss at *
  have HEq : Hid (toldW allW t = lt ∧ toldW allW s = ls ∧ Trie.itemsW t = jt ∧ Trie.itemsW s = js) := Lib.hid ⟨hlt, hls, hit, his⟩
  clear hlt hls hit his
  have e1 : (st == st) = true := by simp
  have e2 : (ss == ss) = true := by simp
  go_wp2_with fail
  refine (HLt.out _ (Below.refl _ _)).mono ?_
  rintro e w9 ⟨v9, rfl, hb9, hk9⟩
  have C9 := Lib.hid hb9
  have K9 := Lib.hid hk9
  clear hb9 hk9
  go_wp2_with fail
  refine (HLs.out _ C9.out).mono ?_
  rintro e w10 ⟨v10, rfl, hb10, hk10⟩
  have C10 := Lib.hid (C9.out.nxt hb10)
  have K10 := Lib.hid hk10
  have K9' : Hid (et = 0 → TrieP w10 T v9 ∧ Trie.count T ≤ 1024) := Lib.hid (fun h => ⟨(K9.out h).1.next hb10, (K9.out h).2⟩)
  clear hb10 hk10 K9
  simp only at K10 K9'
  go_wp2_with fail
  refine (HRs.out _ C10.out).mono ?_
  rintro e w11 ⟨rfl, rfl⟩
  go_wp2_with fail
  refine (HRt.out _ C10.out).mono ?_
  rintro e w11 ⟨rfl, rfl⟩
  by_cases het : et = 0
  rotate_left
  · have hun : Hid (unlikeW (lt ++ ls) = true) := Lib.hid (HZ.out.resolve_right (fun h => het h.1))
    have hI : ((et : Int) == 0) = false := by simp; exact het
    have CC := C10
    clear het HZ K10 K9'
    go_wp2_with fail
    refine (HNt.out _ CC.out).mono ?_
    rintro e wa ⟨Aa, na, ka, rfl, hna, owna, hba⟩
    obtain rfl := hna
    have Oa := Lib.hid owna
    have Ca := Lib.hid (CC.out.nxt hba)
    have Hbs := Lib.hid hba.size
    clear hba owna
    go_wp2_with fail
    refine (HNs.out _ Ca.out).mono ?_
    rintro e wb ⟨Ab, nb, kb, rfl, hnb, ownb, hbb⟩
    obtain rfl := hnb
    have Cb := Lib.hid (Ca.out.nxt hbb)
    have Ob := Lib.hid (own_below Oa.out hbb)
    have Rb := Lib.hid (Reads.of_own ownb)
    have htl := HTl.out.1
    have hnl := HTl.out.2
    have hbs := Nat.le_trans Hbs.out hbb.size
    clear hbb ownb
    obtain ⟨i0, hi0, hz0, hz1, hz2⟩ := info_parts info_str
    go_wp2_with (at_builtin; refine wpList_append_any wb rfl _ _ 36 rfl w10.heap.size 9 i0 _ 1 16 Tryd.underlying36 hi0 hz0 hz1 hz2 rfl (by decide) (.slice Aa lt.length ka) lt.length (strv lt) rfl Ob.out wb.heap.size Ab ls.length kb (strv ls) rfl Rb.out (strv_one _) (by simp only [maxLen]; omega) (by omega) hbs ?_; intro v6 w6 own6 hg6 _; obtain ⟨A6, c6, rfl, _, _, _⟩ := own_form own6; have O6 := Lib.hid (And.intro own6 hg6); clear own6 hg6)
    have C6 : Hid (Below w8.heap.size w8 w6) := Lib.hid (Cb.out.grown O6.out.2 Cb.out.size (fun k hk => Nat.le_trans CC.out.size (Ob.out.lt k hk).1))
    have R6 : Hid (Reads w6 w6.heap.size 1 A6 (lt ++ ls).length (strv (lt ++ ls))) := Lib.hid (by
      have := Reads.of_own O6.out.1
      rw [List.length_append]
      unfold strv at this ⊢
      rwa [List.map_append])
    have HU := Lib.hid (ref04_Unlike w6 (lt ++ ls) A6 c6 R6.out (by rw [List.length_append]; omega) H700.out)
    rw [hun.out, List.length_append] at HU
    clear htl hnl
    go_wp2_with fail
    refine HU.out.mono ?_
    rintro e w7 ⟨rfl, hb7⟩
    go_wp2_with fail
    exact HP.out _ (HB8.out.nxt (C6.out.nxt hb7))
  by_cases hes : es = 0
  rotate_left
  · have hun : Hid (unlikeW (lt ++ ls) = true) := Lib.hid (HZ.out.resolve_right (fun h => hes h.2.1))
    subst het
    have hI : ((es : Int) == 0) = false := by simp; exact hes
    have CC := C10
    clear hes HZ K10 K9'
    go_wp2_with fail
    refine (HNt.out _ CC.out).mono ?_
    rintro e wa ⟨Aa, na, ka, rfl, hna, owna, hba⟩
    obtain rfl := hna
    have Oa := Lib.hid owna
    have Ca := Lib.hid (CC.out.nxt hba)
    have Hbs := Lib.hid hba.size
    clear hba owna
    go_wp2_with fail
    refine (HNs.out _ Ca.out).mono ?_
    rintro e wb ⟨Ab, nb, kb, rfl, hnb, ownb, hbb⟩
    obtain rfl := hnb
    have Cb := Lib.hid (Ca.out.nxt hbb)
    have Ob := Lib.hid (own_below Oa.out hbb)
    have Rb := Lib.hid (Reads.of_own ownb)
    have htl := HTl.out.1
    have hnl := HTl.out.2
    have hbs := Nat.le_trans Hbs.out hbb.size
    clear hbb ownb
    obtain ⟨i0, hi0, hz0, hz1, hz2⟩ := info_parts info_str
    go_wp2_with (at_builtin; refine wpList_append_any wb rfl _ _ 36 rfl w10.heap.size 9 i0 _ 1 16 Tryd.underlying36 hi0 hz0 hz1 hz2 rfl (by decide) (.slice Aa lt.length ka) lt.length (strv lt) rfl Ob.out wb.heap.size Ab ls.length kb (strv ls) rfl Rb.out (strv_one _) (by simp only [maxLen]; omega) (by omega) hbs ?_; intro v6 w6 own6 hg6 _; obtain ⟨A6, c6, rfl, _, _, _⟩ := own_form own6; have O6 := Lib.hid (And.intro own6 hg6); clear own6 hg6)
    have C6 : Hid (Below w8.heap.size w8 w6) := Lib.hid (Cb.out.grown O6.out.2 Cb.out.size (fun k hk => Nat.le_trans CC.out.size (Ob.out.lt k hk).1))
    have R6 : Hid (Reads w6 w6.heap.size 1 A6 (lt ++ ls).length (strv (lt ++ ls))) := Lib.hid (by
      have := Reads.of_own O6.out.1
      rw [List.length_append]
      unfold strv at this ⊢
      rwa [List.map_append])
    have HU := Lib.hid (ref04_Unlike w6 (lt ++ ls) A6 c6 R6.out (by rw [List.length_append]; omega) H700.out)
    rw [hun.out, List.length_append] at HU
    clear htl hnl
    go_wp2_with fail
    refine HU.out.mono ?_
    rintro e w7 ⟨rfl, hb7⟩
    go_wp2_with fail
    exact HP.out _ (HB8.out.nxt (C6.out.nxt hb7))
  subst het
  subst hes
  obtain ⟨hkT, hcT⟩ := K9'.out rfl
  obtain ⟨hkU, hcU⟩ := K10.out rfl
  have HnT : Hid ((Trie.itemsW T).length ≤ 1024 ∧ (Trie.itemsW U).length ≤ 1024 ∧ (toldW allW T).length ≤ 100000) := Lib.hid ⟨by rw [Trie.itemsW_length]; exact hcT, by rw [Trie.itemsW_length]; exact hcU, by
    rw [toldW, textsD, List.length_map]
    exact Trie.goT_short hkT.1.wf (by omega) _ _⟩
  have HIT := Lib.hid (fun W (hW : Below w10.heap.size w10 W) => trie_Items W T _ (hkT.next hW) (by omega))
  have HIU := Lib.hid (fun W (hW : Below w10.heap.size w10 W) => trie_Items W U _ (hkU.next hW) (by omega))
  have HNT := Lib.hid (fun W (hW : Below w10.heap.size w10 W) => trie_Nodes W T _ (hkT.next hW) (by omega))
  clear K9' K10 hkT hkU hcT hcU
  have HQ1 : Hid (unlikeW (lt ++ ls) = true ∨ (Trie.itemsW T = jt ∧ toldW allW T = lt ∧ Trie.itemsW U = js)) := Lib.hid (by
    rcases HZ.out with h | ⟨_, _, h1, h2⟩
    · exact .inl h
    · exact .inr ⟨by rw [h1]; exact HEq.out.2.2.1, by rw [h1]; exact HEq.out.1, by rw [h2]; exact HEq.out.2.2.2⟩)
  clear HZ HEq
  generalize Trie.itemsW T = jT at *
  generalize Trie.itemsW U = jU at *
  generalize toldW allW T = lT at *
  go_wp2_with fail
  refine (HIT.out _ (Below.refl _ _)).mono ?_
  rintro e w12 ⟨A12, n12, c12, rfl, hn12, own12, hb12⟩
  obtain rfl := hn12
  have E12 := Lib.hid hb12
  have C12 := Lib.hid (C10.out.nxt hb12)
  have R12 := Lib.hid (Reads.of_own own12)
  clear hb12 own12
  go_wp2_with fail
  refine (HIt.out _ C12.out).mono ?_
  rintro e w13 ⟨A13, n13, c13, rfl, hn13, own13, hb13⟩
  obtain rfl := hn13
  have E13 := Lib.hid (E12.out.nxt hb13)
  have C13 := Lib.hid (C12.out.nxt hb13)
  have R12b := Lib.hid ((R12.out.below hb13).more hb13.size)
  have R13 := Lib.hid (Reads.of_own own13)
  clear hb13 own13
  go_wp2_with fail
  refine (book_SameItems A12 A13 _ _ _ _ _ _ _ R12b.out R13.out (by have := HnT.out.1; omega) (by have := HIl.out.1; omega)).mono ?_
  rintro e w14 ⟨rfl, hb14⟩
  have E14 := Lib.hid (E13.out.nxt hb14)
  have C14 := Lib.hid (C13.out.nxt hb14)
  clear hb14 R12 R12b R13
  cases hd1 : decide (jT = jt) with
  | false =>
    have hun : Hid (unlikeW (lt ++ ls) = true) := Lib.hid (HQ1.out.resolve_right (fun h => of_decide_eq_false hd1 h.1))
    have CC := C14
    clear hd1 HQ1
    go_wp2_with fail
    refine (HNt.out _ CC.out).mono ?_
    rintro e wa ⟨Aa, na, ka, rfl, hna, owna, hba⟩
    obtain rfl := hna
    have Oa := Lib.hid owna
    have Ca := Lib.hid (CC.out.nxt hba)
    have Hbs := Lib.hid hba.size
    clear hba owna
    go_wp2_with fail
    refine (HNs.out _ Ca.out).mono ?_
    rintro e wb ⟨Ab, nb, kb, rfl, hnb, ownb, hbb⟩
    obtain rfl := hnb
    have Cb := Lib.hid (Ca.out.nxt hbb)
    have Ob := Lib.hid (own_below Oa.out hbb)
    have Rb := Lib.hid (Reads.of_own ownb)
    have htl := HTl.out.1
    have hnl := HTl.out.2
    have hbs := Nat.le_trans Hbs.out hbb.size
    clear hbb ownb
    obtain ⟨i0, hi0, hz0, hz1, hz2⟩ := info_parts info_str
    go_wp2_with (at_builtin; refine wpList_append_any wb rfl _ _ 36 rfl w14.heap.size 9 i0 _ 1 16 Tryd.underlying36 hi0 hz0 hz1 hz2 rfl (by decide) (.slice Aa lt.length ka) lt.length (strv lt) rfl Ob.out wb.heap.size Ab ls.length kb (strv ls) rfl Rb.out (strv_one _) (by simp only [maxLen]; omega) (by omega) hbs ?_; intro v6 w6 own6 hg6 _; obtain ⟨A6, c6, rfl, _, _, _⟩ := own_form own6; have O6 := Lib.hid (And.intro own6 hg6); clear own6 hg6)
    have C6 : Hid (Below w8.heap.size w8 w6) := Lib.hid (Cb.out.grown O6.out.2 Cb.out.size (fun k hk => Nat.le_trans CC.out.size (Ob.out.lt k hk).1))
    have R6 : Hid (Reads w6 w6.heap.size 1 A6 (lt ++ ls).length (strv (lt ++ ls))) := Lib.hid (by
      have := Reads.of_own O6.out.1
      rw [List.length_append]
      unfold strv at this ⊢
      rwa [List.map_append])
    have HU := Lib.hid (ref04_Unlike w6 (lt ++ ls) A6 c6 R6.out (by rw [List.length_append]; omega) H700.out)
    rw [hun.out, List.length_append] at HU
    clear htl hnl
    go_wp2_with fail
    refine HU.out.mono ?_
    rintro e w7 ⟨rfl, hb7⟩
    go_wp2_with fail
    exact HP.out _ (HB8.out.nxt (C6.out.nxt hb7))
  | true =>
  clear hd1
  go_wp2_with fail
  refine (HNT.out _ E14.out).mono ?_
  rintro e w15 ⟨A15, n15, c15, rfl, hn15, own15, hb15⟩
  obtain rfl := hn15
  have E15 := Lib.hid (E14.out.nxt hb15)
  have C15 := Lib.hid (C14.out.nxt hb15)
  have R15 := Lib.hid (Reads.of_own own15)
  clear hb15 own15
  go_wp2_with fail
  refine (HNt.out _ C15.out).mono ?_
  rintro e w16 ⟨A16, n16, c16, rfl, hn16, own16, hb16⟩
  obtain rfl := hn16
  have E16 := Lib.hid (E15.out.nxt hb16)
  have C16 := Lib.hid (C15.out.nxt hb16)
  have R15b := Lib.hid ((R15.out.below hb16).more hb16.size)
  have R16 := Lib.hid (Reads.of_own own16)
  clear hb16 own16
  go_wp2_with fail
  refine (book_SameTexts A15 A16 _ _ _ _ _ _ _ R15b.out R16.out (by have := HnT.out.2.2; omega) (by have := HTl.out.1; omega)).mono ?_
  rintro e w17 ⟨rfl, hb17⟩
  have E17 := Lib.hid (E16.out.nxt hb17)
  have C17 := Lib.hid (C16.out.nxt hb17)
  clear hb17 R15 R15b R16
  cases hd2 : decide (lT = lt) with
  | false =>
    have hun : Hid (unlikeW (lt ++ ls) = true) := Lib.hid (HQ1.out.resolve_right (fun h => of_decide_eq_false hd2 h.2.1))
    have CC := C17
    clear hd2 HQ1
    go_wp2_with fail
    refine (HNt.out _ CC.out).mono ?_
    rintro e wa ⟨Aa, na, ka, rfl, hna, owna, hba⟩
    obtain rfl := hna
    have Oa := Lib.hid owna
    have Ca := Lib.hid (CC.out.nxt hba)
    have Hbs := Lib.hid hba.size
    clear hba owna
    go_wp2_with fail
    refine (HNs.out _ Ca.out).mono ?_
    rintro e wb ⟨Ab, nb, kb, rfl, hnb, ownb, hbb⟩
    obtain rfl := hnb
    have Cb := Lib.hid (Ca.out.nxt hbb)
    have Ob := Lib.hid (own_below Oa.out hbb)
    have Rb := Lib.hid (Reads.of_own ownb)
    have htl := HTl.out.1
    have hnl := HTl.out.2
    have hbs := Nat.le_trans Hbs.out hbb.size
    clear hbb ownb
    obtain ⟨i0, hi0, hz0, hz1, hz2⟩ := info_parts info_str
    go_wp2_with (at_builtin; refine wpList_append_any wb rfl _ _ 36 rfl w17.heap.size 9 i0 _ 1 16 Tryd.underlying36 hi0 hz0 hz1 hz2 rfl (by decide) (.slice Aa lt.length ka) lt.length (strv lt) rfl Ob.out wb.heap.size Ab ls.length kb (strv ls) rfl Rb.out (strv_one _) (by simp only [maxLen]; omega) (by omega) hbs ?_; intro v6 w6 own6 hg6 _; obtain ⟨A6, c6, rfl, _, _, _⟩ := own_form own6; have O6 := Lib.hid (And.intro own6 hg6); clear own6 hg6)
    have C6 : Hid (Below w8.heap.size w8 w6) := Lib.hid (Cb.out.grown O6.out.2 Cb.out.size (fun k hk => Nat.le_trans CC.out.size (Ob.out.lt k hk).1))
    have R6 : Hid (Reads w6 w6.heap.size 1 A6 (lt ++ ls).length (strv (lt ++ ls))) := Lib.hid (by
      have := Reads.of_own O6.out.1
      rw [List.length_append]
      unfold strv at this ⊢
      rwa [List.map_append])
    have HU := Lib.hid (ref04_Unlike w6 (lt ++ ls) A6 c6 R6.out (by rw [List.length_append]; omega) H700.out)
    rw [hun.out, List.length_append] at HU
    clear htl hnl
    go_wp2_with fail
    refine HU.out.mono ?_
    rintro e w7 ⟨rfl, hb7⟩
    go_wp2_with fail
    exact HP.out _ (HB8.out.nxt (C6.out.nxt hb7))
  | true =>
  clear hd2
  go_wp2_with fail
  refine (HIU.out _ E17.out).mono ?_
  rintro e w18 ⟨A18, n18, c18, rfl, hn18, own18, hb18⟩
  obtain rfl := hn18
  have C18 := Lib.hid (C17.out.nxt hb18)
  have R18 := Lib.hid (Reads.of_own own18)
  clear hb18 own18
  go_wp2_with fail
  refine (HIs.out _ C18.out).mono ?_
  rintro e w19 ⟨A19, n19, c19, rfl, hn19, own19, hb19⟩
  obtain rfl := hn19
  have C19 := Lib.hid (C18.out.nxt hb19)
  have R18b := Lib.hid ((R18.out.below hb19).more hb19.size)
  have R19 := Lib.hid (Reads.of_own own19)
  clear hb19 own19
  go_wp2_with fail
  refine (book_SameItems A18 A19 _ _ _ _ _ _ _ R18b.out R19.out (by have := HnT.out.2.1; omega) (by have := HIl.out.2; omega)).mono ?_
  rintro e w20 ⟨rfl, hb20⟩
  have C20 := Lib.hid (C19.out.nxt hb20)
  clear hb20 R18 R18b R19
  cases hd3 : decide (jU = js) with
  | false =>
    have hun : Hid (unlikeW (lt ++ ls) = true) := Lib.hid (HQ1.out.resolve_right (fun h => of_decide_eq_false hd3 h.2.2))
    have CC := C20
    clear hd3 HQ1
    go_wp2_with fail
    refine (HNt.out _ CC.out).mono ?_
    rintro e wa ⟨Aa, na, ka, rfl, hna, owna, hba⟩
    obtain rfl := hna
    have Oa := Lib.hid owna
    have Ca := Lib.hid (CC.out.nxt hba)
    have Hbs := Lib.hid hba.size
    clear hba owna
    go_wp2_with fail
    refine (HNs.out _ Ca.out).mono ?_
    rintro e wb ⟨Ab, nb, kb, rfl, hnb, ownb, hbb⟩
    obtain rfl := hnb
    have Cb := Lib.hid (Ca.out.nxt hbb)
    have Ob := Lib.hid (own_below Oa.out hbb)
    have Rb := Lib.hid (Reads.of_own ownb)
    have htl := HTl.out.1
    have hnl := HTl.out.2
    have hbs := Nat.le_trans Hbs.out hbb.size
    clear hbb ownb
    obtain ⟨i0, hi0, hz0, hz1, hz2⟩ := info_parts info_str
    go_wp2_with (at_builtin; refine wpList_append_any wb rfl _ _ 36 rfl w20.heap.size 9 i0 _ 1 16 Tryd.underlying36 hi0 hz0 hz1 hz2 rfl (by decide) (.slice Aa lt.length ka) lt.length (strv lt) rfl Ob.out wb.heap.size Ab ls.length kb (strv ls) rfl Rb.out (strv_one _) (by simp only [maxLen]; omega) (by omega) hbs ?_; intro v6 w6 own6 hg6 _; obtain ⟨A6, c6, rfl, _, _, _⟩ := own_form own6; have O6 := Lib.hid (And.intro own6 hg6); clear own6 hg6)
    have C6 : Hid (Below w8.heap.size w8 w6) := Lib.hid (Cb.out.grown O6.out.2 Cb.out.size (fun k hk => Nat.le_trans CC.out.size (Ob.out.lt k hk).1))
    have R6 : Hid (Reads w6 w6.heap.size 1 A6 (lt ++ ls).length (strv (lt ++ ls))) := Lib.hid (by
      have := Reads.of_own O6.out.1
      rw [List.length_append]
      unfold strv at this ⊢
      rwa [List.map_append])
    have HU := Lib.hid (ref04_Unlike w6 (lt ++ ls) A6 c6 R6.out (by rw [List.length_append]; omega) H700.out)
    rw [hun.out, List.length_append] at HU
    clear htl hnl
    go_wp2_with fail
    refine HU.out.mono ?_
    rintro e w7 ⟨rfl, hb7⟩
    go_wp2_with fail
    exact HP.out _ (HB8.out.nxt (C6.out.nxt hb7))
  | true =>
  clear hd3
  go_wp2_with fail
  exact HP.out _ (HB8.out.nxt C20.out)
end Go.Proofs.YtefcmigbdfeaiaaDoor

namespace Go.Proofs.YtefcmigbdfeaiaaDoor
set_option linter.unusedVariables false
open Go.RowKit Go.Instr Go.ChangeShapes Go.WideShapes Go.Deep
theorem open_acts {H : Type} {enc : TypeId × Value → H} {W : World} {fuel : Nat} {A : Option Addr} {n c : Nat} {x : DataW H × List MemPlace}
    (h : DataW.trod enc Tryd.prog W 0 (fun _ => true) true fuel 49 [.slice A n c] = some x) :
    ∃ L : List Act10, L.length = n ∧ Reads W W.heap.size 3 A n (acts L) ∧ n ≤ maxLen := by
  rcases open_slice_fields Tryd.underlying49 Tryd.underlying105 (by kernel_rfl) (by kernel_rfl) h with ⟨e, _⟩ | ⟨a, len, cap, m, D, Pl, e, hb, hl, hcap, hm, _, hi⟩
  · injection e with e _
    injection e with e1 e2 e3
    subst e1
    subst e2
    exact ⟨[], rfl, Reads.none_, by simp only [maxLen]; omega⟩
  · injection e with e _
    injection e with e1 e2 e3
    subst e1
    subst e2
    have hmn : n ≤ m := by rw [hm]; simp only [if_true]; omega
    have each : ∀ i, i < n → ∃ s : Act10, ∀ j u, (actv s)[j]? = some u → W.cell? (a.add (i * 3 + j)) = some u := fun i hin => by
      obtain ⟨ys, k, _, _, hyl, hf⟩ := hi i (by omega)
      obtain ⟨v0, y0, c0, _, t0⟩ := hf 0 _ rfl
      obtain ⟨v1, y1, c1, _, t1⟩ := hf 1 _ rfl
      obtain ⟨v2, y2, c2, _, t2⟩ := hf 2 _ rfl
      obtain ⟨s0, e0, _⟩ := DataW.trod_int Tryd.underlying3 t0
      obtain ⟨s1, e1, _⟩ := DataW.trod_string Tryd.underlying9 t1
      obtain ⟨s2, e2, _⟩ := DataW.trod_string Tryd.underlying9 t2
      injection e0 with e0; injection e1 with e1; injection e2 with e2
      subst e0; subst e1; subst e2
      refine ⟨⟨s0, s1.data.toList, s2.data.toList⟩, fun j u hu => ?_⟩
      match j, hu with
      | 0, hu => injection hu with hu; subst hu; exact c0
      | 1, hu => injection hu with hu; subst hu; exact c1
      | 2, hu => injection hu with hu; subst hu; exact c2
    have := list_of (fun i s => ∀ j u, (actv s)[j]? = some u → W.cell? (a.add (i * 3 + j)) = some u) n each
    obtain ⟨L, hL, hc⟩ := this
    have hcell : ∀ j u, (acts L)[j]? = some u → W.cell? (a.add j) = some u := fun j u hu => by
      have hj : j < L.length * 3 := by have := (List.getElem?_eq_some_iff.1 hu).1; rwa [acts_length] at this
      have hx : L[j / 3]? = some (L[j / 3]'(by omega)) := List.getElem?_eq_getElem (by omega)
      have h4 := acts_at L (j / 3) (j % 3) _ hx (by omega)
      rw [show j / 3 * 3 + j % 3 = j by omega] at h4
      have := hc (j / 3) _ hx (j % 3) u (by rw [← h4, hu])
      rwa [show j / 3 * 3 + j % 3 = j by omega] at this
    refine ⟨L, hL, ⟨by rw [acts_length, hL], fun hn => ⟨a, rfl, ?_, hcell⟩⟩, by omega⟩
    have h0 : (acts L)[0]? = some ((acts L)[0]'(by rw [acts_length]; omega)) := List.getElem?_eq_getElem (by rw [acts_length]; omega)
    have := hcell 0 _ h0
    have := World.block_lt_of_cell? _ _ this
    rwa [block_of_add] at this
end Go.Proofs.YtefcmigbdfeaiaaDoor
