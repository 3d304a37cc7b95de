import Derived.Test.YtefcmigbdfeaiaaDoorJ16
import Derived.Test.YtefcmigbdfeaiaaDoorJ29
import Derived.Test.YtefcmigbdfeaiaaDoorJ31
import Derived.Deep.Slices
import Derived.Deep.Fields
import Derived.ChangeSame
set_option linter.unusedSimpArgs false
set_option linter.unusedVariables false
namespace Go.Proofs.YtefcmigbdfeaiaaDoor
set_option linter.unusedVariables false
open Nib
def stepW (n : Nd) (left : List UInt8) : List UInt8 × List UInt8 :=
  if common n.2.1 left ≠ n.2.1.length then ([], [])
  else if n.1 = 2 then (n.2.2.2.getD 0 [], left.drop n.2.1.length)
  else if n.1 = 1 ∧ n.2.1.length < left.length then ([], [])
  else if n.1 = 1 ∨ left = [] then ([], n.2.2.1)
  else if n.2.2.2.getD (left.headD 0).toNat [] = [] then ([], [])
  else (n.2.2.2.getD (left.headD 0).toNat [], left.tail)
def followW : List UInt8 → List UInt8 → List (List UInt8) → Nat → List UInt8 × Nat × Bool
  | _, _, [], k => ([], k, false)
  | sought, left, x :: r, k =>
    if shaW (1 :: x) ≠ sought ∨ (decN x).2 ≠ 0 then ([], k, false)
    else if (stepW (decN x).1 left).1 = [] then ((stepW (decN x).1 left).2, k + 1, true)
    else followW (stepW (decN x).1 left).1 (stepW (decN x).1 left).2 r (k + 1)
def verifyW (root key : List UInt8) (nodes : List (List UInt8)) : List UInt8 × Bool × Nat :=
  if Trie.keyedW key = false then ([], false, 1)
  else if root = [] then (if nodes = [] then ([], false, 0) else ([], false, 130))
  else if (followW root (Nib.of key) nodes 0).2.2 = true ∧ (followW root (Nib.of key) nodes 0).2.1 = nodes.length then ((followW root (Nib.of key) nodes 0).1, decide ((followW root (Nib.of key) nodes 0).1 ≠ []), 0)
  else ([], false, 130)
theorem followW_cons (s left x : List UInt8) (r : List (List UInt8)) (k : Nat) : followW s left (x :: r) k = if shaW (1 :: x) ≠ s ∨ (decN x).2 ≠ 0 then ([], k, false)
    else if (stepW (decN x).1 left).1 = [] then ((stepW (decN x).1 left).2, k + 1, true)
    else followW (stepW (decN x).1 left).1 (stepW (decN x).1 left).2 r (k + 1) := rfl
theorem followW_le : ∀ (r : List (List UInt8)) (s l : List UInt8) (k : Nat), (followW s l r k).2.1 ≤ k + r.length
  | [], _, _, _ => by simp [followW]
  | x :: r, s, l, k => by
    rw [followW_cons]
    split
    · show k ≤ _
      omega
    · split
      · show k + 1 ≤ _
        simp
      · have := followW_le r (stepW (decN x).1 l).1 (stepW (decN x).1 l).2 (k + 1)
        rw [List.length_cons]; omega
theorem headD_ix {a : UInt8} (h : a ≤ 15) : a.toNat = (Trie.ix a).val := by
  have : a.toNat ≤ 15 := by rw [UInt8.le_iff_toNat_le] at h; exact h
  unfold Trie.ix
  simp
  omega
namespace Trie
def nd (t : T) : Nd := (kindT t, pathT t, valT t, sumsT t)
theorem decN_text {t : T} (hn : t ≠ .nil) (hw : wf t) (hs : small t) : decN (textT t) = (nd t, 0) :=
  decN_of (nd t) (sumsT_length t) (fineT hn hw hs)
theorem sum_text {t : T} (hn : t ≠ .nil) : shaW (1 :: textT t) = sumT t := (sumT_eq hn).symm
def trailT : T → List UInt8 → List T
  | .nil, _ => []
  | .leaf p v, _ => [.leaf p v]
  | .ext p t, q => .ext p t :: if common p q = p.length then trailT t (q.drop p.length) else []
  | .branch v kids, q => .branch v kids :: match q with
    | [] => []
    | b :: r => trailT (kids (ix b)) r
theorem step_leaf (p v q : List UInt8) : stepW (nd (.leaf p v)) q = ([], look (.leaf p v) q) := by
  unfold stepW nd
  simp only [pathT, kindT, valT, look]
  by_cases h : common p q = p.length
  · rw [if_neg (by simpa using h), if_neg (by decide)]
    have hq := prefix_common.1 h
    have hle := (common_le p q).2
    by_cases hl : p.length < q.length
    · rw [if_pos ⟨trivial, hl⟩, if_neg (fun e => by rw [e] at hl; omega)]
    · rw [if_neg (fun e => hl e.2), if_pos (.inl trivial), if_pos]
      rw [hq, List.drop_of_length_le (by omega), List.append_nil]
  · rw [if_pos h, if_neg (fun e => h (by subst e; have := (common_take q q q.length).2 ⟨Nat.le_refl _, Nat.le_refl _, rfl⟩; have := (common_le q q).1; omega))]
theorem step_ext (p q : List UInt8) (t : T) : stepW (nd (.ext p t)) q = if common p q = p.length then (sumT t, q.drop p.length) else ([], []) := by
  unfold stepW nd
  simp only [pathT, kindT, valT]
  by_cases h : common p q = p.length
  · rw [if_neg (by simpa using h), if_pos trivial, if_pos h]
    rfl
  · rw [if_pos h, if_neg h]
theorem step_end (v : List UInt8) (kids : Fin 16 → T) : stepW (nd (.branch v kids)) [] = ([], v) := by
  unfold stepW nd
  simp only [pathT, kindT, valT]
  rfl
theorem common_nil (q : List UInt8) : common [] q = 0 := by cases q <;> rfl
theorem stepW_branch (v : List UInt8) (K : List (List UInt8)) (b : UInt8) (r : List UInt8) : stepW (3, [], v, K) (b :: r) = if K.getD b.toNat [] = [] then ([], []) else (K.getD b.toNat [], r) := by
  unfold stepW
  simp [common_nil]
theorem step_branch (v : List UInt8) (kids : Fin 16 → T) (b : UInt8) (r : List UInt8) (hb : b ≤ 15) : stepW (nd (.branch v kids)) (b :: r) = if sumT (kids (ix b)) = [] then ([], []) else (sumT (kids (ix b)), r) := by
  have e : (sumsT (.branch v kids)).getD b.toNat [] = sumT (kids (ix b)) := by
    rw [headD_ix hb, sumsT_at]
    rfl
  show stepW (3, [], v, sumsT (.branch v kids)) (b :: r) = _
  rw [stepW_branch]
  simp only [e]
theorem sumT_empty {t : T} : sumT t = [] ↔ t = .nil := by
  constructor
  · intro h
    refine Classical.byContradiction fun hn => ?_
    have := sumT_len hn
    rw [h] at this
    cases this
  · intro h; subst h; rfl
theorem follow_trail (t : T) : ∀ (q : List UInt8) (k : Nat), t ≠ .nil → wf t → small t → fit q = true → followW (sumT t) q ((trailT t q).map textT) k = (look t q, k + (trailT t q).length, true) := by
  induction t with
  | nil => intro q k h; exact absurd rfl h
  | leaf p v =>
    intro q k hn hw hs hq
    simp only [trailT, List.map_cons, List.map_nil, List.length_singleton]
    rw [followW_cons, decN_text hn hw hs, sum_text hn, if_neg (by simp), step_leaf, if_pos rfl]
  | ext p t ih =>
    intro q k hn hw hs hq
    have hnt : t ≠ .nil := fun e => by have := hw.2.2.1; rw [e] at this; cases this
    simp only [trailT, List.map_cons, List.length_cons]
    rw [followW_cons, decN_text hn hw hs, sum_text hn, if_neg (by simp), step_ext]
    simp only [look]
    by_cases hc : common p q = p.length
    · rw [if_pos hc, if_pos hc, if_pos hc, if_neg (fun e => hnt (sumT_empty.1 e)), ih _ _ hnt hw.2.2.2 (small_ext hw.1 hs) (fit_drop _ hq)]
      simp only [Prod.mk.injEq, true_and, and_true]
      omega
    · rw [if_neg hc, if_neg hc, if_neg hc, if_pos rfl]
      rfl
  | branch v kids ih =>
    intro q k hn hw hs hq
    cases q with
    | nil =>
      simp only [trailT, List.map_cons, List.map_nil, List.length_singleton]
      rw [followW_cons, decN_text hn hw hs, sum_text hn, if_neg (by simp), step_end, if_pos rfl]
      rfl
    | cons b r =>
      obtain ⟨hb, hr⟩ := fit_cons hq
      simp only [trailT, List.map_cons, List.length_cons]
      rw [followW_cons, decN_text hn hw hs, sum_text hn, if_neg (by simp), step_branch _ _ _ _ hb]
      simp only [look]
      by_cases he : kids (ix b) = .nil
      · rw [if_pos (sumT_empty.2 he), if_pos rfl, he]
        rfl
      · rw [if_neg (fun e => he (sumT_empty.1 e)), if_neg (fun e => he (sumT_empty.1 e)), ih _ _ _ he (hw.1 _) (small_kid hs _) hr]
        simp only [Prod.mk.injEq, true_and, and_true]
        omega
theorem follow_cut (t : T) : ∀ (q : List UInt8) (k n : Nat), t ≠ .nil → wf t → small t → fit q = true → n < (trailT t q).length → (followW (sumT t) q (((trailT t q).map textT).take n) k).2.2 = false := by
  induction t with
  | nil => intro q k n h; exact absurd rfl h
  | leaf p v =>
    intro q k n hn hw hs hq hl
    simp only [trailT, List.length_singleton] at hl
    obtain rfl : n = 0 := by omega
    rfl
  | ext p t ih =>
    intro q k n hn hw hs hq hl
    have hnt : t ≠ .nil := fun e => by have := hw.2.2.1; rw [e] at this; cases this
    cases n with
    | zero => rfl
    | succ n =>
      simp only [trailT, List.length_cons] at hl
      simp only [trailT, List.map_cons, List.take_succ_cons]
      rw [followW_cons, decN_text hn hw hs, sum_text hn, if_neg (by simp), step_ext]
      by_cases hc : common p q = p.length
      · rw [if_pos hc] at hl
        rw [if_pos hc, if_pos hc, if_neg (fun e => hnt (sumT_empty.1 e))]
        exact ih (q.drop p.length) (k + 1) n hnt hw.2.2.2 (small_ext hw.1 hs) (fit_drop _ hq) (by omega)
      · rw [if_neg hc] at hl
        simp at hl
  | branch v kids ih =>
    intro q k n hn hw hs hq hl
    cases n with
    | zero => rfl
    | succ n =>
      cases q with
      | nil => simp [trailT] at hl
      | cons b r =>
        obtain ⟨hb, hr⟩ := fit_cons hq
        simp only [trailT, List.length_cons] at hl
        simp only [trailT, List.map_cons, List.take_succ_cons]
        rw [followW_cons, decN_text hn hw hs, sum_text hn, if_neg (by simp), step_branch _ _ _ _ hb]
        by_cases he : kids (ix b) = .nil
        · rw [he] at hl
          simp [trailT] at hl
        · rw [if_neg (fun e => he (sumT_empty.1 e)), if_neg (fun e => he (sumT_empty.1 e))]
          exact ih (ix b) r (k + 1) n he (hw.1 _) (small_kid hs _) hr (by omega)
theorem follow_more (l : List (List UInt8)) : ∀ (more : List (List UInt8)) (s q : List UInt8) (k : Nat), (followW s q l k).2.2 = true → followW s q (l ++ more) k = followW s q l k := by
  induction l with
  | nil => intro more s q k h; simp [followW] at h
  | cons x l ih =>
    intro more s q k h
    rw [List.cons_append, followW_cons, followW_cons]
    rw [followW_cons] at h
    by_cases h1 : shaW (1 :: x) ≠ s ∨ (decN x).2 ≠ 0
    · rw [if_pos h1, if_pos h1]
    · rw [if_neg h1] at h
      rw [if_neg h1, if_neg h1]
      by_cases h2 : (stepW (decN x).1 q).1 = []
      · rw [if_pos h2, if_pos h2]
      · rw [if_neg h2] at h
        rw [if_neg h2, if_neg h2]
        exact ih more _ _ _ h
def knots : T → List T
  | .nil => []
  | .leaf p v => [.leaf p v]
  | .ext p t => .ext p t :: knots t
  | .branch v kids => .branch v kids :: (List.finRange 16).flatMap fun i => knots (kids i)
theorem goT_knots (t : T) : ∀ pl, (goT allW t pl).map (·.2) = knots t := by
  induction t with
  | nil => intro pl; rfl
  | leaf p v => intro pl; simp [goT, allW, knots]
  | ext p t ih => intro pl; simp only [goT, allW, if_true, List.map_cons, knots]; rw [← ih (pl ++ p)]
  | branch v kids ih =>
    intro pl
    simp only [goT, allW, if_true, List.map_cons, knots, List.map_flatMap]
    congr 2
    funext i
    rw [← ih i (pl ++ [hb i])]
theorem told_knots (t : T) : toldW allW t = (knots t).map textT := by
  rw [← goT_knots t [], toldW, textsD, List.map_map]
  rfl
theorem follow_sound (t : T) : ∀ (nodes : List (List UInt8)) (q : List UInt8) (k : Nat), t ≠ .nil → wf t → small t → fit q = true → (followW (sumT t) q nodes k).2.2 = true →
    (followW (sumT t) q nodes k).1 = look t q ∨ ∃ x ∈ nodes, ∃ y ∈ (knots t).map textT, x ≠ y ∧ shaW (1 :: x) = shaW (1 :: y) := by
  have first : ∀ (t : T) (x : List UInt8) (r : List (List UInt8)) (q : List UInt8) (k : Nat), t ≠ .nil → (∃ D, knots t = t :: D) → (followW (sumT t) q (x :: r) k).2.2 = true → shaW (1 :: x) = sumT t ∧ (x = textT t ∨ ∃ y ∈ (knots t).map textT, x ≠ y ∧ shaW (1 :: x) = shaW (1 :: y)) := by
    intro t x r q k hn hD h
    rw [followW_cons] at h
    split at h
    · cases h
    · rename_i h1
      have e : shaW (1 :: x) = sumT t := Decidable.byContradiction fun e => h1 (.inl e)
      refine ⟨e, ?_⟩
      by_cases hx : x = textT t
      · exact .inl hx
      · obtain ⟨D, hD⟩ := hD
        exact .inr ⟨textT t, by rw [hD]; simp, hx, by rw [e, sum_text hn]⟩
  induction t with
  | nil => intro nodes q k h; exact absurd rfl h
  | leaf p v =>
    intro nodes q k hn hw hs hq h
    cases nodes with
    | nil => simp [followW] at h
    | cons x r =>
      obtain ⟨h1, rfl | ⟨y, h2, h3⟩⟩ := first _ x r q k hn ⟨[], rfl⟩ h
      · left
        rw [followW_cons, decN_text hn hw hs, sum_text hn, if_neg (by simp), step_leaf, if_pos rfl]
      · exact .inr ⟨x, by simp, y, h2, h3⟩
  | ext p t ih =>
    intro nodes q k hn hw hs hq h
    have hnt : t ≠ .nil := fun e => by have := hw.2.2.1; rw [e] at this; cases this
    cases nodes with
    | nil => simp [followW] at h
    | cons x r =>
      obtain ⟨h1, rfl | ⟨y, h2, h3⟩⟩ := first _ x r q k hn ⟨knots t, rfl⟩ h
      · rw [followW_cons, decN_text hn hw hs, sum_text hn, if_neg (by simp), step_ext] at h ⊢
        simp only [look]
        by_cases hc : common p q = p.length
        · rw [if_pos hc, if_neg (fun e => hnt (sumT_empty.1 e))] at h ⊢
          rw [if_pos hc]
          rcases ih _ _ _ hnt hw.2.2.2 (small_ext hw.1 hs) (fit_drop _ hq) h with h4 | ⟨x', hx, y, hy, h5⟩
          · exact .inl h4
          · exact .inr ⟨x', by simp [hx], y, by simp only [knots, List.map_cons]; exact List.mem_cons_of_mem _ hy, h5⟩
        · rw [if_neg hc, if_pos rfl, if_neg hc]
          exact .inl rfl
      · exact .inr ⟨x, by simp, y, h2, h3⟩
  | branch v kids ih =>
    intro nodes q k hn hw hs hq h
    cases nodes with
    | nil => simp [followW] at h
    | cons x r =>
      obtain ⟨h1, rfl | ⟨y, h2, h3⟩⟩ := first _ x r q k hn ⟨_, rfl⟩ h
      · cases q with
        | nil =>
          left
          rw [followW_cons, decN_text hn hw hs, sum_text hn, if_neg (by simp), step_end, if_pos rfl]
          rfl
        | cons b r' =>
          obtain ⟨hb, hr⟩ := fit_cons hq
          rw [followW_cons, decN_text hn hw hs, sum_text hn, if_neg (by simp), step_branch _ _ _ _ hb] at h ⊢
          simp only [look]
          by_cases he : kids (ix b) = .nil
          · rw [if_pos (sumT_empty.2 he), if_pos rfl, he]
            exact .inl rfl
          · rw [if_neg (fun e => he (sumT_empty.1 e)), if_neg (fun e => he (sumT_empty.1 e))] at h ⊢
            rcases ih _ _ _ _ he (hw.1 _) (small_kid hs _) hr h with h4 | ⟨x', hx, y, hy, h5⟩
            · exact .inl h4
            · refine .inr ⟨x', by simp [hx], y, ?_, h5⟩
              simp only [knots, List.map_cons]
              refine List.mem_cons_of_mem _ ?_
              rw [List.map_flatMap, List.mem_flatMap]
              exact ⟨ix b, List.mem_finRange _, hy⟩
      · exact .inr ⟨x, by simp, y, h2, h3⟩
theorem trailW_iff {path pl : List UInt8} : trailW path pl = true ↔ path = pl ++ path.drop pl.length := by
  unfold trailW
  rw [decide_eq_true_eq]
  exact prefix_common
theorem goT_no (may : List UInt8 → Bool) (t : T) (pl : List UInt8) (h : may pl = false) : goT may t pl = [] := by
  cases t <;> simp [goT, h]
theorem goT_trail (t : T) : ∀ (pl q : List UInt8), wf t → fit q = true → (goT (trailW (pl ++ q)) t pl).map (·.2) = trailT t q := by
  have yes : ∀ pl q : List UInt8, trailW (pl ++ q) pl = true := fun pl q => trailW_iff.2 (by simp)
  induction t with
  | nil => intro pl q _ _; rfl
  | leaf p v => intro pl q _ _; simp [goT, yes, trailT]
  | ext p t ih =>
    intro pl q hw hq
    simp only [goT, yes, if_true, List.map_cons, trailT]
    congr 1
    by_cases hc : common p q = p.length
    · rw [if_pos hc, ← ih (pl ++ p) (q.drop p.length) hw.2.2.2 (fit_drop _ hq), List.append_assoc, ← prefix_common.1 hc]
    · rw [if_neg hc, goT_no _ _ _ _]
      · rfl
      · rw [Bool.eq_false_iff]
        intro h
        have := trailW_iff.1 h
        rw [List.append_assoc] at this
        have h2 := List.append_cancel_left this
        apply hc
        rw [prefix_common]
        rw [h2]
        simp
  | branch v kids ih =>
    intro pl q hw hq
    simp only [goT, yes, if_true, List.map_cons]
    cases q with
    | nil =>
      show T.branch v kids :: _ = T.branch v kids :: []
      congr 1
      rw [List.map_eq_nil_iff, List.flatMap_eq_nil_iff]
      intro i _
      refine goT_no _ _ _ ?_
      rw [Bool.eq_false_iff]
      intro h
      have := congrArg List.length (trailW_iff.1 h)
      simp at this
    | cons b r =>
      obtain ⟨hb, hr⟩ := fit_cons hq
      show T.branch v kids :: _ = T.branch v kids :: trailT (kids (ix b)) r
      congr 1
      rw [List.map_flatMap]
      have key : ∀ i : Fin 16, (goT (trailW (pl ++ b :: r)) (kids i) (pl ++ [Trie.hb i])).map (·.2) = if i = ix b then trailT (kids (ix b)) r else [] := by
        intro i
        by_cases e : i = ix b
        · subst e
          rw [if_pos rfl, ← ih (ix b) (pl ++ [Trie.hb (ix b)]) r (hw.1 _) hr, List.append_assoc]
          have : Trie.hb (ix b) = b := by
            unfold Trie.hb
            apply UInt8.toNat_inj.1
            have h15 : b.toNat ≤ 15 := by rw [UInt8.le_iff_toNat_le] at hb; exact hb
            simp [ix]
            omega
          rw [this]
          rfl
        · rw [if_neg e, goT_no]
          · rfl
          · rw [Bool.eq_false_iff]
            intro h
            have := trailW_iff.1 h
            rw [List.append_assoc] at this
            have h2 := List.append_cancel_left this
            simp only [List.cons_append, List.nil_append, List.cons.injEq] at h2
            apply e
            have h3 := (ix_of i).1
            rw [← h3]
            show ix (UInt8.ofNat i.val) = ix b
            rw [h2.1]
            rfl
      simp only [key]
      have h2 : ∀ l : List (Fin 16), l.Nodup → (l.flatMap fun j => if j = ix b then trailT (kids (ix b)) r else []) = if ix b ∈ l then trailT (kids (ix b)) r else [] := by
        intro l
        induction l with
        | nil => intro _; rfl
        | cons a l ihl =>
          intro hn
          rw [List.nodup_cons] at hn
          rw [List.flatMap_cons, ihl hn.2]
          by_cases e : a = ix b
          · subst e; rw [if_pos rfl, if_neg hn.1]; simp
          · rw [if_neg e]
            simp [show ¬ ix b = a from fun h => e h.symm]
      rw [h2 _ (List.nodup_finRange 16), if_pos (List.mem_finRange _)]
theorem told_trail {t : T} (hw : wf t) {q : List UInt8} (hq : fit q = true) : toldW (trailW q) t = (trailT t q).map textT := by
  rw [← goT_trail t [] q hw hq, List.nil_append, toldW, textsD, List.map_map]
  rfl
theorem verify_whole {t : T} (h : Good t) {key : List UInt8} (hk : keyedW key = true) : verifyW (sumT t) key (toldW (trailW (Nib.of key)) t) = (look t (Nib.of key), decide (look t (Nib.of key) ≠ []), 0) := by
  unfold verifyW
  rw [if_neg (by simp [hk]), told_trail h.wf (Nib.fit_of key)]
  by_cases hn : t = .nil
  · subst hn
    rw [if_pos (show sumT .nil = [] from rfl), if_pos (show (trailT .nil (Nib.of key)).map textT = [] from rfl)]
    rfl
  · rw [if_neg (fun e => hn (sumT_empty.1 e)), follow_trail t _ 0 hn h.wf h.small (Nib.fit_of key)]
    simp
theorem verify_cut {t : T} (h : Good t) {key : List UInt8} (hk : keyedW key = true) (n : Nat) (hl : n < (toldW (trailW (Nib.of key)) t).length) : verifyW (sumT t) key ((toldW (trailW (Nib.of key)) t).take n) = ([], false, 130) := by
  rw [told_trail h.wf (Nib.fit_of key)] at hl ⊢
  rw [List.length_map] at hl
  have hn : t ≠ .nil := fun e => by subst e; simp [trailT] at hl
  unfold verifyW
  rw [if_neg (by simp [hk]), if_neg (fun e => hn (sumT_empty.1 e)), if_neg]
  rw [follow_cut t _ 0 n hn h.wf h.small (Nib.fit_of key) hl]
  simp
theorem verify_more {t : T} (h : Good t) {key : List UInt8} (hk : keyedW key = true) (more : List (List UInt8)) (hm : more ≠ []) : verifyW (sumT t) key (toldW (trailW (Nib.of key)) t ++ more) = ([], false, 130) := by
  rw [told_trail h.wf (Nib.fit_of key)]
  unfold verifyW
  rw [if_neg (by simp [hk])]
  by_cases hn : t = .nil
  · subst hn
    rw [if_pos (show sumT .nil = [] from rfl), if_neg (by simp [hm])]
  · have := follow_trail t (Nib.of key) 0 hn h.wf h.small (Nib.fit_of key)
    rw [if_neg (fun e => hn (sumT_empty.1 e)), if_neg]
    rw [follow_more _ more _ _ _ (by rw [this]), this]
    have : 0 < more.length := List.length_pos_iff.2 hm
    simp
    omega
theorem verify_other {t : T} (h : Good t) (hn : t ≠ .nil) {key : List UInt8} (hk : keyedW key = true) (root : List UInt8) (hr : root.length ≠ 32) : verifyW root key (toldW (trailW (Nib.of key)) t) = ([], false, 130) := by
  rw [told_trail h.wf (Nib.fit_of key)]
  obtain ⟨D, hD⟩ : ∃ D, trailT t (Nib.of key) = t :: D := by
    cases t with
    | nil => exact absurd rfl hn
    | leaf p v => exact ⟨_, rfl⟩
    | ext p t => exact ⟨_, rfl⟩
    | branch v kids =>
      cases Nib.of key with
      | nil => exact ⟨_, rfl⟩
      | cons b r => exact ⟨_, rfl⟩
  unfold verifyW
  rw [if_neg (by simp [hk]), hD, List.map_cons]
  split
  · rw [if_neg (by simp)]
  · rw [if_neg]
    rw [followW_cons, sum_text hn, if_pos (.inl fun e => hr (by rw [← e]; exact sumT_len hn))]
    simp
theorem verify_sound {t : T} (h : Good t) {key : List UInt8} (nodes : List (List UInt8)) (he : (verifyW (sumT t) key nodes).2.2 = 0) :
    keyedW key = true ∧ ((verifyW (sumT t) key nodes).1 = look t (Nib.of key) ∧ (verifyW (sumT t) key nodes).2.1 = decide (look t (Nib.of key) ≠ []) ∨ ∃ x ∈ toldW allW t ++ nodes, ∃ y ∈ toldW allW t ++ nodes, x ≠ y ∧ shaW (1 :: x) = shaW (1 :: y)) := by
  unfold verifyW at he ⊢
  split at he
  · cases he
  · rename_i hk
    have hk : keyedW key = true := by simpa using hk
    rw [if_neg (by simp [hk])]
    refine ⟨hk, ?_⟩
    by_cases hn : t = .nil
    · subst hn
      rw [if_pos (show sumT .nil = [] from rfl)] at he ⊢
      split at he
      · rename_i hno
        rw [if_pos hno]
        exact .inl ⟨rfl, rfl⟩
      · cases he
    · rw [if_neg (fun e => hn (sumT_empty.1 e))] at he ⊢
      split at he
      · rename_i hc
        rw [if_pos hc]
        rcases follow_sound t nodes (Nib.of key) 0 hn h.wf h.small (Nib.fit_of key) hc.1 with h1 | ⟨x, hx, y, hy, h2⟩
        · exact .inl ⟨h1, by rw [h1]⟩
        · exact .inr ⟨x, by simp [hx], y, by rw [told_knots]; exact List.mem_append_left _ hy, h2⟩
      · cases he
end Trie
end Go.Proofs.YtefcmigbdfeaiaaDoor

namespace Go.Proofs.YtefcmigbdfeaiaaDoor
set_option linter.unusedVariables false
open Go.RowKit Go.Instr Go.ChangeShapes Go.WideShapes Go.Deep
section
variable {H : Type} {enc : TypeId × Value → H} {P : Program} {w : World} {base : Nat} {spare : Nat → Bool} {held : Bool}
theorem open_slice_fields {t e : TypeId} {fs : Array Field} {fuel : Nat} {cs : List Value} {x : DataW H × List MemPlace} (ht : P.underlying t = some (.slice e)) (he : P.underlying e = some (.struct fs))
    (hone : oneCellFields P fs = true) (hC : P.cellsOf e = fs.size) (h : DataW.trod enc P w base spare held fuel t cs = some x) :
    (cs = [.slice none 0 0] ∧ x = (.nil, [])) ∨
    ∃ (a : Addr) (len cap m : Nat) (D : Nat → DataW H) (Pl : Nat → List MemPlace), cs = [.slice (some a) len cap] ∧ base ≤ a.block ∧ len ≤ cap ∧ cap ≤ maxLen ∧ m = (if spare a.block then cap else len) ∧
      x = (.slice ((List.range len).map D) ((List.range (m - len)).map fun j => D (len + j)), MemPlace.row a (m * fs.size) ++ (List.range m).flatMap Pl) ∧
      ∀ i, i < m → ∃ (ys : List (DataW H × List MemPlace)) (n : Nat), D i = .agg (ys.map (·.1)) ∧ Pl i = ys.flatMap (·.2) ∧ ys.length = fs.size ∧
        ∀ (j : Nat) (f : Field), fs[j]? = some f → ∃ (v : Value) (y : DataW H × List MemPlace), w.cell? (a.add (i * fs.size + j)) = some v ∧ ys[j]? = some y ∧ DataW.trod enc P w base spare held n f.type [v] = some y := by
  rcases open_slice ht h with h0 | ⟨a, len, cap, m, n, D, Pl, hcs, hb, hl, hm, hmm, hx, hi⟩
  · exact .inl h0
  · refine .inr ⟨a, len, cap, m, D, Pl, hcs, hb, hl, hm, hmm, by rw [hC] at hx; exact hx, fun i him => ?_⟩
    obtain ⟨cs', hc, ht'⟩ := hi i him
    rw [hC] at hc
    obtain ⟨ys, n', hn', hy, hlen, hyl, hf⟩ := DataW.trod_struct he ht'
    obtain ⟨_, hcl, hat⟩ := World.cells?_some hc
    simp only [Prod.mk.injEq] at hy
    refine ⟨ys, n', hy.1, hy.2, hyl, fun j f hj => ?_⟩
    obtain ⟨ho, hk⟩ := hone_of hone j f hj
    have hjl : j < fs.size := (Array.getElem?_eq_some_iff.1 hj).1
    have hcell := hat j hjl
    have hv : cs'[j]? = some (cs'[j]'(by omega)) := List.getElem?_eq_getElem (by omega)
    have h1 := hf j f hj
    rw [ho, hk] at h1
    have hone' : (cs'.drop j).take 1 = [cs'[j]'(by omega)] := by
      rw [List.drop_eq_getElem_cons (by omega)]
      rfl
    rw [hone'] at h1
    have hys : ys[j]? = some (ys[j]'(by omega)) := List.getElem?_eq_getElem (by omega)
    refine ⟨_, _, ?_, hys, h1.trans hys⟩
    rw [← Go.Deep.add_add, hcell, hv]
end
theorem list_of {α : Type} (P : Nat → α → Prop) : ∀ (n : Nat), (∀ i, i < n → ∃ s, P i s) → ∃ L : List α, L.length = n ∧ ∀ i s, L[i]? = some s → P i s
  | 0, _ => ⟨[], rfl, fun i s h => by simp at h⟩
  | n + 1, each => by
    obtain ⟨L, hL, hc⟩ := list_of P n (fun i hi => each i (by omega))
    obtain ⟨s, hs⟩ := each n (by omega)
    refine ⟨L ++ [s], by simp [hL], fun i s' h => ?_⟩
    by_cases hin : i < L.length
    · rw [List.getElem?_append_left hin] at h
      exact hc i s' h
    · have hl2 := (List.getElem?_eq_some_iff.1 h).1
      rw [List.length_append, List.length_singleton] at hl2
      have ei : i = n := by omega
      subst ei
      rw [List.getElem?_append_right (by omega), hL, Nat.sub_self] at h
      injection h with h
      subst h
      exact hs
theorem row_reads {W : World} {a : Addr} {n sz : Nat} {xs : List Value} (hl : xs.length = n * sz) (hs : 0 < sz) (h : ∀ j u, xs[j]? = some u → W.cell? (a.add j) = some u) : Reads W W.heap.size sz (some a) n xs := by
  refine ⟨hl, fun hn => ⟨a, rfl, ?_, h⟩⟩
  have hp : 0 < xs.length := by rw [hl]; exact Nat.mul_pos hn hs
  have h0 : xs[0]? = some (xs[0]'hp) := List.getElem?_eq_getElem hp
  have := World.block_lt_of_cell? _ _ (h 0 _ h0)
  rwa [block_of_add] at this
theorem open_texts {H : Type} {enc : TypeId × Value → H} {W : World} {fuel : Nat} {A : Option Addr} {n c : Nat} {x : DataW H × List MemPlace}
    (h : DataW.trod enc Tryd.prog W 0 (fun _ => true) true fuel 36 [.slice A n c] = some x) :
    ∃ L : List (List UInt8), L.length = n ∧ Reads W W.heap.size 1 A n (strv L) ∧ n ≤ maxLen ∧ n ≤ c := by
  rcases open_slice Tryd.underlying36 h with ⟨e, _⟩ | ⟨a, len, cap, m, k, D, Pl, e, hb, hl, hcap, hm, _, hi⟩
  · injection e with e _
    injection e with e1 e2 e3
    subst e1
    subst e2
    exact ⟨[], rfl, Reads.none_, by simp only [maxLen]; omega, Nat.zero_le _⟩
  · injection e with e _
    injection e with e1 e2 e3
    subst e1
    subst e2
    have hmn : n ≤ m := by rw [hm]; simp only [if_true]; omega
    have hC : Tryd.prog.cellsOf 9 = 1 := by kernel_rfl
    have each : ∀ i, i < n → ∃ s : List UInt8, W.cell? (a.add i) = some (.string ⟨s.toArray⟩) := fun i hin => by
      obtain ⟨cs', h1, h2⟩ := hi i (by omega)
      rw [hC] at h1
      obtain ⟨_, hlen, hat⟩ := World.cells?_some h1
      obtain ⟨v, rfl⟩ : ∃ v, cs' = [v] := by
        match cs', hlen with
        | [v], _ => exact ⟨v, rfl⟩
      obtain ⟨s, e0, _⟩ := DataW.trod_string Tryd.underlying9 h2
      injection e0 with e0
      subst e0
      have := hat 0 (by omega)
      rw [Nat.mul_one] at this
      refine ⟨s.data.toList, ?_⟩
      rw [show (a.add i).add 0 = a.add i from by rw [Go.Deep.add_add, Nat.add_zero]] at this
      exact this
    obtain ⟨L, hL, hc⟩ := list_of (fun i (s : List UInt8) => W.cell? (a.add i) = some (.string ⟨s.toArray⟩)) n each
    refine ⟨L, hL, row_reads (by rw [strv_length, hL]; omega) (by omega) (fun j u hu => ?_), by omega, by omega⟩
    have hj : j < L.length := by have := (List.getElem?_eq_some_iff.1 hu).1; rwa [strv_length] at this
    rw [strv_at hj] at hu
    have hu' := Option.some.inj hu
    subst hu'
    exact hc j _ (List.getElem?_eq_getElem hj)
theorem open_items {H : Type} {enc : TypeId × Value → H} {W : World} {fuel : Nat} {A : Option Addr} {n c : Nat} {x : DataW H × List MemPlace}
    (h : DataW.trod enc Tryd.prog W 0 (fun _ => true) true fuel 22 [.slice A n c] = some x) :
    ∃ L : List (List UInt8 × List UInt8), L.length = n ∧ Reads W W.heap.size 2 A n (icells L) ∧ n ≤ maxLen ∧ n ≤ c ∧ ∀ x ∈ L, x.1.length ≤ 9223372036854775807 ∧ x.2.length ≤ 9223372036854775807 := by
  rcases open_slice_fields Tryd.underlying22 Tryd.underlying26 (by kernel_rfl) (by kernel_rfl) h with ⟨e, _⟩ | ⟨a, len, cap, m, D, Pl, e, hb, hl, hcap, hm, _, hi⟩
  · injection e with e _
    injection e with e1 e2 e3
    subst e1
    subst e2
    exact ⟨[], rfl, Reads.none_, by simp only [maxLen]; omega, Nat.zero_le _, fun x hx => by cases hx⟩
  · injection e with e _
    injection e with e1 e2 e3
    subst e1
    subst e2
    have hmn : n ≤ m := by rw [hm]; simp only [if_true]; omega
    have each : ∀ i, i < n → ∃ s : List UInt8 × List UInt8, W.cell? (a.add (i * 2)) = some (.string ⟨s.1.toArray⟩) ∧ W.cell? (a.add (i * 2 + 1)) = some (.string ⟨s.2.toArray⟩) ∧ s.1.length ≤ 9223372036854775807 ∧ s.2.length ≤ 9223372036854775807 := fun i hin => by
      obtain ⟨ys, k, _, _, hyl, hf⟩ := hi i (by omega)
      obtain ⟨v0, y0, c0, _, t0⟩ := hf 0 _ rfl
      obtain ⟨v1, y1, c1, _, t1⟩ := hf 1 _ rfl
      obtain ⟨s0, e0, _, z0⟩ := DataW.trod_string Tryd.underlying9 t0
      obtain ⟨s1, e1, _, z1⟩ := DataW.trod_string Tryd.underlying9 t1
      injection e0 with e0; injection e1 with e1
      subst e0; subst e1
      refine ⟨(s0.data.toList, s1.data.toList), c0, c1, ?_, ?_⟩
      · show s0.data.toList.length ≤ 9223372036854775807; simp only [maxLen] at z0; have e : s0.data.toList.length = s0.size := Array.length_toList; omega
      · show s1.data.toList.length ≤ 9223372036854775807; simp only [maxLen] at z1; have e : s1.data.toList.length = s1.size := Array.length_toList; omega
    obtain ⟨L, hL, hc⟩ := list_of (fun i (s : List UInt8 × List UInt8) => W.cell? (a.add (i * 2)) = some (.string ⟨s.1.toArray⟩) ∧ W.cell? (a.add (i * 2 + 1)) = some (.string ⟨s.2.toArray⟩) ∧ s.1.length ≤ 9223372036854775807 ∧ s.2.length ≤ 9223372036854775807) n each
    refine ⟨L, hL, row_reads (by rw [icells_length, hL]; omega) (by omega) (fun j u hu => ?_), by omega, by omega, fun x hx => by
      obtain ⟨i, hi2, rfl⟩ := List.getElem_of_mem hx
      exact (hc i _ (List.getElem?_eq_getElem hi2)).2.2⟩
    have hj : j < 2 * L.length := by have := (List.getElem?_eq_some_iff.1 hu).1; rwa [icells_length] at this
    have hx : L[j / 2]? = some (L[j / 2]'(by omega)) := List.getElem?_eq_getElem (by omega)
    obtain ⟨k0, k1, _, _⟩ := hc (j / 2) _ hx
    obtain ⟨i0, i1⟩ := icells_at (l := L) (i := j / 2) (by omega)
    rcases Nat.mod_two_eq_zero_or_one j with hm2 | hm2
    · rw [show 2 * (j / 2) = j by omega, hu] at i0
      rw [show j / 2 * 2 = j by omega] at k0
      rw [k0, i0]
    · rw [show 2 * (j / 2) + 1 = j by omega, hu] at i1
      rw [show j / 2 * 2 + 1 = j by omega] at k1
      rw [k1, i1]
end Go.Proofs.YtefcmigbdfeaiaaDoor
