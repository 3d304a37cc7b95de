import Derived.Test.YtefcmigbdfeaiaaDoorJ45
import Derived.Test.YtefcmigbdfeaiaaDoorJ25
set_option linter.unusedSimpArgs false
set_option linter.unusedVariables false
/- Plain laws: nodes that show a key. No program in sight. -/
namespace Go.Proofs.YtefcmigbdfeaiaaDoor
set_option linter.unusedVariables false
open Nib

/-- what is sought next, and what is left; or nothing, and the value -/
def stepW (n : Nd) (left : List UInt8) : List UInt8 × List UInt8 :=
  if common n.2.1 left ≠ n.2.1.length then ([], [])
  else if n.1 = 2 then (n.2.2.2.getD 0 [], left.drop n.2.1.length)
  else if n.1 = 1 ∧ n.2.1.length < left.length then ([], [])
  else if n.1 = 1 ∨ left = [] then ([], n.2.2.1)
  else if n.2.2.2.getD (left.headD 0).toNat [] = [] then ([], [])
  else (n.2.2.2.getD (left.headD 0).toNat [], left.tail)
/-- the value that nodes lead to, how many were taken, are they a proof? -/
def followW : List UInt8 → List UInt8 → List (List UInt8) → Nat → List UInt8 × Nat × Bool
  | _, _, [], k => ([], k, false)
  | sought, left, x :: r, k =>
    if shaW (1 :: x) ≠ sought ∨ (decN x).2 ≠ 0 then ([], k, false)
    else if (stepW (decN x).1 left).1 = [] then ((stepW (decN x).1 left).2, k + 1, true)
    else followW (stepW (decN x).1 left).1 (stepW (decN x).1 left).2 r (k + 1)
/-- what nodes say of a key from a root: its value, is it there, what is wrong -/
def verifyW (root key : List UInt8) (nodes : List (List UInt8)) : List UInt8 × Bool × Nat :=
  if Trie.keyedW key = false then ([], false, 1)
  else if root = [] then (if nodes = [] then ([], false, 0) else ([], false, 130))
  else if (followW root (Nib.of key) nodes 0).2.2 = true ∧ (followW root (Nib.of key) nodes 0).2.1 = nodes.length then ((followW root (Nib.of key) nodes 0).1, decide ((followW root (Nib.of key) nodes 0).1 ≠ []), 0)
  else ([], false, 130)
theorem followW_cons (s left x : List UInt8) (r : List (List UInt8)) (k : Nat) : followW s left (x :: r) k = if shaW (1 :: x) ≠ s ∨ (decN x).2 ≠ 0 then ([], k, false)
    else if (stepW (decN x).1 left).1 = [] then ((stepW (decN x).1 left).2, k + 1, true)
    else followW (stepW (decN x).1 left).1 (stepW (decN x).1 left).2 r (k + 1) := rfl
theorem followW_le : ∀ (r : List (List UInt8)) (s l : List UInt8) (k : Nat), (followW s l r k).2.1 ≤ k + r.length
  | [], _, _, _ => by simp [followW]
  | x :: r, s, l, k => by
    rw [followW_cons]
    split
    · show k ≤ _
      omega
    · split
      · show k + 1 ≤ _
        simp
      · have := followW_le r (stepW (decN x).1 l).1 (stepW (decN x).1 l).2 (k + 1)
        rw [List.length_cons]; omega
theorem headD_ix {a : UInt8} (h : a ≤ 15) : a.toNat = (Trie.ix a).val := by
  have : a.toNat ≤ 15 := by rw [UInt8.le_iff_toNat_le] at h; exact h
  unfold Trie.ix
  simp
  omega
namespace Trie
/-- a knot as a node -/
def nd (t : T) : Nd := (kindT t, pathT t, valT t, sumsT t)
theorem decN_text {t : T} (hn : t ≠ .nil) (hw : wf t) (hs : small t) : decN (textT t) = (nd t, 0) :=
  decN_of (nd t) (sumsT_length t) (fineT hn hw hs)
theorem sum_text {t : T} (hn : t ≠ .nil) : shaW (1 :: textT t) = sumT t := (sumT_eq hn).symm
/-- the knots on the way along a path -/
def trailT : T → List UInt8 → List T
  | .nil, _ => []
  | .leaf p v, _ => [.leaf p v]
  | .ext p t, q => .ext p t :: if common p q = p.length then trailT t (q.drop p.length) else []
  | .branch v kids, q => .branch v kids :: match q with
    | [] => []
    | b :: r => trailT (kids (ix b)) r
/-- a step from a knot -/
theorem step_leaf (p v q : List UInt8) : stepW (nd (.leaf p v)) q = ([], look (.leaf p v) q) := by
  unfold stepW nd
  simp only [pathT, kindT, valT, look]
  by_cases h : common p q = p.length
  · rw [if_neg (by simpa using h), if_neg (by decide)]
    have hq := prefix_common.1 h
    have hle := (common_le p q).2
    by_cases hl : p.length < q.length
    · rw [if_pos ⟨trivial, hl⟩, if_neg (fun e => by rw [e] at hl; omega)]
    · rw [if_neg (fun e => hl e.2), if_pos (.inl trivial), if_pos]
      rw [hq, List.drop_of_length_le (by omega), List.append_nil]
  · rw [if_pos h, if_neg (fun e => h (by subst e; have := (common_take q q q.length).2 ⟨Nat.le_refl _, Nat.le_refl _, rfl⟩; have := (common_le q q).1; omega))]
theorem step_ext (p q : List UInt8) (t : T) : stepW (nd (.ext p t)) q = if common p q = p.length then (sumT t, q.drop p.length) else ([], []) := by
  unfold stepW nd
  simp only [pathT, kindT, valT]
  by_cases h : common p q = p.length
  · rw [if_neg (by simpa using h), if_pos trivial, if_pos h]
    rfl
  · rw [if_pos h, if_neg h]
theorem step_end (v : List UInt8) (kids : Fin 16 → T) : stepW (nd (.branch v kids)) [] = ([], v) := by
  unfold stepW nd
  simp only [pathT, kindT, valT]
  rfl
theorem common_nil (q : List UInt8) : common [] q = 0 := by cases q <;> rfl
theorem stepW_branch (v : List UInt8) (K : List (List UInt8)) (b : UInt8) (r : List UInt8) : stepW (3, [], v, K) (b :: r) = if K.getD b.toNat [] = [] then ([], []) else (K.getD b.toNat [], r) := by
  unfold stepW
  simp [common_nil]
theorem step_branch (v : List UInt8) (kids : Fin 16 → T) (b : UInt8) (r : List UInt8) (hb : b ≤ 15) : stepW (nd (.branch v kids)) (b :: r) = if sumT (kids (ix b)) = [] then ([], []) else (sumT (kids (ix b)), r) := by
  have e : (sumsT (.branch v kids)).getD b.toNat [] = sumT (kids (ix b)) := by
    rw [headD_ix hb, sumsT_at]
    rfl
  show stepW (3, [], v, sumsT (.branch v kids)) (b :: r) = _
  rw [stepW_branch]
  simp only [e]
theorem sumT_empty {t : T} : sumT t = [] ↔ t = .nil := by
  constructor
  · intro h
    refine Classical.byContradiction fun hn => ?_
    have := sumT_len hn
    rw [h] at this
    cases this
  · intro h; subst h; rfl
/-- what is on the way leads to the value -/
theorem follow_trail (t : T) : ∀ (q : List UInt8) (k : Nat), t ≠ .nil → wf t → small t → fit q = true → followW (sumT t) q ((trailT t q).map textT) k = (look t q, k + (trailT t q).length, true) := by
  induction t with
  | nil => intro q k h; exact absurd rfl h
  | leaf p v =>
    intro q k hn hw hs hq
    simp only [trailT, List.map_cons, List.map_nil, List.length_singleton]
    rw [followW_cons, decN_text hn hw hs, sum_text hn, if_neg (by simp), step_leaf, if_pos rfl]
  | ext p t ih =>
    intro q k hn hw hs hq
    have hnt : t ≠ .nil := fun e => by have := hw.2.2.1; rw [e] at this; cases this
    simp only [trailT, List.map_cons, List.length_cons]
    rw [followW_cons, decN_text hn hw hs, sum_text hn, if_neg (by simp), step_ext]
    simp only [look]
    by_cases hc : common p q = p.length
    · rw [if_pos hc, if_pos hc, if_pos hc, if_neg (fun e => hnt (sumT_empty.1 e)), ih _ _ hnt hw.2.2.2 (small_ext hw.1 hs) (fit_drop _ hq)]
      simp only [Prod.mk.injEq, true_and, and_true]
      omega
    · rw [if_neg hc, if_neg hc, if_neg hc, if_pos rfl]
      rfl
  | branch v kids ih =>
    intro q k hn hw hs hq
    cases q with
    | nil =>
      simp only [trailT, List.map_cons, List.map_nil, List.length_singleton]
      rw [followW_cons, decN_text hn hw hs, sum_text hn, if_neg (by simp), step_end, if_pos rfl]
      rfl
    | cons b r =>
      obtain ⟨hb, hr⟩ := fit_cons hq
      simp only [trailT, List.map_cons, List.length_cons]
      rw [followW_cons, decN_text hn hw hs, sum_text hn, if_neg (by simp), step_branch _ _ _ _ hb]
      simp only [look]
      by_cases he : kids (ix b) = .nil
      · rw [if_pos (sumT_empty.2 he), if_pos rfl, he]
        rfl
      · rw [if_neg (fun e => he (sumT_empty.1 e)), if_neg (fun e => he (sumT_empty.1 e)), ih _ _ _ he (hw.1 _) (small_kid hs _) hr]
        simp only [Prod.mk.injEq, true_and, and_true]
        omega
/-- a part of what is on the way is no proof -/
theorem follow_cut (t : T) : ∀ (q : List UInt8) (k n : Nat), t ≠ .nil → wf t → small t → fit q = true → n < (trailT t q).length → (followW (sumT t) q (((trailT t q).map textT).take n) k).2.2 = false := by
  induction t with
  | nil => intro q k n h; exact absurd rfl h
  | leaf p v =>
    intro q k n hn hw hs hq hl
    simp only [trailT, List.length_singleton] at hl
    obtain rfl : n = 0 := by omega
    rfl
  | ext p t ih =>
    intro q k n hn hw hs hq hl
    have hnt : t ≠ .nil := fun e => by have := hw.2.2.1; rw [e] at this; cases this
    cases n with
    | zero => rfl
    | succ n =>
      simp only [trailT, List.length_cons] at hl
      simp only [trailT, List.map_cons, List.take_succ_cons]
      rw [followW_cons, decN_text hn hw hs, sum_text hn, if_neg (by simp), step_ext]
      by_cases hc : common p q = p.length
      · rw [if_pos hc] at hl
        rw [if_pos hc, if_pos hc, if_neg (fun e => hnt (sumT_empty.1 e))]
        exact ih (q.drop p.length) (k + 1) n hnt hw.2.2.2 (small_ext hw.1 hs) (fit_drop _ hq) (by omega)
      · rw [if_neg hc] at hl
        simp at hl
  | branch v kids ih =>
    intro q k n hn hw hs hq hl
    cases n with
    | zero => rfl
    | succ n =>
      cases q with
      | nil => simp [trailT] at hl
      | cons b r =>
        obtain ⟨hb, hr⟩ := fit_cons hq
        simp only [trailT, List.length_cons] at hl
        simp only [trailT, List.map_cons, List.take_succ_cons]
        rw [followW_cons, decN_text hn hw hs, sum_text hn, if_neg (by simp), step_branch _ _ _ _ hb]
        by_cases he : kids (ix b) = .nil
        · rw [he] at hl
          simp [trailT] at hl
        · rw [if_neg (fun e => he (sumT_empty.1 e)), if_neg (fun e => he (sumT_empty.1 e))]
          exact ih (ix b) r (k + 1) n he (hw.1 _) (small_kid hs _) hr (by omega)
/-- with more behind, these are not taken -/
theorem follow_more (l : List (List UInt8)) : ∀ (more : List (List UInt8)) (s q : List UInt8) (k : Nat), (followW s q l k).2.2 = true → followW s q (l ++ more) k = followW s q l k := by
  induction l with
  | nil => intro more s q k h; simp [followW] at h
  | cons x l ih =>
    intro more s q k h
    rw [List.cons_append, followW_cons, followW_cons]
    rw [followW_cons] at h
    by_cases h1 : shaW (1 :: x) ≠ s ∨ (decN x).2 ≠ 0
    · rw [if_pos h1, if_pos h1]
    · rw [if_neg h1] at h
      rw [if_neg h1, if_neg h1]
      by_cases h2 : (stepW (decN x).1 q).1 = []
      · rw [if_pos h2, if_pos h2]
      · rw [if_neg h2] at h
        rw [if_neg h2, if_neg h2]
        exact ih more _ _ _ h
/-- all knots of a trie -/
def knots : T → List T
  | .nil => []
  | .leaf p v => [.leaf p v]
  | .ext p t => .ext p t :: knots t
  | .branch v kids => .branch v kids :: (List.finRange 16).flatMap fun i => knots (kids i)
theorem goT_knots (t : T) : ∀ pl, (goT allW t pl).map (·.2) = knots t := by
  induction t with
  | nil => intro pl; rfl
  | leaf p v => intro pl; simp [goT, allW, knots]
  | ext p t ih => intro pl; simp only [goT, allW, if_true, List.map_cons, knots]; rw [← ih (pl ++ p)]
  | branch v kids ih =>
    intro pl
    simp only [goT, allW, if_true, List.map_cons, knots, List.map_flatMap]
    congr 2
    funext i
    rw [← ih i (pl ++ [hb i])]
theorem told_knots (t : T) : toldW allW t = (knots t).map textT := by
  rw [← goT_knots t [], toldW, textsD, List.map_map]
  rfl
/-- nodes that lead to something from a trie's sum lead to what it has; or an unlike text has a sum of its -/
theorem follow_sound (t : T) : ∀ (nodes : List (List UInt8)) (q : List UInt8) (k : Nat), t ≠ .nil → wf t → small t → fit q = true → (followW (sumT t) q nodes k).2.2 = true →
    (followW (sumT t) q nodes k).1 = look t q ∨ ∃ x ∈ nodes, ∃ y ∈ (knots t).map textT, x ≠ y ∧ shaW (1 :: x) = shaW (1 :: y) := by
  have first : ∀ (t : T) (x : List UInt8) (r : List (List UInt8)) (q : List UInt8) (k : Nat), t ≠ .nil → (∃ D, knots t = t :: D) → (followW (sumT t) q (x :: r) k).2.2 = true → shaW (1 :: x) = sumT t ∧ (x = textT t ∨ ∃ y ∈ (knots t).map textT, x ≠ y ∧ shaW (1 :: x) = shaW (1 :: y)) := by
    intro t x r q k hn hD h
    rw [followW_cons] at h
    split at h
    · cases h
    · rename_i h1
      have e : shaW (1 :: x) = sumT t := Decidable.byContradiction fun e => h1 (.inl e)
      refine ⟨e, ?_⟩
      by_cases hx : x = textT t
      · exact .inl hx
      · obtain ⟨D, hD⟩ := hD
        exact .inr ⟨textT t, by rw [hD]; simp, hx, by rw [e, sum_text hn]⟩
  induction t with
  | nil => intro nodes q k h; exact absurd rfl h
  | leaf p v =>
    intro nodes q k hn hw hs hq h
    cases nodes with
    | nil => simp [followW] at h
    | cons x r =>
      obtain ⟨h1, rfl | ⟨y, h2, h3⟩⟩ := first _ x r q k hn ⟨[], rfl⟩ h
      · left
        rw [followW_cons, decN_text hn hw hs, sum_text hn, if_neg (by simp), step_leaf, if_pos rfl]
      · exact .inr ⟨x, by simp, y, h2, h3⟩
  | ext p t ih =>
    intro nodes q k hn hw hs hq h
    have hnt : t ≠ .nil := fun e => by have := hw.2.2.1; rw [e] at this; cases this
    cases nodes with
    | nil => simp [followW] at h
    | cons x r =>
      obtain ⟨h1, rfl | ⟨y, h2, h3⟩⟩ := first _ x r q k hn ⟨knots t, rfl⟩ h
      · rw [followW_cons, decN_text hn hw hs, sum_text hn, if_neg (by simp), step_ext] at h ⊢
        simp only [look]
        by_cases hc : common p q = p.length
        · rw [if_pos hc, if_neg (fun e => hnt (sumT_empty.1 e))] at h ⊢
          rw [if_pos hc]
          rcases ih _ _ _ hnt hw.2.2.2 (small_ext hw.1 hs) (fit_drop _ hq) h with h4 | ⟨x', hx, y, hy, h5⟩
          · exact .inl h4
          · exact .inr ⟨x', by simp [hx], y, by simp only [knots, List.map_cons]; exact List.mem_cons_of_mem _ hy, h5⟩
        · rw [if_neg hc, if_pos rfl, if_neg hc]
          exact .inl rfl
      · exact .inr ⟨x, by simp, y, h2, h3⟩
  | branch v kids ih =>
    intro nodes q k hn hw hs hq h
    cases nodes with
    | nil => simp [followW] at h
    | cons x r =>
      obtain ⟨h1, rfl | ⟨y, h2, h3⟩⟩ := first _ x r q k hn ⟨_, rfl⟩ h
      · cases q with
        | nil =>
          left
          rw [followW_cons, decN_text hn hw hs, sum_text hn, if_neg (by simp), step_end, if_pos rfl]
          rfl
        | cons b r' =>
          obtain ⟨hb, hr⟩ := fit_cons hq
          rw [followW_cons, decN_text hn hw hs, sum_text hn, if_neg (by simp), step_branch _ _ _ _ hb] at h ⊢
          simp only [look]
          by_cases he : kids (ix b) = .nil
          · rw [if_pos (sumT_empty.2 he), if_pos rfl, he]
            exact .inl rfl
          · rw [if_neg (fun e => he (sumT_empty.1 e)), if_neg (fun e => he (sumT_empty.1 e))] at h ⊢
            rcases ih _ _ _ _ he (hw.1 _) (small_kid hs _) hr h with h4 | ⟨x', hx, y, hy, h5⟩
            · exact .inl h4
            · refine .inr ⟨x', by simp [hx], y, ?_, h5⟩
              simp only [knots, List.map_cons]
              refine List.mem_cons_of_mem _ ?_
              rw [List.map_flatMap, List.mem_flatMap]
              exact ⟨ix b, List.mem_finRange _, hy⟩
      · exact .inr ⟨x, by simp, y, h2, h3⟩
theorem trailW_iff {path pl : List UInt8} : trailW path pl = true ↔ path = pl ++ path.drop pl.length := by
  unfold trailW
  rw [decide_eq_true_eq]
  exact prefix_common
theorem goT_no (may : List UInt8 → Bool) (t : T) (pl : List UInt8) (h : may pl = false) : goT may t pl = [] := by
  cases t <;> simp [goT, h]
/-- the nodes on the way to a place are those along what is left -/
theorem goT_trail (t : T) : ∀ (pl q : List UInt8), wf t → fit q = true → (goT (trailW (pl ++ q)) t pl).map (·.2) = trailT t q := by
  have yes : ∀ pl q : List UInt8, trailW (pl ++ q) pl = true := fun pl q => trailW_iff.2 (by simp)
  induction t with
  | nil => intro pl q _ _; rfl
  | leaf p v => intro pl q _ _; simp [goT, yes, trailT]
  | ext p t ih =>
    intro pl q hw hq
    simp only [goT, yes, if_true, List.map_cons, trailT]
    congr 1
    by_cases hc : common p q = p.length
    · rw [if_pos hc, ← ih (pl ++ p) (q.drop p.length) hw.2.2.2 (fit_drop _ hq), List.append_assoc, ← prefix_common.1 hc]
    · rw [if_neg hc, goT_no _ _ _ _]
      · rfl
      · rw [Bool.eq_false_iff]
        intro h
        have := trailW_iff.1 h
        rw [List.append_assoc] at this
        have h2 := List.append_cancel_left this
        apply hc
        rw [prefix_common]
        rw [h2]
        simp
  | branch v kids ih =>
    intro pl q hw hq
    simp only [goT, yes, if_true, List.map_cons]
    cases q with
    | nil =>
      show T.branch v kids :: _ = T.branch v kids :: []
      congr 1
      rw [List.map_eq_nil_iff, List.flatMap_eq_nil_iff]
      intro i _
      refine goT_no _ _ _ ?_
      rw [Bool.eq_false_iff]
      intro h
      have := congrArg List.length (trailW_iff.1 h)
      simp at this
    | cons b r =>
      obtain ⟨hb, hr⟩ := fit_cons hq
      show T.branch v kids :: _ = T.branch v kids :: trailT (kids (ix b)) r
      congr 1
      rw [List.map_flatMap]
      have key : ∀ i : Fin 16, (goT (trailW (pl ++ b :: r)) (kids i) (pl ++ [Trie.hb i])).map (·.2) = if i = ix b then trailT (kids (ix b)) r else [] := by
        intro i
        by_cases e : i = ix b
        · subst e
          rw [if_pos rfl, ← ih (ix b) (pl ++ [Trie.hb (ix b)]) r (hw.1 _) hr, List.append_assoc]
          have : Trie.hb (ix b) = b := by
            unfold Trie.hb
            apply UInt8.toNat_inj.1
            have h15 : b.toNat ≤ 15 := by rw [UInt8.le_iff_toNat_le] at hb; exact hb
            simp [ix]
            omega
          rw [this]
          rfl
        · rw [if_neg e, goT_no]
          · rfl
          · rw [Bool.eq_false_iff]
            intro h
            have := trailW_iff.1 h
            rw [List.append_assoc] at this
            have h2 := List.append_cancel_left this
            simp only [List.cons_append, List.nil_append, List.cons.injEq] at h2
            apply e
            have h3 := (ix_of i).1
            rw [← h3]
            show ix (UInt8.ofNat i.val) = ix b
            rw [h2.1]
            rfl
      simp only [key]
      have h2 : ∀ l : List (Fin 16), l.Nodup → (l.flatMap fun j => if j = ix b then trailT (kids (ix b)) r else []) = if ix b ∈ l then trailT (kids (ix b)) r else [] := by
        intro l
        induction l with
        | nil => intro _; rfl
        | cons a l ihl =>
          intro hn
          rw [List.nodup_cons] at hn
          rw [List.flatMap_cons, ihl hn.2]
          by_cases e : a = ix b
          · subst e; rw [if_pos rfl, if_neg hn.1]; simp
          · rw [if_neg e]
            simp [show ¬ ix b = a from fun h => e h.symm]
      rw [h2 _ (List.nodup_finRange 16), if_pos (List.mem_finRange _)]
/-- the nodes that show a key -/
theorem told_trail {t : T} (hw : wf t) {q : List UInt8} (hq : fit q = true) : toldW (trailW q) t = (trailT t q).map textT := by
  rw [← goT_trail t [] q hw hq, List.nil_append, toldW, textsD, List.map_map]
  rfl
theorem getW_look {t : T} {key : List UInt8} (hk : keyedW key = true) : (getW t key).1 = look t (Nib.of key) ∧ ((getW t key).2 = 0 ↔ look t (Nib.of key) ≠ []) := by
  unfold getW
  rw [if_pos hk]
  cases hl : look t (Nib.of key) with
  | nil => simp
  | cons a r => simp
/-- what is proved is verified -/
theorem verify_whole {t : T} (h : Good t) {key : List UInt8} (hk : keyedW key = true) : verifyW (sumT t) key (toldW (trailW (Nib.of key)) t) = (look t (Nib.of key), decide (look t (Nib.of key) ≠ []), 0) := by
  unfold verifyW
  rw [if_neg (by simp [hk]), told_trail h.wf (Nib.fit_of key)]
  by_cases hn : t = .nil
  · subst hn
    rw [if_pos (show sumT .nil = [] from rfl), if_pos (show (trailT .nil (Nib.of key)).map textT = [] from rfl)]
    rfl
  · rw [if_neg (fun e => hn (sumT_empty.1 e)), follow_trail t _ 0 hn h.wf h.small (Nib.fit_of key)]
    simp
theorem verify_cut {t : T} (h : Good t) {key : List UInt8} (hk : keyedW key = true) (n : Nat) (hl : n < (toldW (trailW (Nib.of key)) t).length) : verifyW (sumT t) key ((toldW (trailW (Nib.of key)) t).take n) = ([], false, 130) := by
  rw [told_trail h.wf (Nib.fit_of key)] at hl ⊢
  rw [List.length_map] at hl
  have hn : t ≠ .nil := fun e => by subst e; simp [trailT] at hl
  unfold verifyW
  rw [if_neg (by simp [hk]), if_neg (fun e => hn (sumT_empty.1 e)), if_neg]
  rw [follow_cut t _ 0 n hn h.wf h.small (Nib.fit_of key) hl]
  simp
theorem verify_more {t : T} (h : Good t) {key : List UInt8} (hk : keyedW key = true) (more : List (List UInt8)) (hm : more ≠ []) : verifyW (sumT t) key (toldW (trailW (Nib.of key)) t ++ more) = ([], false, 130) := by
  rw [told_trail h.wf (Nib.fit_of key)]
  unfold verifyW
  rw [if_neg (by simp [hk])]
  by_cases hn : t = .nil
  · subst hn
    rw [if_pos (show sumT .nil = [] from rfl), if_neg (by simp [hm])]
  · have := follow_trail t (Nib.of key) 0 hn h.wf h.small (Nib.fit_of key)
    rw [if_neg (fun e => hn (sumT_empty.1 e)), if_neg]
    rw [follow_more _ more _ _ _ (by rw [this]), this]
    have : 0 < more.length := List.length_pos_iff.2 hm
    simp
    omega
theorem verify_other {t : T} (h : Good t) (hn : t ≠ .nil) {key : List UInt8} (hk : keyedW key = true) (root : List UInt8) (hr : root.length ≠ 32) : verifyW root key (toldW (trailW (Nib.of key)) t) = ([], false, 130) := by
  rw [told_trail h.wf (Nib.fit_of key)]
  obtain ⟨D, hD⟩ : ∃ D, trailT t (Nib.of key) = t :: D := by
    cases t with
    | nil => exact absurd rfl hn
    | leaf p v => exact ⟨_, rfl⟩
    | ext p t => exact ⟨_, rfl⟩
    | branch v kids =>
      cases Nib.of key with
      | nil => exact ⟨_, rfl⟩
      | cons b r => exact ⟨_, rfl⟩
  unfold verifyW
  rw [if_neg (by simp [hk]), hD, List.map_cons]
  split
  · rw [if_neg (by simp)]
  · rw [if_neg]
    rw [followW_cons, sum_text hn, if_pos (.inl fun e => hr (by rw [← e]; exact sumT_len hn))]
    simp
theorem verify_sound {t : T} (h : Good t) {key : List UInt8} (nodes : List (List UInt8)) (he : (verifyW (sumT t) key nodes).2.2 = 0) :
    keyedW key = true ∧ ((verifyW (sumT t) key nodes).1 = look t (Nib.of key) ∧ (verifyW (sumT t) key nodes).2.1 = decide (look t (Nib.of key) ≠ []) ∨ ∃ x ∈ toldW allW t ++ nodes, ∃ y ∈ toldW allW t ++ nodes, x ≠ y ∧ shaW (1 :: x) = shaW (1 :: y)) := by
  unfold verifyW at he ⊢
  split at he
  · cases he
  · rename_i hk
    have hk : keyedW key = true := by simpa using hk
    rw [if_neg (by simp [hk])]
    refine ⟨hk, ?_⟩
    by_cases hn : t = .nil
    · subst hn
      rw [if_pos (show sumT .nil = [] from rfl)] at he ⊢
      split at he
      · rename_i hno
        rw [if_pos hno]
        exact .inl ⟨rfl, rfl⟩
      · cases he
    · rw [if_neg (fun e => hn (sumT_empty.1 e))] at he ⊢
      split at he
      · rename_i hc
        rw [if_pos hc]
        rcases follow_sound t nodes (Nib.of key) 0 hn h.wf h.small (Nib.fit_of key) hc.1 with h1 | ⟨x, hx, y, hy, h2⟩
        · exact .inl ⟨h1, by rw [h1]⟩
        · exact .inr ⟨x, by simp [hx], y, by rw [told_knots]; exact List.mem_append_left _ hy, h2⟩
      · cases he
theorem verify_bad {root key : List UInt8} {nodes : List (List UInt8)} (h : (verifyW root key nodes).2.2 ≠ 0) : (verifyW root key nodes).1 = [] ∧ (verifyW root key nodes).2.1 = false := by
  unfold verifyW at h ⊢
  split
  · exact ⟨rfl, rfl⟩
  · rename_i h1
    rw [if_neg h1] at h
    split
    · split <;> exact ⟨rfl, rfl⟩
    · rename_i h2
      rw [if_neg h2] at h
      split
      · rename_i h3
        rw [if_pos h3] at h
        exact absurd rfl h
      · exact ⟨rfl, rfl⟩
end Trie
end Go.Proofs.YtefcmigbdfeaiaaDoor

/- The walks of layer 2 (code): the reader's Text. No conditions. -/
namespace Go.Proofs.YtefcmigbdfeaiaaDoor
set_option linter.unusedVariables false
open Go.RowKit Go.Instr
attribute [local go_sem] ba_get ByteArray.mk_append_mk

/-- what 'text' leaves of a reader without a code -/
def TextREnd (w : World) (g : Nat) (all : List UInt8) (r : List UInt8 × List UInt8 × Nat) (e : Ending) (w' : World) : Prop :=
  ∃ a', e = .returned (.tuple #[.string ⟨r.1.toArray⟩, .int .i64 (r.2.2 : Int)]) ∧ RdB w' g all a' 0 ∧ a' ≤ all.length ∧ (r.2.2 = 0 → all.drop a' = r.2.1) ∧ w.grownBy w' (some g)
set_option maxHeartbeats 1000000 in
theorem code_text (w : World) (g : Nat) (all : List UInt8) (a : Nat) (h : RdB w g all a 0) (hl : all.length ≤ 1000000) (ha : a ≤ all.length) (most : Nat) (hm : most ≤ 1000000) :
    Calls Tryd.prog 128 #[.pointer (some ⟨g, 0, none⟩), .int .i64 (most : Int)] w (TextREnd w g all (txtT (all.drop a) most)) := by
  have HP : Hid (∀ (t : List UInt8) rest c a' w', txtT (all.drop a) most = (t, rest, c) → RdB w' g all a' 0 → a' ≤ all.length → (c = 0 → all.drop a' = rest) → w.grownBy w' (some g) → TextREnd w g all (txtT (all.drop a) most) (.returned (.tuple #[.string ⟨t.toArray⟩, .int .i64 (c : Int)])) w') := Lib.hid (fun t rest c a' w' e h1 h2 h3 h4 => by
    unfold TextREnd
    rw [e]
    exact ⟨a', rfl, h1, h2, h3, h4⟩)
  generalize TextREnd w g all (txtT (all.drop a) most) = P at HP ⊢
  have HN := Lib.hid (code_number w g all a h hl ha)
  have HL := Lib.hid hl
  have HX : Hid (txtT (all.drop a) most = if (numT (all.drop a)).2.2 ≠ 0 then ([], [], (numT (all.drop a)).2.2) else if most < (numT (all.drop a)).1 then ([], [], 2) else if (numT (all.drop a)).2.1.length < (numT (all.drop a)).1 then ([], [], 20)
    else ((numT (all.drop a)).2.1.take (numT (all.drop a)).1, (numT (all.drop a)).2.1.drop (numT (all.drop a)).1, 0)) := Lib.hid rfl
  clear h hl ha
  cases he : (numT (all.drop a)).2.2 with
  | zero =>
    have hlt := numT_lt (s := all.drop a) (r := (numT (all.drop a)).2.1) (n := (numT (all.drop a)).1) (by rw [← he])
    unfold NumbEnd at HN
    rw [he] at HN HX
    simp only [ne_eq, not_true_eq_false, if_false] at HX
    clear he
    generalize (numT (all.drop a)).1 = n at *
    generalize (numT (all.drop a)).2.1 = r at *
    by_cases hmn : most < n
    · have HX1 : Hid (txtT (all.drop a) most = ([], [], 2)) := Lib.hid (by rw [HX.out, if_pos hmn])
      have hI : (most : Int) < n := by omega
      clear HX hmn
      go_enter Tryd.func128, Tryd.ntmps128
      go_wp2_with fail
      refine HN.out.mono ?_
      rintro e w1 ⟨a', rfl, h1, h2, h3, h4⟩
      have HF := Lib.hid (HP.out [] [] 2 a' w1 HX1.out h1 h2 (fun e => by cases e) h4)
      clear h1 h2 h3 h4
      go_wp2_with fail
      exact HF.out
    · have hI : ((most : Int) < n) = False := by simp; omega
      by_cases hrn : r.length < n
      · have HX1 : Hid (txtT (all.drop a) most = ([], [], 20)) := Lib.hid (by rw [HX.out, if_neg hmn, if_pos hrn])
        have HRn : Hid (¬ n ≤ r.length) := Lib.hid (by omega)
        clear HX hmn hrn
        go_enter Tryd.func128, Tryd.ntmps128
        go_wp2_with fail
        refine HN.out.mono ?_
        rintro e w1 ⟨a', rfl, h1, h2, h3, h4⟩
        have HT := Lib.hid (code_take w1 g all a' 0 h1 HL.out h2 n hlt)
        rw [h3 (by first | exact trivial | rfl), if_neg HRn.out, if_neg HRn.out, decide_eq_false HRn.out] at HT
        have HG := Lib.hid (And.intro h2 h4)
        clear h1 h2 h3 h4
        go_wp2_with fail
        refine HT.out.mono ?_
        rintro e w2 ⟨rfl, h5, h6⟩
        have HF := Lib.hid (HP.out [] [] 20 a' w2 HX1.out h5 HG.out.1 (fun e => by cases e) (HG.out.2.trans h6))
        clear h5 h6
        go_wp2_with fail
        exact HF.out
      · have HX1 : Hid (txtT (all.drop a) most = (r.take n, r.drop n, 0)) := Lib.hid (by rw [HX.out, if_neg hmn, if_neg hrn])
        have HRn : Hid (n ≤ r.length) := Lib.hid (by omega)
        clear HX hmn hrn
        go_enter Tryd.func128, Tryd.ntmps128
        go_wp2_with fail
        refine HN.out.mono ?_
        rintro e w1 ⟨a', rfl, h1, h2, h3, h4⟩
        have HD := Lib.hid (h3 (by first | exact trivial | rfl))
        have HT := Lib.hid (code_take w1 g all a' 0 h1 HL.out h2 n hlt)
        rw [HD.out, if_pos HRn.out, if_pos HRn.out, decide_eq_true HRn.out] at HT
        have HG := Lib.hid (And.intro h2 h4)
        clear h1 h2 h3 h4
        go_wp2_with fail
        refine HT.out.mono ?_
        rintro e w2 ⟨rfl, h5, h6⟩
        have HF := Lib.hid (HP.out (r.take n) (r.drop n) 0 (a' + n) w2 HX1.out h5 (by
          have h0 := congrArg List.length HD.out
          rw [List.length_drop] at h0
          have h1 := HRn.out
          have h2 := HG.out.1
          omega) (fun _ => by rw [← HD.out, List.drop_drop]) (HG.out.2.trans h6))
        clear h5 h6 HX1 HP
        generalize r.take n = piece at *
        go_wp2_with fail
        exact HF.out
  | succ m =>
    have HX1 : Hid (txtT (all.drop a) most = ([], [], m + 1)) := Lib.hid (by rw [HX.out, he, if_pos (by omega)])
    unfold NumbEnd at HN
    rw [he] at HN
    have hm1 : (((m + 1 : Nat) : Int) != 0) = true := by simp; omega
    have HNz : Hid (m + 1 ≠ 0) := Lib.hid (by omega)
    clear he HX
    generalize (numT (all.drop a)).1 = n at *
    generalize (numT (all.drop a)).2.1 = r at *
    generalize m + 1 = c' at *
    go_enter Tryd.func128, Tryd.ntmps128
    go_wp2_with fail
    refine HN.out.mono ?_
    rintro e w1 ⟨a', rfl, h1, h2, h3, h4⟩
    have HF := Lib.hid (HP.out [] [] c' a' w1 HX1.out h1 h2 (fun e => absurd e HNz.out) h4)
    clear h1 h2 h3 h4
    go_wp2_with fail
    exact HF.out
theorem code_text_no (w : World) (g : Nat) (all : List UInt8) (a c : Nat) (h : RdB w g all a c) (hc : c ≠ 0) (most : Nat) :
    Calls Tryd.prog 128 #[.pointer (some ⟨g, 0, none⟩), .int .i64 (most : Int)] w (RdEnd w g all (.tuple #[.string ⟨#[]⟩, .int .i64 (c : Int)]) a c) := by
  have HN := Lib.hid (code_number_no w g all a c h hc)
  have HP : Hid (∀ w', RdB w' g all a c → w.grownBy w' (some g) → RdEnd w g all (.tuple #[.string ⟨#[]⟩, .int .i64 (c : Int)]) a c (.returned (.tuple #[.string ⟨#[]⟩, .int .i64 (c : Int)])) w') := Lib.hid (fun w' a b => ⟨rfl, a, b⟩)
  generalize RdEnd w g all (.tuple #[.string ⟨#[]⟩, .int .i64 (c : Int)]) a c = P at HP ⊢
  have hc1 : ((c : Int) != 0) = true := by simp; exact hc
  clear h hc
  go_enter Tryd.func128, Tryd.ntmps128
  go_wp2_with fail
  refine HN.out.mono ?_
  rintro e w1 ⟨rfl, h1, h4⟩
  have HF := Lib.hid (HP.out w1 h1 h4)
  clear h1 h4
  go_wp2_with fail
  exact HF.out

set_option maxHeartbeats 1000000 in
theorem code_RText (w : World) (g : Nat) (s : List UInt8 × Nat) (h : Rdr w g s) (most : Nat) (hm : most ≤ 1000000) :
    Calls Tryd.prog 102 #[.pointer (some ⟨g, 0, none⟩), .int .i64 (most : Int)] w (RdrEnd w g (.string ⟨(txtS s most).1.toArray⟩) (txtS s most).2) := by
  obtain ⟨rest, c⟩ := s
  obtain ⟨all, a, hB, ha, hl, hr⟩ := h
  simp only at hB hr
  subst hr
  have HP : Hid (∀ (t : List UInt8) s' w', txtS (all.drop a, c) most = (t, s') → Rdr w' g s' → w.grownBy w' (some g) → RdrEnd w g (.string ⟨(txtS (all.drop a, c) most).1.toArray⟩) (txtS (all.drop a, c) most).2 (.returned (.string ⟨t.toArray⟩)) w') := Lib.hid (fun n s' w' e h1 h2 => by rw [e]; exact ⟨rfl, h1, h2⟩)
  generalize RdrEnd w g (.string ⟨(txtS (all.drop a, c) most).1.toArray⟩) (txtS (all.drop a, c) most).2 = P at HP ⊢
  obtain ⟨c0, c1, c2, f1, f2⟩ := hB.cells
  have HB := Lib.hid hB
  have HL := Lib.hid (And.intro ha hl)
  by_cases hc : c = 0
  · subst hc
    have HN := Lib.hid (code_text w g all a hB hl ha most hm)
    clear hB ha hl
    cases he : (txtT (all.drop a) most).2.2 with
    | zero =>
      have HS : Hid (txtS (all.drop a, 0) most = ((txtT (all.drop a) most).1, ((txtT (all.drop a) most).2.1, 0))) := Lib.hid (by simp [txtS, he])
      unfold TextREnd at HN
      rw [he] at HN
      clear he
      generalize (txtT (all.drop a) most).1 = t at *
      generalize (txtT (all.drop a) most).2.1 = r at *
      go_enter Tryd.func102, Tryd.ntmps102
      go_wp2_with fail
      refine HN.out.mono ?_
      rintro e w1 ⟨a', rfl, h1, h2, h3, h4⟩
      have HF := Lib.hid (HP.out t (r, 0) w1 HS.out ⟨all, a', h1, h2, HL.out.2, h3 (by first | exact trivial | rfl)⟩ h4)
      clear h1 h2 h3 h4
      go_wp2_with fail
      exact HF.out
    | succ m =>
      have HS : Hid (txtS (all.drop a, 0) most = ([], (all.drop a, m + 1))) := Lib.hid (by simp [txtS, he])
      unfold TextREnd at HN
      rw [he] at HN
      have hm1 : (((m + 1 : Nat) : Int) != 0) = true := by simp; omega
      clear he
      generalize (txtT (all.drop a) most).1 = t at *
      generalize (txtT (all.drop a) most).2.1 = r at *
      generalize m + 1 = c' at *
      go_enter Tryd.func102, Tryd.ntmps102
      go_wp2_with fail
      refine HN.out.mono ?_
      rintro e w1 ⟨a', rfl, h1, h2, h3, h4⟩
      have HR := Lib.hid (code_refused w1 g all a' 0 h1 a c')
      rw [if_pos rfl, if_pos rfl] at HR
      have HG := Lib.hid h4
      clear h1 h2 h3 h4
      go_wp2_with fail
      refine HR.out.mono ?_
      rintro e w2 ⟨rfl, h5, h6⟩
      have HF := Lib.hid (HP.out [] (all.drop a, c') w2 HS.out ⟨all, a, h5, HL.out.1, HL.out.2, rfl⟩ (HG.out.trans h6))
      clear h5 h6
      go_wp2_with fail
      exact HF.out
  · have HN := Lib.hid (code_text_no w g all a c hB hc most)
    have HS : Hid (txtS (all.drop a, c) most = ([], (all.drop a, c))) := Lib.hid (by simp [txtS, hc])
    have HC := Lib.hid hc
    have hm1 : ((c : Int) != 0) = true := by simp; exact hc
    clear hB ha hl hc
    go_enter Tryd.func102, Tryd.ntmps102
    go_wp2_with fail
    refine HN.out.mono ?_
    rintro e w1 ⟨rfl, h1, h4⟩
    have HR := Lib.hid (code_refused w1 g all a c h1 a c)
    rw [if_neg HC.out, if_neg HC.out] at HR
    have HG := Lib.hid h4
    clear h1 h4
    go_wp2_with fail
    refine HR.out.mono ?_
    rintro e w2 ⟨rfl, h5, h6⟩
    have HF := Lib.hid (HP.out [] (all.drop a, c) w2 HS.out ⟨all, a, h5, HL.out.1, HL.out.2, rfl⟩ (HG.out.trans h6))
    clear h5 h6
    go_wp2_with fail
    exact HF.out
end Go.Proofs.YtefcmigbdfeaiaaDoor

/- The walks of layer 2 (code): the reader's Bytes. No conditions. -/
namespace Go.Proofs.YtefcmigbdfeaiaaDoor
set_option linter.unusedVariables false
open Go.RowKit Go.Instr
attribute [local go_sem] ba_get ByteArray.mk_append_mk

theorem Rdr.grown {w w' : World} {g : Nat} {s : List UInt8 × Nat} {row : Option Nat} (h : Rdr w g s) (hg : w.grownBy w' row) (hne : some g ≠ row) : Rdr w' g s := by
  obtain ⟨all, a, h1, h2⟩ := h
  exact ⟨all, a, Blk.grown h1 hg hne, h2⟩
set_option maxHeartbeats 1000000 in
theorem code_RBytes (w : World) (g : Nat) (s : List UInt8 × Nat) (h : Rdr w g s) (n : Nat) (hn : n ≤ 1000) :
    Calls Tryd.prog 117 #[.pointer (some ⟨g, 0, none⟩), .int .i64 (n : Int)] w (RdrEnd w g (.string ⟨(bytesS s n).1.toArray⟩) (bytesS s n).2) := by
  obtain ⟨rest, c⟩ := s
  obtain ⟨all, a, hB, ha, hl, hr⟩ := h
  simp only at hB hr
  subst hr
  have HP : Hid (∀ (t : List UInt8) s' w', bytesS (all.drop a, c) n = (t, s') → Rdr w' g s' → w.grownBy w' (some g) → RdrEnd w g (.string ⟨(bytesS (all.drop a, c) n).1.toArray⟩) (bytesS (all.drop a, c) n).2 (.returned (.string ⟨t.toArray⟩)) w') := Lib.hid (fun n s' w' e h1 h2 => by rw [e]; exact ⟨rfl, h1, h2⟩)
  have HX : Hid (bytesS (all.drop a, c) n = if c ≠ 0 then ([], (all.drop a, c)) else if n ≤ (all.drop a).length then ((all.drop a).take n, ((all.drop a).drop n, 0)) else ([], (all.drop a, 20))) := Lib.hid rfl
  generalize RdrEnd w g (.string ⟨(bytesS (all.drop a, c) n).1.toArray⟩) (bytesS (all.drop a, c) n).2 = P at HP ⊢
  generalize bytesS (all.drop a, c) n = X at *
  obtain ⟨c0, c1, c2, f1, f2⟩ := hB.cells
  have HB := Lib.hid hB
  have HL := Lib.hid (And.intro ha hl)
  have hn0 : ((n : Int) < 0) = False := by simp
  by_cases hc : c = 0
  · subst hc
    have HT := Lib.hid (code_take w g all a 0 hB hl ha n (by omega))
    by_cases hle : n ≤ (all.drop a).length
    · have HE : Hid (X = ((all.drop a).take n, ((all.drop a).drop n, 0))) := Lib.hid (by rw [HX.out, if_neg (by simp), if_pos hle])
      rw [if_pos hle, if_pos hle, decide_eq_true hle] at HT
      have hle2 : n ≤ all.length - a := by rw [List.length_drop] at hle; exact hle
      have HA : Hid (a + n ≤ all.length) := Lib.hid (by omega)
      clear hB ha hl hle HX hle2
      generalize (all.drop a).take n = t at *
      go_enter Tryd.func117, Tryd.ntmps117
      go_wp2_with fail
      refine HT.out.mono ?_
      rintro e w1 ⟨rfl, h1, h2⟩
      have HF := Lib.hid (HP.out t _ w1 HE.out ⟨all, a + n, h1, HA.out, HL.out.2, by rw [List.drop_drop]⟩ h2)
      clear h1 h2
      go_wp2_with fail
      exact HF.out
    · have HE : Hid (X = ([], (all.drop a, 20))) := Lib.hid (by rw [HX.out, if_neg (by simp), if_neg hle])
      rw [if_neg hle, if_neg hle, decide_eq_false hle] at HT
      clear hB ha hl hle HX
      go_enter Tryd.func117, Tryd.ntmps117
      go_wp2_with fail
      refine HT.out.mono ?_
      rintro e w1 ⟨rfl, h1, h2⟩
      have HR := Lib.hid (code_refused w1 g all a 0 h1 a 20)
      rw [if_pos rfl, if_pos rfl] at HR
      obtain ⟨d0, d1, d2, _, _⟩ := h1.cells
      have HG := Lib.hid h2
      clear h1 h2
      go_wp2_with fail
      refine HR.out.mono ?_
      rintro e w2 ⟨rfl, h5, h6⟩
      have HF := Lib.hid (HP.out [] _ w2 HE.out ⟨all, a, h5, HL.out.1, HL.out.2, rfl⟩ (HG.out.trans h6))
      clear h5 h6
      go_wp2_with fail
      exact HF.out
  · have HE : Hid (X = ([], (all.drop a, c))) := Lib.hid (by rw [HX.out, if_pos hc])
    have hm1 : ((c : Int) != 0) = true := by simp; exact hc
    clear hB ha hl hc HX
    go_enter Tryd.func117, Tryd.ntmps117
    go_wp2_with fail
    exact HP.out [] _ _ HE.out ⟨all, a, HB.out, HL.out.1, HL.out.2, rfl⟩ (World.grownBy.refl _ _)
end Go.Proofs.YtefcmigbdfeaiaaDoor
