/- The table of signatures, without the program: which rows there are, in order, is fixed by what the steps say. No conditions. -/
import Derived.Test.YtojpijpajdiiiaaOrcFill
namespace Go.Proofs.Ytojpijpajdiiiaa
set_option linter.unusedVariables false
open Go.RowKit Go.Instr

abbrev Ky := List UInt8 × List UInt8
def ky (x : Sg) : Ky := (x.1, x.2.1)
/-- a key's flag -/
def flag (k : Ky) : List Sg → Option Bool
  | [] => none
  | x :: l => if k = ky x then some x.2.2 else flag k l
/-- what a step does to a key's flag -/
def upd (k : Ky) (s : Stp) (o : Option Bool) : Option Bool := if may s.who s.mark = true ∧ k = (s.who, s.mark) then some (o.getD true && s.h) else o
theorem flag_none {k : Ky} : ∀ {l : List Sg}, atRow k l = none → flag k l = none
  | [], _ => rfl
  | x :: l, h => by
    simp only [atRow] at h
    unfold flag ky
    by_cases hk : k = (x.1, x.2.1)
    · rw [if_pos hk] at h; cases h
    · rw [if_neg hk] at h ⊢
      exact flag_none (by simpa using h)
theorem flag_snoc (k : Ky) (x : Sg) : ∀ (l : List Sg), flag k (l ++ [x]) = (flag k l).or (if k = ky x then some x.2.2 else none)
  | [] => by simp [flag]
  | y :: l => by
    simp only [List.cons_append, flag]
    by_cases hk : k = ky y
    · simp [hk]
    · simp [hk, flag_snoc k x l]
theorem flag_set (k : Ky) (w m : List UInt8) (h : Bool) : ∀ (l : List Sg) (n : Nat), atRow (w, m) l = some n →
    flag k (l.set n (w, m, ((l[n]?.map (·.2.2)).getD false && h))) = if k = (w, m) then some ((flag k l).getD true && h) else flag k l
  | [], n, hn => by simp [atRow] at hn
  | y :: l, n, hn => by
    simp only [atRow] at hn
    by_cases hk : (w, m) = (y.1, y.2.1)
    · rw [if_pos hk] at hn
      injection hn with hn
      subst hn
      simp only [List.set_cons_zero, flag, ky]
      by_cases e : k = (w, m)
      · subst e
        simp [hk]
      · have e2 : ¬ k = (y.1, y.2.1) := by rw [← hk]; exact e
        simp [e, e2]
    · rw [if_neg hk] at hn
      cases ha : atRow (w, m) l with
      | none => rw [ha] at hn; cases hn
      | some j =>
        rw [ha] at hn
        injection hn with hn
        subst hn
        have ih := flag_set k w m h l j ha
        simp only [List.set_cons_succ, flag, List.getElem?_cons_succ]
        rw [ih]
        by_cases e : k = ky y
        · have e2 : ¬ k = (w, m) := by rw [e]; exact fun h => hk h.symm
          simp [e]
          intro e3
          exact absurd (e3.symm) hk
        · simp [e]
theorem flag_sign (l : List Sg) (hl : l.length < 1024) (s : Stp) (k : Ky) : flag k (sign l s.who s.mark s.h).1 = upd k s (flag k l) := by
  unfold upd may sign
  by_cases h1 : s.who.length = 0 ∨ 6 < s.who.length
  · rw [if_pos h1, if_neg (by simp; omega)]
  · rw [if_neg h1]
    by_cases h2 : s.mark.length = 32
    · rw [if_neg (by simp [h2])]
      have hm : decide (1 ≤ s.who.length ∧ s.who.length ≤ 6 ∧ s.mark.length = 32) = true := by simp [h2]; omega
      rw [hm]
      cases hn : atRow (s.who, s.mark) l with
      | some n =>
        simp only [true_and]
        exact flag_set k s.who s.mark s.h l n hn
      | none =>
        simp only [true_and]
        rw [if_neg (by omega)]
        rw [flag_snoc]
        by_cases e : k = (s.who, s.mark)
        · subst e
          simp [flag_none hn, ky]
        · have e2 : ¬ k = ky (s.who, s.mark, s.h) := e
          simp [e, e2]
    · rw [if_pos h2, if_neg (by simp; omega)]
theorem flag_signs (k : Ky) : ∀ (L : List Stp) (l : List Sg), l.length + L.length < 1024 → flag k (signs l L) = L.foldl (fun o s => upd k s o) (flag k l)
  | [], l, _ => rfl
  | s :: L, l, h => by
    rw [List.length_cons] at h
    have h2 := sign_length l s.who s.mark s.h
    show flag k (signs (sign l s.who s.mark s.h).1 L) = _
    rw [flag_signs k L _ (by omega), flag_sign l (by omega)]
    rfl
/-- what all steps say of a key -/
def says (k : Ky) (L : List Stp) : Option Bool := if L.any (fun s => may s.who s.mark && decide (k = (s.who, s.mark))) then some (L.all fun s => !(may s.who s.mark && decide (k = (s.who, s.mark))) || s.h) else none
theorem fold_upd (k : Ky) : ∀ (L : List Stp) (o : Option Bool), L.foldl (fun o s => upd k s o) o = match o with | none => says k L | some b => some (b && L.all fun s => !(may s.who s.mark && decide (k = (s.who, s.mark))) || s.h)
  | [], o => by cases o <;> simp [says]
  | s :: L, o => by
    rw [List.foldl_cons, fold_upd k L]
    unfold upd says
    by_cases h : may s.who s.mark = true ∧ k = (s.who, s.mark)
    · rw [if_pos h]
      obtain ⟨h1, h2⟩ := h
      cases o <;> simp [h1, ← h2, Bool.and_assoc]
    · rw [if_neg h]
      have h3 : (may s.who s.mark && decide (k = (s.who, s.mark))) = false := by
        rw [Bool.eq_false_iff]
        intro hc
        simp only [Bool.and_eq_true, decide_eq_true_eq] at hc
        exact h hc
      simp only [List.any_cons, List.all_cons, h3, Bool.not_false, Bool.true_or, Bool.true_and, Bool.false_or]
theorem flag_says (k : Ky) (L : List Stp) (h : L.length < 1024) : flag k (signs [] L) = says k L := by
  rw [flag_signs k L [] (by simpa using h), fold_upd]
  rfl
theorem says_turned (k : Ky) (L : List Stp) : says k (L.reverse ++ L.reverse) = says k L := by
  unfold says
  simp
def Kn (l : List Sg) : Prop := (l.map ky).Nodup
theorem map_ky_set (w m : List UInt8) (b : Bool) : ∀ (l : List Sg) (n : Nat), atRow (w, m) l = some n → (l.set n (w, m, b)).map ky = l.map ky
  | [], n, h => by simp [atRow] at h
  | y :: l, n, h => by
    simp only [atRow] at h
    by_cases hk : (w, m) = (y.1, y.2.1)
    · rw [if_pos hk] at h
      injection h with h
      subst h
      simp only [List.set_cons_zero, List.map_cons]
      rw [show ky (w, m, b) = ky y from hk]
    · rw [if_neg hk] at h
      cases ha : atRow (w, m) l with
      | none => rw [ha] at h; cases h
      | some j =>
        rw [ha] at h
        injection h with h
        subst h
        simp only [List.set_cons_succ, List.map_cons, map_ky_set w m b l j ha]
theorem atRow_none {k : Ky} : ∀ {l : List Sg}, atRow k l = none → k ∉ l.map ky
  | [], _ => by simp
  | y :: l, h => by
    simp only [atRow] at h
    by_cases hk : k = (y.1, y.2.1)
    · rw [if_pos hk] at h; cases h
    · rw [if_neg hk] at h
      rw [List.map_cons, List.mem_cons]
      rintro (e | e)
      · exact hk e
      · exact atRow_none (by simpa using h) e
theorem kn_sign (l : List Sg) (h : Kn l) (w m : List UInt8) (b : Bool) : Kn (sign l w m b).1 := by
  unfold sign
  split
  · exact h
  · split
    · exact h
    · split
      · rename_i n hn
        show ((l.set n _).map ky).Nodup
        rw [map_ky_set w m _ l n hn]
        exact h
      · rename_i hn
        split
        · exact h
        · show ((l ++ [(w, m, b)]).map ky).Nodup
          rw [List.map_append, List.nodup_append]
          refine ⟨h, by simp, ?_⟩
          intro a ha c hc e
          simp only [List.map_cons, List.map_nil, List.mem_singleton] at hc
          subst hc
          subst e
          exact atRow_none hn ha
theorem kn_signs : ∀ (L : List Stp) (l : List Sg), Kn l → Kn (signs l L)
  | [], l, h => h
  | s :: L, l, h => kn_signs L _ (kn_sign l h s.who s.mark s.h)
theorem flag_mem (x : Sg) : ∀ (l : List Sg), Kn l → (flag (ky x) l = some x.2.2 ↔ x ∈ l)
  | [], _ => by simp [flag]
  | y :: l, h => by
    obtain ⟨h1, h2⟩ := List.nodup_cons.1 (show (ky y :: l.map ky).Nodup from h)
    have ih := flag_mem x l h2
    unfold flag
    by_cases hk : ky x = ky y
    · rw [if_pos hk]
      constructor
      · intro e
        injection e with e
        injection hk with e1 e2
        refine List.mem_cons.2 (.inl ?_)
        obtain ⟨a, b, c⟩ := x
        obtain ⟨a', b', c'⟩ := y
        simp only at e e1 e2
        rw [e, e1, e2]
      · intro hx
        rcases List.mem_cons.1 hx with e | e
        · rw [e]
        · exact absurd (hk ▸ List.mem_map_of_mem e) h1
    · rw [if_neg hk, ih]
      constructor
      · exact fun h => List.mem_cons.2 (.inr h)
      · intro hx
        rcases List.mem_cons.1 hx with e | e
        · exact absurd (by rw [e]) hk
        · exact e
theorem srt_pair (l : List Sg) (h : Srt l) : l.Pairwise fun x y => lp y x = false := by
  rw [List.pairwise_iff_getElem]
  intro i j hi hj hij
  exact h i j hij hj
theorem kn_perm {l l' : List Sg} (h : Kn l) (hp : l'.Perm l) : Kn l' := (hp.map ky).nodup_iff.2 h
theorem kn_nodup {l : List Sg} (h : Kn l) : l.Nodup := by
  unfold Kn at h
  exact List.Pairwise.of_map ky (fun a b h e => h (by rw [e])) h
theorem kn_inj {l : List Sg} (h : Kn l) {x y : Sg} (hx : x ∈ l) (hy : y ∈ l) (e : ky x = ky y) : x = y := by
  have h1 := (flag_mem x l h).2 hx
  have h2 := (flag_mem y l h).2 hy
  rw [e, h2] at h1
  injection h1 with h1
  injection e with e1 e2
  obtain ⟨a, b, c⟩ := x
  obtain ⟨a', b', c'⟩ := y
  simp only at e1 e2 h1
  rw [e1, e2, h1]
/-- one set of flags, one sorted list -/
theorem srt_unique {l m x y : List Sg} (hl : Kn l) (hm : Kn m) (hf : ∀ k, flag k l = flag k m) (hx : x.Perm l) (hy : y.Perm m) (sx : Srt x) (sy : Srt y) : x = y := by
  have kx := kn_perm hl hx
  have hmem : ∀ a, a ∈ l ↔ a ∈ m := fun a => by rw [← flag_mem a l hl, ← flag_mem a m hm, hf]
  have hp : l.Perm m := (List.perm_ext_iff_of_nodup (kn_nodup hl) (kn_nodup hm)).2 hmem
  have hxy : x.Perm y := (hx.trans hp).trans hy.symm
  exact List.Perm.eq_of_pairwise (fun a b ha hb h1 h2 => kn_inj kx ha (hxy.symm.subset hb) (lp_tri a b h2 h1)) (srt_pair x sx) (srt_pair y sy) hxy
theorem srt_strict {l x : List Sg} (hl : Kn l) (hx : x.Perm l) (sx : Srt x) (i j : Nat) (hi : i < j) (hj : j < x.length) : lp (x[i]'(by omega)) x[j] = true := by
  cases h : lp (x[i]'(by omega)) x[j] with
  | true => rfl
  | false =>
    have e := lp_tri _ _ h (sx i j hi hj)
    have kx := kn_nodup (kn_perm hl hx)
    have := kn_inj (kn_perm hl hx) (List.getElem_mem (by omega)) (List.getElem_mem hj) e
    exact absurd this (List.pairwise_iff_getElem.1 kx i j (by omega) hj hi)
end Go.Proofs.Ytojpijpajdiiiaa
