import Derived.Test.YtcjafcbekegmlaaGreatDoorJ16
set_option linter.unusedSimpArgs false
set_option linter.unusedVariables false
namespace Go.Proofs.YtcjafcbekegmlaaGreatDoor
namespace Trie
open Nib
theorem sum_one {α : Type} [DecidableEq α] (f : α → Nat) (i : α) (a : Nat) : ∀ l : List α, l.Nodup → i ∈ l → (l.map fun j => if j = i then a else f j).sum + f i = (l.map f).sum + a
  | [], _, h => by simp at h
  | x :: l, hn, h => by
    rw [List.nodup_cons] at hn
    simp only [List.map_cons, List.sum_cons]
    by_cases e : x = i
    · subst e
      have : (l.map fun j => if j = x then a else f j) = l.map f := List.map_congr_left fun j hj => by
        rw [if_neg (show ¬ j = x from fun e => hn.1 (by rw [← e]; exact hj))]
      rw [this, if_pos rfl]; omega
    · have hi : i ∈ l := by
        rcases List.mem_cons.1 h with h | h
        · exact absurd h.symm e
        · exact h
      have := sum_one f i a l hn.2 hi
      rw [if_neg e]; omega
def kidsCount (kids : Fin 16 → T) : Nat := ((List.finRange 16).map fun i => count (kids i)).sum
theorem count_branch (v : List UInt8) (kids : Fin 16 → T) : count (.branch v kids) = (if v = [] then 0 else 1) + kidsCount kids := rfl
theorem kidsCount_set (kids : Fin 16 → T) (b : UInt8) (t : T) : kidsCount (setKid kids b t) + count (kids (ix b)) = kidsCount kids + count t := by
  have := sum_one (fun i => count (kids i)) (ix b) (count t) (List.finRange 16) (List.nodup_finRange 16) (List.mem_finRange _)
  have e : (fun i => count (setKid kids b t i)) = fun j => if j = ix b then count t else count (kids j) := by
    funext j; unfold setKid; split <;> rfl
  unfold kidsCount
  rw [e]; exact this
theorem kidsCount_none : kidsCount noKids = 0 := by
  unfold kidsCount
  rw [show (fun i => count (noKids i)) = fun _ => 0 from rfl, sum_zero]
theorem count_joined (path : List UInt8) (t : T) : count (joined path t) = count t := by
  unfold joined
  split
  · rfl
  · cases t <;> rfl
theorem count_oneKids (old : List UInt8) (f : List UInt8 → T) (n : Nat) (h : ∀ b r, old = b :: r → count (f r) ≤ n) : kidsCount (oneKids old f) ≤ n ∧ (old = [] → kidsCount (oneKids old f) = 0) := by
  cases old with
  | nil => simp [oneKids, kidsCount_none]
  | cons b r =>
    have := kidsCount_set noKids b (f r)
    have h2 := h b r rfl
    rw [kidsCount_none, show count (noKids (ix b)) = 0 from rfl] at this
    simp only [oneKids]
    exact ⟨by omega, by simp⟩
theorem count_partedG (old w path v : List UInt8) (f : List UInt8 → T) (n : Nat) (h1 : old = [] → (if w = [] then 0 else 1) ≤ n) (h : ∀ b r, old = b :: r → count (f r) ≤ n) : count (partedG old f w path v) ≤ n + 1 := by
  obtain ⟨k1, k2⟩ := count_oneKids old f n h
  cases path with
  | nil =>
    simp only [partedG, count_branch]
    split <;> omega
  | cons b r =>
    simp only [partedG, count_branch]
    have := kidsCount_set (oneKids old f) b (.leaf r v)
    rw [show count (.leaf r v) = 1 from rfl] at this
    cases old with
    | nil =>
      have := k2 rfl
      have := h1 rfl
      rw [show oneOwn [] w = w from rfl]
      omega
    | cons a o => simp only [oneOwn, if_true]; omega
theorem count_put (t : T) : ∀ q v, count (put t q v) ≤ count t + 1 := by
  induction t with
  | nil => intro q v; simp [put, count]
  | leaf p w =>
    intro q v
    simp only [put]
    split
    · simp [count]
    · rw [count_joined]
      exact count_partedG _ _ _ _ _ 1 (fun _ => by split <;> omega) (fun b r _ => by simp [count])
  | ext p t ih =>
    intro q v
    simp only [put]
    split
    · rw [count_joined]; exact ih _ _
    · rw [count_joined]
      exact count_partedG _ _ _ _ _ (count t) (fun _ => by simp) (fun b r _ => by rw [count_joined]; exact Nat.le_refl _)
  | branch w kids ih =>
    intro q v
    cases q with
    | nil => simp only [put, count_branch]; split <;> omega
    | cons b r =>
      simp only [put, count_branch]
      have := kidsCount_set kids b (put (kids (ix b)) r v)
      have := ih (ix b) r v
      omega
theorem count_kid (v : List UInt8) (kids : Fin 16 → T) (i : Fin 16) : count (kids i) ≤ count (.branch v kids) := by
  rw [count_branch]
  have : count (kids i) ≤ kidsCount kids := by
    unfold kidsCount
    have := sum_one (fun i => count (kids i)) i 0 (List.finRange 16) (List.nodup_finRange 16) (List.mem_finRange _)
    simp only [Nat.add_zero] at this
    omega
  omega
theorem small_put {t : T} {q v : List UInt8} (hw : wf t) (hs : small t) (hq : fit q = true) (hl : q.length ≤ 16) (hv : v ≠ []) (hvl : v.length ≤ 32) : wf (put t q v) ∧ small (put t q v) := by
  obtain ⟨h1, h2, _⟩ := put_spec t q v hw hq hv
  refine ⟨h1, fun r hr hne => ?_⟩
  rw [h2 r hr] at hne ⊢
  split
  · rename_i e; subst e; exact ⟨hl, hvl⟩
  · rename_i e
    rw [if_neg e] at hne
    exact hs r hr hne
theorem of_joined_branch {path : List UInt8} {t : T} (hb : isBranch t = true) (hp : fit path = true) (hw : wf (joined path t)) (hs : small (joined path t)) : wf t ∧ small t := by
  by_cases h : path = []
  · subst h
    simp only [joined, if_true] at hw hs
    exact ⟨hw, hs⟩
  · obtain ⟨v, kids, rfl⟩ := branch_of hb
    simp only [joined, if_neg h] at hw hs
    exact ⟨hw.2.2.2, small_ext hp hs⟩
theorem isBranch_partedG (old w path v : List UInt8) (f : List UInt8 → T) : isBranch (partedG old f w path v) = true := by cases path <;> rfl
theorem small_joined_tail {p o : List UInt8} {a : UInt8} {c : Nat} {s : T} (hd : p.drop c = a :: o) (hp : fit p = true) (hn : s ≠ .nil) (hs : small (.ext p s)) : small (joined o s) := by
  intro r hr hne
  have hfo : fit o = true := by
    have := fit_drop c hp
    rw [hd] at this
    exact (fit_cons'.1 this).2
  rw [joined_look _ _ hn] at hne ⊢
  split at hne
  · rename_i h
    rw [if_pos h]
    have hfr : fit (r.drop o.length) = true := fit_drop _ hr
    have := hs (p ++ r.drop o.length) (fit_append.2 ⟨hp, hfr⟩) (by rw [look_ext]; exact hne)
    rw [look_ext, List.length_append] at this
    have hl := congrArg List.length hd
    rw [List.length_drop, List.length_cons] at hl
    have hr2 := congrArg List.length h
    rw [List.length_append] at hr2
    exact ⟨by omega, this.2⟩
  · exact absurd rfl hne
end Trie
end Go.Proofs.YtcjafcbekegmlaaGreatDoor
