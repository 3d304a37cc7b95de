import Derived.Test.YtcjafcbekegmlaaDoorJ25
import Derived.Test.YtcjafcbekegmlaaDoorJ23
import Derived.Test.YtcjafcbekegmlaaDoorJ24
import Derived.Test.YtcjafcbekegmlaaDoorJ22
import Derived.Test.YtcjafcbekegmlaaDoorJ13
import Derived.IntWalk
import Derived.Deep.RegionHeld3
import Derived.Test.YtcjafcbekegmlaaDoorJ16
import Derived.Deep.DeepCutAuto
set_option linter.unusedSimpArgs false
set_option linter.unusedVariables false
namespace Go.Proofs.YtcjafcbekegmlaaDoor
set_option linter.unusedVariables false
namespace Trie
theorem rep_getD (n i : Nat) : (List.replicate n ([] : List UInt8)).getD i [] = [] := by
  rw [List.getD_eq_getElem?_getD, List.getElem?_replicate]
  split <;> rfl
end Trie
end Go.Proofs.YtcjafcbekegmlaaDoor

namespace Go.Proofs.YtcjafcbekegmlaaDoor
set_option linter.unusedVariables false
theorem trail_cover (key a b : List UInt8) (h1 : Op.bytesLess key a = false) (h2 : b = [] ∨ Op.bytesLess key b = true) (pl : List UInt8) (h : trailW (Nib.of key) pl = true) : coverW (Nib.of a) (Nib.of b) b pl = true := by
  have hp : Nib.of key = pl ++ (Nib.of key).drop pl.length := Trie.prefix_common.1 (of_decide_eq_true h)
  have g1 : 0 ≤ Nib.side pl (Nib.of a) := by
    rcases Nib.side_cases pl (Nib.of a) with e | e | e
    · have := (Nib.side_below ((Nib.of key).drop pl.length) e).1
      rw [← hp, Nib.blt_of, h1] at this
      cases this
    · omega
    · omega
  have g2 : b = [] ∨ Nib.side pl (Nib.of b) ≤ 0 := by
    rcases h2 with h2 | h2
    · exact .inl h2
    · refine .inr ?_
      rcases Nib.side_cases pl (Nib.of b) with e | e | e
      · omega
      · omega
      · have := Nib.side_above ((Nib.of key).drop pl.length) e
        rw [← hp, Nib.blt_of, h2] at this
        cases this
  simp only [coverW, Bool.and_eq_true, Bool.or_eq_true, decide_eq_true_eq]
  exact ⟨g1, g2.imp (fun e => by rw [e]; rfl) id⟩
end Go.Proofs.YtcjafcbekegmlaaDoor

namespace Go.Proofs.YtcjafcbekegmlaaDoor
set_option linter.unusedVariables false
namespace Trie
open Nib
def inK (f e k : List UInt8) : Bool := !Op.bytesLess k f && (decide (e = []) || Op.bytesLess k e)
abbrev Gst := List KV × List (List UInt8)
def kidsGa (F : List UInt8 → List UInt8 → Gst → Bool × Gst) (K : List (List UInt8)) (at_ : Nat → List UInt8) : Nat → Gst → Bool × Gst
  | 0, st => (true, st)
  | n + 1, st => if K.getD (15 - n) [] = [] then kidsGa F K at_ n st
    else if (F (K.getD (15 - n) []) (at_ (15 - n)) st).1 = true then kidsGa F K at_ n (F (K.getD (15 - n) []) (at_ (15 - n)) st).2
    else (false, (F (K.getD (15 - n) []) (at_ (15 - n)) st).2)
def itemGa (f e path value : List UInt8) (l : List KV) : Bool × List KV :=
  if (key path).2 ≠ 0 ∨ (key path).1 = [] ∨ 16 < path.length then (false, l) else (true, if inK f e (key path).1 = true then l ++ [((key path).1, value)] else l)
def ownGa (f e : List UInt8) (n : Nd) (pl : List UInt8) (l : List KV) : Bool × List KV := if n.2.2.1 = [] then (true, l) else itemGa f e (pl ++ n.2.1) n.2.2.1 l
def gathW (may : List UInt8 → Bool) (f e : List UInt8) : Nat → List UInt8 → List UInt8 → Gst → Bool × Gst
  | 0, _, _, st => (false, st)
  | n + 1, sum, pl, st => if may pl = false then (true, st)
    else match st.2 with
      | [] => (false, st)
      | x :: left =>
        if shaW (1 :: x) ≠ sum ∨ (decN x).2 ≠ 0 then (false, (st.1, left))
        else if (ownGa f e (decN x).1 pl st.1).1 = false then (false, ((ownGa f e (decN x).1 pl st.1).2, left))
        else kidsGa (gathW may f e n) (decN x).1.2.2.2 (kidAt (decN x).1 pl) 16 ((ownGa f e (decN x).1 pl st.1).2, left)
theorem gathW_no (may : List UInt8 → Bool) (f e : List UInt8) (n : Nat) (sum pl : List UInt8) (st : Gst) (h : may pl = false) : gathW may f e (n + 1) sum pl st = (true, st) := by
  rw [gathW, if_pos h]
theorem gathW_nil (may : List UInt8 → Bool) (f e : List UInt8) (n : Nat) (sum pl : List UInt8) (l : List KV) (h : may pl = true) : gathW may f e (n + 1) sum pl (l, []) = (false, (l, [])) := by
  rw [gathW, if_neg (by simp [h])]
theorem gathW_cons (may : List UInt8 → Bool) (f e : List UInt8) (n : Nat) (sum pl : List UInt8) (l : List KV) (x : List UInt8) (left : List (List UInt8)) (h : may pl = true) : gathW may f e (n + 1) sum pl (l, x :: left) =
    if shaW (1 :: x) ≠ sum ∨ (decN x).2 ≠ 0 then (false, (l, left))
        else if (ownGa f e (decN x).1 pl l).1 = false then (false, ((ownGa f e (decN x).1 pl l).2, left))
        else kidsGa (gathW may f e n) (decN x).1.2.2.2 (kidAt (decN x).1 pl) 16 ((ownGa f e (decN x).1 pl l).2, left) := by
  rw [gathW, if_neg (by simp [h])]
theorem kidsGa_more {F : List UInt8 → List UInt8 → Gst → Bool × Gst} {K : List (List UInt8)} {at_ : Nat → List UInt8} (b : List (List UInt8)) (hF : ∀ s p st st', F s p st = (true, st') → F s p (st.1, st.2 ++ b) = (true, (st'.1, st'.2 ++ b))) :
    ∀ n st st', kidsGa F K at_ n st = (true, st') → kidsGa F K at_ n (st.1, st.2 ++ b) = (true, (st'.1, st'.2 ++ b))
  | 0, st, st', h => by rw [kidsGa] at h ⊢; injection h with _ h; rw [h]
  | n + 1, st, st', h => by
    rw [kidsGa] at h ⊢
    by_cases h0 : K.getD (15 - n) [] = []
    · rw [if_pos h0] at h ⊢
      exact kidsGa_more b hF n st st' h
    · rw [if_neg h0] at h ⊢
      by_cases h1 : (F (K.getD (15 - n) []) (at_ (15 - n)) st).1 = true
      · rw [if_pos h1] at h
        have h2 := hF (K.getD (15 - n) []) (at_ (15 - n)) st (F (K.getD (15 - n) []) (at_ (15 - n)) st).2 (by rw [← h1])
        rw [h2, if_pos rfl]
        exact kidsGa_more b hF n _ st' h
      · rw [if_neg h1] at h; cases h
theorem gathW_more (may : List UInt8 → Bool) (f e : List UInt8) (b : List (List UInt8)) : ∀ n s p st st', gathW may f e n s p st = (true, st') → gathW may f e n s p (st.1, st.2 ++ b) = (true, (st'.1, st'.2 ++ b))
  | 0, s, p, st, st', h => by rw [gathW] at h; cases h
  | n + 1, s, p, (l, nodes), st', h => by
    cases hm : may p with
    | false =>
      rw [gathW_no _ _ _ _ _ _ _ hm] at h ⊢
      injection h with _ h
      rw [← h]
    | true =>
      cases nodes with
      | nil => rw [gathW_nil _ _ _ _ _ _ _ hm] at h; cases h
      | cons x left =>
        show gathW may f e (n + 1) s p (l, x :: (left ++ b)) = _
        rw [gathW_cons _ _ _ _ _ _ _ _ _ hm] at h ⊢
        split at h
        · cases h
        · rename_i h1
          rw [if_neg h1]
          split at h
          · cases h
          · rename_i h2
            rw [if_neg h2]
            exact kidsGa_more b (fun s p st st' h => gathW_more may f e b n s p st st' h) 16 _ st' h
end Trie
end Go.Proofs.YtcjafcbekegmlaaDoor

namespace Go.Proofs.YtcjafcbekegmlaaDoor
set_option linter.unusedVariables false
namespace Trie
open Nib
theorem range_fin {α : Type} (f : Nat → α) : (List.range 16).map f = (List.finRange 16).map fun i => f i.val := by
  refine List.ext_getElem (by simp) fun i h1 h2 => ?_
  simp
theorem OkLd.kid {pl v : List UInt8} {kids : Fin 16 → T} (h : OkLd pl (.branch v kids)) (i : Fin 16) (hi : kids i ≠ .nil) : OkLd (pl ++ [UInt8.ofNat i.val]) (kids i) := by
  refine ⟨hi, h.wf.1 i, fun q hq hl => ?_⟩
  obtain ⟨e1, e2⟩ := ix_of i
  have := h.all (UInt8.ofNat i.val :: q) (fit_cons'.2 ⟨e2, hq⟩) (by simp only [look, e1]; exact hl)
  simp only [look, e1] at this
  rw [List.append_assoc]
  exact this
theorem OkLd.below {pl p : List UInt8} {t : T} (h : OkLd pl (.ext p t)) : OkLd (pl ++ p) t := by
  have hw := h.wf
  refine ⟨fun e => (by have := hw.2.2.1; rw [e] at this; cases this), hw.2.2.2, fun q hq hl => ?_⟩
  have := h.all (p ++ q) (fit_append.2 ⟨hw.1, hq⟩) (by rw [look_ext]; exact hl)
  rw [look_ext] at this
  rw [List.append_assoc]
  exact this
theorem OkLd.has {pl : List UInt8} {t : T} (h : OkLd pl t) : ∃ q, fit q = true ∧ look t q ≠ [] := look_some t h.wf (by cases hi : isNil t with | false => rfl | true => exact absurd (isNil_iff.1 hi) h.nn)
theorem OkLd.short {pl : List UInt8} {t : T} (h : OkLd pl t) : pl.length ≤ 16 := by
  obtain ⟨q, h1, h2⟩ := h.has
  have := (h.all q h1 h2).1
  rw [List.length_append] at this
  omega
theorem OkLd.many {pl : List UInt8} {t : T} {m : Nat} (h : OkLd pl t) (hm : m + count t ≤ 1024) : manyLd (nd t) pl m = (m + (if (valT t).isEmpty then 0 else 1), 0) := by
  have hc := count_eq h.nn h.wf
  unfold manyLd nd
  simp only
  by_cases hv : valT t = []
  · rw [if_pos hv, hv]; rfl
  · have he : (valT t).isEmpty = false := by simp [hv]
    rw [he] at hc ⊢
    rw [if_neg hv]
    simp only [Bool.false_eq_true, if_false] at hc ⊢
    have hl : (pl.length + (pathT t).length) % 2 = 0 ∧ pl.length + (pathT t).length ≠ 0 := by
      cases t with
      | nil => exact absurd rfl hv
      | leaf p v =>
        have := h.all p h.wf.1 (by simp [look]; exact h.wf.2)
        simp only [pathT, ← List.length_append]
        exact ⟨this.2.1, fun e => this.2.2.1 (List.length_eq_zero_iff.1 e)⟩
      | ext p t => exact absurd rfl hv
      | branch v kids =>
        have := h.all [] rfl hv
        rw [List.append_nil] at this
        simp only [pathT, List.length_nil, Nat.add_zero]
        exact ⟨this.2.1, fun e => this.2.2.1 (List.length_eq_zero_iff.1 e)⟩
    unfold itemLd
    rw [if_neg (by omega), if_neg (by omega)]
theorem kidAt_nd {pl : List UInt8} {t : T} (i : Fin 16) (h : kidsT t i ≠ .nil) (hok : OkLd pl t) : OkLd (kidAt (nd t) pl i.val) (kidsT t i) ∧ ((kindT t = 2) → isBranch (kidsT t i) = true) ∧ pl.length < (kidAt (nd t) pl i.val).length := by
  cases t with
  | nil => exact absurd rfl h
  | leaf p v => exact absurd rfl h
  | ext p t =>
    simp only [kidsT] at h ⊢
    by_cases hi : i = 0
    · rw [if_pos hi] at h ⊢
      have e : kidAt (nd (.ext p t)) pl i.val = pl ++ p := by simp [kidAt, nd, kindT, pathT]
      rw [e, List.length_append]
      have := List.length_pos_iff.2 hok.wf.2.1
      exact ⟨hok.below, fun _ => hok.wf.2.2.1, by omega⟩
    · rw [if_neg hi] at h; exact absurd rfl h
  | branch v kids =>
    have e : kidAt (nd (.branch v kids)) pl i.val = pl ++ [UInt8.ofNat i.val] := by simp [kidAt, nd, kindT]
    rw [e, List.length_append]
    exact ⟨hok.kid i h, fun e => by simp [kindT] at e, by simp⟩
theorem Good.okLd {t : T} (h : Good t) (hn : t ≠ .nil) : OkLd [] t := by
  obtain ⟨h1, h2, h3⟩ := h
  refine ⟨hn, h1, fun q hq hl => ?_⟩
  have a := h2 q hq hl
  have b := h3 q hq hl
  exact ⟨a.1, b.1, b.2, a.2⟩
end Trie
end Go.Proofs.YtcjafcbekegmlaaDoor
