import Derived.Test.YtcjafcbekegmlaaDoorJ23
import Derived.Test.YtcjafcbekegmlaaDoorJ29
import Derived.Test.YtcjafcbekegmlaaDoorJ26
import Derived.Test.YtcjafcbekegmlaaDoorJ25
import Derived.Test.YtcjafcbekegmlaaDoorJ16
import Derived.Deep.DeepCutAuto
import Derived.Test.YtcjafcbekegmlaaDoorJ14
import Derived.Test.YtcjafcbekegmlaaDoorJ07
import Derived.Test.YtcjafcbekegmlaaDoorJ19
set_option linter.unusedSimpArgs false
set_option linter.unusedVariables false
namespace Go.Proofs.YtcjafcbekegmlaaDoor
set_option linter.unusedVariables false
open Go.RowKit Go.Instr
attribute [local go_sem] ba_get ByteArray.mk_append_mk
def sums1 (l : List (List UInt8)) : List (List UInt8) := l.map fun s => shaW (1 :: s)
def oddAt (l : List (List UInt8)) (i : Nat) (k : Nat) : Bool := decide ((sums1 l).getD i [] = (sums1 l).getD k []) && !decide (l.getD i [] = l.getD k [])
def oddTo (l : List (List UInt8)) (i k : Nat) : Bool := (List.range k).any fun j => oddAt l i j
def unlikeTo (l : List (List UInt8)) (n : Nat) : Bool := (List.range n).any fun i => oddTo l i i
def unlikeW (l : List (List UInt8)) : Bool := unlikeTo l l.length
theorem oddTo_succ (l : List (List UInt8)) (i k : Nat) : oddTo l i (k + 1) = (oddTo l i k || oddAt l i k) := by simp [oddTo, List.range_succ]
theorem unlikeTo_succ (l : List (List UInt8)) (n : Nat) : unlikeTo l (n + 1) = (unlikeTo l n || oddTo l n n) := by simp [unlikeTo, List.range_succ]
theorem oddTo_mono {l : List (List UInt8)} {i k m : Nat} (h : oddTo l i k = true) (hm : k ≤ m) : oddTo l i m = true := by
  unfold oddTo at h ⊢
  rw [List.any_eq_true] at h ⊢
  obtain ⟨x, hx, h⟩ := h
  exact ⟨x, by rw [List.mem_range] at hx ⊢; omega, h⟩
theorem unlikeTo_mono {l : List (List UInt8)} {k m : Nat} (h : unlikeTo l k = true) (hm : k ≤ m) : unlikeTo l m = true := by
  unfold unlikeTo at h ⊢
  rw [List.any_eq_true] at h ⊢
  obtain ⟨x, hx, h⟩ := h
  exact ⟨x, by rw [List.mem_range] at hx ⊢; omega, h⟩
theorem sums1_at {l : List (List UInt8)} {i : Nat} (h : i < l.length) : (sums1 l).getD i [] = shaW (1 :: l[i]) := by
  unfold sums1
  rw [List.getD_eq_getElem?_getD, List.getElem?_map, List.getElem?_eq_getElem h, Option.map_some, Option.getD_some]
theorem getD_at {l : List (List UInt8)} {i : Nat} (h : i < l.length) : l.getD i [] = l[i] := by
  rw [List.getD_eq_getElem?_getD, List.getElem?_eq_getElem h]; rfl
theorem unlikeW_of {l : List (List UInt8)} {x y : List UInt8} (hx : x ∈ l) (hy : y ∈ l) (hne : x ≠ y) (hs : shaW (1 :: x) = shaW (1 :: y)) : unlikeW l = true := by
  obtain ⟨i, hi, rfl⟩ := List.getElem_of_mem hx
  obtain ⟨j, hj, rfl⟩ := List.getElem_of_mem hy
  have key : ∀ i j (hi : i < l.length) (hj : j < l.length), l[i] ≠ l[j] → shaW (1 :: l[i]) = shaW (1 :: l[j]) → j < i → unlikeW l = true := by
    intro i j hi hj hne hs hlt
    unfold unlikeW unlikeTo
    rw [List.any_eq_true]
    refine ⟨i, List.mem_range.2 hi, ?_⟩
    unfold oddTo
    rw [List.any_eq_true]
    refine ⟨j, List.mem_range.2 hlt, ?_⟩
    unfold oddAt
    rw [sums1_at hi, sums1_at hj, getD_at hi, getD_at hj, decide_eq_true hs, decide_eq_false hne]
    rfl
  rcases Nat.lt_trichotomy i j with h | h | h
  · exact key j i hj hi (Ne.symm hne) hs.symm h
  · subst h; exact absurd rfl hne
  · exact key i j hi hj hne hs h
end Go.Proofs.YtcjafcbekegmlaaDoor

namespace Go.Proofs.YtcjafcbekegmlaaDoor
set_option linter.unusedVariables false
namespace Trie
open Nib
theorem range_fin {α : Type} (f : Nat → α) : (List.range 16).map f = (List.finRange 16).map fun i => f i.val := by
  refine List.ext_getElem (by simp) fun i h1 h2 => ?_
  simp
theorem OkLd.kid {pl v : List UInt8} {kids : Fin 16 → T} (h : OkLd pl (.branch v kids)) (i : Fin 16) (hi : kids i ≠ .nil) : OkLd (pl ++ [UInt8.ofNat i.val]) (kids i) := by
  refine ⟨hi, h.wf.1 i, fun q hq hl => ?_⟩
  obtain ⟨e1, e2⟩ := ix_of i
  have := h.all (UInt8.ofNat i.val :: q) (fit_cons'.2 ⟨e2, hq⟩) (by simp only [look, e1]; exact hl)
  simp only [look, e1] at this
  rw [List.append_assoc]
  exact this
theorem OkLd.below {pl p : List UInt8} {t : T} (h : OkLd pl (.ext p t)) : OkLd (pl ++ p) t := by
  have hw := h.wf
  refine ⟨fun e => (by have := hw.2.2.1; rw [e] at this; cases this), hw.2.2.2, fun q hq hl => ?_⟩
  have := h.all (p ++ q) (fit_append.2 ⟨hw.1, hq⟩) (by rw [look_ext]; exact hl)
  rw [look_ext] at this
  rw [List.append_assoc]
  exact this
theorem OkLd.has {pl : List UInt8} {t : T} (h : OkLd pl t) : ∃ q, fit q = true ∧ look t q ≠ [] := look_some t h.wf (by cases hi : isNil t with | false => rfl | true => exact absurd (isNil_iff.1 hi) h.nn)
theorem OkLd.short {pl : List UInt8} {t : T} (h : OkLd pl t) : pl.length ≤ 16 := by
  obtain ⟨q, h1, h2⟩ := h.has
  have := (h.all q h1 h2).1
  rw [List.length_append] at this
  omega
theorem OkLd.many {pl : List UInt8} {t : T} {m : Nat} (h : OkLd pl t) (hm : m + count t ≤ 1024) : manyLd (nd t) pl m = (m + (if (valT t).isEmpty then 0 else 1), 0) := by
  have hc := count_eq h.nn h.wf
  unfold manyLd nd
  simp only
  by_cases hv : valT t = []
  · rw [if_pos hv, hv]; rfl
  · have he : (valT t).isEmpty = false := by simp [hv]
    rw [he] at hc ⊢
    rw [if_neg hv]
    simp only [Bool.false_eq_true, if_false] at hc ⊢
    have hl : (pl.length + (pathT t).length) % 2 = 0 ∧ pl.length + (pathT t).length ≠ 0 := by
      cases t with
      | nil => exact absurd rfl hv
      | leaf p v =>
        have := h.all p h.wf.1 (by simp [look]; exact h.wf.2)
        simp only [pathT, ← List.length_append]
        exact ⟨this.2.1, fun e => this.2.2.1 (List.length_eq_zero_iff.1 e)⟩
      | ext p t => exact absurd rfl hv
      | branch v kids =>
        have := h.all [] rfl hv
        rw [List.append_nil] at this
        simp only [pathT, List.length_nil, Nat.add_zero]
        exact ⟨this.2.1, fun e => this.2.2.1 (List.length_eq_zero_iff.1 e)⟩
    unfold itemLd
    rw [if_neg (by omega), if_neg (by omega)]
theorem kidAt_nd {pl : List UInt8} {t : T} (i : Fin 16) (h : kidsT t i ≠ .nil) (hok : OkLd pl t) : OkLd (kidAt (nd t) pl i.val) (kidsT t i) ∧ ((kindT t = 2) → isBranch (kidsT t i) = true) ∧ pl.length < (kidAt (nd t) pl i.val).length := by
  cases t with
  | nil => exact absurd rfl h
  | leaf p v => exact absurd rfl h
  | ext p t =>
    simp only [kidsT] at h ⊢
    by_cases hi : i = 0
    · rw [if_pos hi] at h ⊢
      have e : kidAt (nd (.ext p t)) pl i.val = pl ++ p := by simp [kidAt, nd, kindT, pathT]
      rw [e, List.length_append]
      have := List.length_pos_iff.2 hok.wf.2.1
      exact ⟨hok.below, fun _ => hok.wf.2.2.1, by omega⟩
    · rw [if_neg hi] at h; exact absurd rfl h
  | branch v kids =>
    have e : kidAt (nd (.branch v kids)) pl i.val = pl ++ [UInt8.ofNat i.val] := by simp [kidAt, nd, kindT]
    rw [e, List.length_append]
    exact ⟨hok.kid i h, fun e => by simp [kindT] at e, by simp⟩
theorem knots_kid {t k : T} (i : Fin 16) (h : k ∈ knots (kidsT t i)) : k ∈ knots t := by
  cases t with
  | nil => cases h
  | leaf p v => cases h
  | ext p t =>
    simp only [kidsT] at h
    by_cases hi : i = 0
    · rw [if_pos hi] at h; exact List.mem_cons_of_mem _ h
    · rw [if_neg hi] at h; cases h
  | branch v kids =>
    simp only [knots]
    exact List.mem_cons_of_mem _ (List.mem_flatMap.2 ⟨i, List.mem_finRange _, h⟩)
theorem knots_self {t : T} (h : t ≠ .nil) : t ∈ knots t := by
  cases t with
  | nil => exact absurd rfl h
  | leaf p v => simp [knots]
  | ext p t => simp [knots]
  | branch v kids => simp [knots]
theorem Good.okLd {t : T} (h : Good t) (hn : t ≠ .nil) : OkLd [] t := by
  obtain ⟨h1, h2, h3⟩ := h
  refine ⟨hn, h1, fun q hq hl => ?_⟩
  have a := h2 q hq hl
  have b := h3 q hq hl
  exact ⟨a.1, b.1, b.2, a.2⟩
end Trie
end Go.Proofs.YtcjafcbekegmlaaDoor

namespace Go.Proofs.YtcjafcbekegmlaaDoor
set_option linter.unusedVariables false
open Go.RowKit Go.Instr
attribute [local go_sem] ba_get ByteArray.mk_append_mk
theorem icells_take : ∀ (l : List Trie.KV) (i : Nat), icells (l.take i) = (icells l).take (i * 2)
  | [], i => by simp [icells]
  | x :: l, 0 => by simp [icells]
  | x :: l, i + 1 => by
    rw [List.take_succ_cons, show icells (x :: l.take i) = .string ⟨x.1.toArray⟩ :: .string ⟨x.2.toArray⟩ :: icells (l.take i) from rfl, show icells (x :: l) = .string ⟨x.1.toArray⟩ :: .string ⟨x.2.toArray⟩ :: icells l from rfl, icells_take l i, show (i + 1) * 2 = i * 2 + 1 + 1 by omega, List.take_succ_cons, List.take_succ_cons]
theorem icells_drop : ∀ (l : List Trie.KV) (i : Nat), icells (l.drop i) = (icells l).drop (i * 2)
  | [], i => by simp [icells]
  | x :: l, 0 => by simp
  | x :: l, i + 1 => by
    rw [List.drop_succ_cons, show icells (x :: l) = .string ⟨x.1.toArray⟩ :: .string ⟨x.2.toArray⟩ :: icells l from rfl, icells_drop l i, show (i + 1) * 2 = i * 2 + 1 + 1 by omega, List.drop_succ_cons, List.drop_succ_cons]
theorem icells_append (a b : List Trie.KV) : icells (a ++ b) = icells a ++ icells b := by simp [icells]
theorem icells_one (l : List Trie.KV) : ∀ u ∈ icells l, u.oneCell' = true := by
  intro u hu
  simp only [icells, List.mem_flatMap] at hu
  obtain ⟨x, _, hu⟩ := hu
  simp at hu
  rcases hu with rfl | rfl <;> rfl
theorem it_size (w : World) : (sizeOf 50).run Tryd.prog w = .ok 2 w := by
  go_simp
  try rfl
theorem it_elem : Program.elem Tryd.prog 22 = 50 := by kernel_rfl
theorem it_under : Tryd.prog.underlying 22 = some (.slice (Tryd.prog.elem 22)) := by rw [it_elem]; exact Tryd.underlying22
theorem it_cut_to (A : Option Addr) (l : List Trie.KV) (n c i : Nat) (hn : l.length = n) (hi : i ≤ n) (hc : n ≤ c) :
    ∃ A1 c1, (∀ w, (Instr.sliceAt 22 (.slice A n c) none (some (.int .i64 (i : Int))) none).run Tryd.prog w = .ok (.slice A1 i c1) w) ∧ ∀ w B, Reads w B 2 A n (icells l) → Reads w B 2 A1 i (icells (l.take i)) := by
  refine ⟨if c = 0 then A else A.map (·.add (0 * 2)), c - 0, fun w => ?_, fun w B hr => ⟨by rw [icells_length, List.length_take]; omega, fun hp => ?_⟩⟩
  · rw [run_sliceAt_slice _ _ _ _ _ _ it_under, run_slice_h _ _ _ _ _ it_under _ _ (by omega) (by omega)]
    rw [it_elem, it_size w]
    rfl
  · obtain ⟨ad, rfl, hb, hcell⟩ := hr.2 (by omega)
    rw [if_neg (by omega)]
    refine ⟨ad, by simp [Addr.add], hb, fun j u hu => hcell j u ?_⟩
    rw [icells_take] at hu
    have hj : j < i * 2 := by
      have := (List.getElem?_eq_some_iff.1 hu).1
      rw [List.length_take] at this
      omega
    rw [List.getElem?_take_of_lt hj] at hu
    exact hu
theorem it_cut_from (A : Option Addr) (l : List Trie.KV) (n c i : Nat) (hn : l.length = n) (hi : i ≤ n) (hc : n ≤ c) :
    ∃ A1 c1, (∀ w, (Instr.sliceAt 22 (.slice A n c) (some (.int .i64 (i : Int))) none none).run Tryd.prog w = .ok (.slice A1 (n - i) c1) w) ∧ ∀ w B, Reads w B 2 A n (icells l) → Reads w B 2 A1 (n - i) (icells (l.drop i)) := by
  refine ⟨if c = i then A else A.map (·.add (i * 2)), c - i, fun w => ?_, fun w B hr => ?_⟩
  · rw [run_sliceAt_slice _ _ _ _ _ _ it_under, run_slice_l _ _ _ _ _ it_under _ _ (by omega) (by omega)]
    rw [it_elem, it_size w]
    rfl
  · rw [icells_drop]
    exact hr.cut hi hc
end Go.Proofs.YtcjafcbekegmlaaDoor

namespace Go.Proofs.YtcjafcbekegmlaaDoor
set_option linter.unusedVariables false
open Go.RowKit Go.Instr
attribute [local go_sem] ba_get ByteArray.mk_append_mk
theorem decN_small (s : List UInt8) : (decN s).1.2.1.length ≤ 16 ∧ (decN s).1.2.2.2.length = 16 := by
  rcases decN_cases s with h | ⟨n, h, h1, h2, _⟩
  · rw [h]; exact ⟨Nat.zero_le _, rfl⟩
  · rw [h]
    exact ⟨(fineN_parts h2).2.2.1, h1⟩
end Go.Proofs.YtcjafcbekegmlaaDoor
