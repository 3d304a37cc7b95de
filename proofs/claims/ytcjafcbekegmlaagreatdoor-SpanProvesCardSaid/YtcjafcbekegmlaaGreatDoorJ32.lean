import Derived.Test.YtcjafcbekegmlaaGreatDoorJ27
import Derived.Test.YtcjafcbekegmlaaGreatDoorJ25
import Derived.Test.YtcjafcbekegmlaaGreatDoorJ13
import Derived.Test.YtcjafcbekegmlaaGreatDoorJ31
import Derived.Test.YtcjafcbekegmlaaGreatDoorJ26
import Derived.Test.YtcjafcbekegmlaaGreatDoorJ17
import Derived.Deep.DeepCutAuto
import Derived.Test.YtcjafcbekegmlaaGreatDoorJ28
set_option linter.unusedSimpArgs false
set_option linter.unusedVariables false
namespace Go.Proofs.YtcjafcbekegmlaaGreatDoor
set_option linter.unusedVariables false
namespace Trie
open Nib
theorem range_fin {α : Type} (f : Nat → α) : (List.range 16).map f = (List.finRange 16).map fun i => f i.val := by
  refine List.ext_getElem (by simp) fun i h1 h2 => ?_
  simp
theorem OkLd.kid {pl v : List UInt8} {kids : Fin 16 → T} (h : OkLd pl (.branch v kids)) (i : Fin 16) (hi : kids i ≠ .nil) : OkLd (pl ++ [UInt8.ofNat i.val]) (kids i) := by
  refine ⟨hi, h.wf.1 i, fun q hq hl => ?_⟩
  obtain ⟨e1, e2⟩ := ix_of i
  have := h.all (UInt8.ofNat i.val :: q) (fit_cons'.2 ⟨e2, hq⟩) (by simp only [look, e1]; exact hl)
  simp only [look, e1] at this
  rw [List.append_assoc]
  exact this
theorem OkLd.below {pl p : List UInt8} {t : T} (h : OkLd pl (.ext p t)) : OkLd (pl ++ p) t := by
  have hw := h.wf
  refine ⟨fun e => (by have := hw.2.2.1; rw [e] at this; cases this), hw.2.2.2, fun q hq hl => ?_⟩
  have := h.all (p ++ q) (fit_append.2 ⟨hw.1, hq⟩) (by rw [look_ext]; exact hl)
  rw [look_ext] at this
  rw [List.append_assoc]
  exact this
theorem OkLd.has {pl : List UInt8} {t : T} (h : OkLd pl t) : ∃ q, fit q = true ∧ look t q ≠ [] := look_some t h.wf (by cases hi : isNil t with | false => rfl | true => exact absurd (isNil_iff.1 hi) h.nn)
theorem OkLd.short {pl : List UInt8} {t : T} (h : OkLd pl t) : pl.length ≤ 16 := by
  obtain ⟨q, h1, h2⟩ := h.has
  have := (h.all q h1 h2).1
  rw [List.length_append] at this
  omega
theorem OkLd.many {pl : List UInt8} {t : T} {m : Nat} (h : OkLd pl t) (hm : m + count t ≤ 1024) : manyLd (nd t) pl m = (m + (if (valT t).isEmpty then 0 else 1), 0) := by
  have hc := count_eq h.nn h.wf
  unfold manyLd nd
  simp only
  by_cases hv : valT t = []
  · rw [if_pos hv, hv]; rfl
  · have he : (valT t).isEmpty = false := by simp [hv]
    rw [he] at hc ⊢
    rw [if_neg hv]
    simp only [Bool.false_eq_true, if_false] at hc ⊢
    have hl : (pl.length + (pathT t).length) % 2 = 0 ∧ pl.length + (pathT t).length ≠ 0 := by
      cases t with
      | nil => exact absurd rfl hv
      | leaf p v =>
        have := h.all p h.wf.1 (by simp [look]; exact h.wf.2)
        simp only [pathT, ← List.length_append]
        exact ⟨this.2.1, fun e => this.2.2.1 (List.length_eq_zero_iff.1 e)⟩
      | ext p t => exact absurd rfl hv
      | branch v kids =>
        have := h.all [] rfl hv
        rw [List.append_nil] at this
        simp only [pathT, List.length_nil, Nat.add_zero]
        exact ⟨this.2.1, fun e => this.2.2.1 (List.length_eq_zero_iff.1 e)⟩
    unfold itemLd
    rw [if_neg (by omega), if_neg (by omega)]
theorem kidAt_nd {pl : List UInt8} {t : T} (i : Fin 16) (h : kidsT t i ≠ .nil) (hok : OkLd pl t) : OkLd (kidAt (nd t) pl i.val) (kidsT t i) ∧ ((kindT t = 2) → isBranch (kidsT t i) = true) ∧ pl.length < (kidAt (nd t) pl i.val).length := by
  cases t with
  | nil => exact absurd rfl h
  | leaf p v => exact absurd rfl h
  | ext p t =>
    simp only [kidsT] at h ⊢
    by_cases hi : i = 0
    · rw [if_pos hi] at h ⊢
      have e : kidAt (nd (.ext p t)) pl i.val = pl ++ p := by simp [kidAt, nd, kindT, pathT]
      rw [e, List.length_append]
      have := List.length_pos_iff.2 hok.wf.2.1
      exact ⟨hok.below, fun _ => hok.wf.2.2.1, by omega⟩
    · rw [if_neg hi] at h; exact absurd rfl h
  | branch v kids =>
    have e : kidAt (nd (.branch v kids)) pl i.val = pl ++ [UInt8.ofNat i.val] := by simp [kidAt, nd, kindT]
    rw [e, List.length_append]
    exact ⟨hok.kid i h, fun e => by simp [kindT] at e, by simp⟩
theorem Good.okLd {t : T} (h : Good t) (hn : t ≠ .nil) : OkLd [] t := by
  obtain ⟨h1, h2, h3⟩ := h
  refine ⟨hn, h1, fun q hq hl => ?_⟩
  have a := h2 q hq hl
  have b := h3 q hq hl
  exact ⟨a.1, b.1, b.2, a.2⟩
end Trie
end Go.Proofs.YtcjafcbekegmlaaGreatDoor

namespace Go.Proofs.YtcjafcbekegmlaaGreatDoor
set_option linter.unusedVariables false
open Go.RowKit Go.Instr
attribute [local go_sem] ba_get ByteArray.mk_append_mk
theorem icells_take : ∀ (l : List Trie.KV) (i : Nat), icells (l.take i) = (icells l).take (i * 2)
  | [], i => by simp [icells]
  | x :: l, 0 => by simp [icells]
  | x :: l, i + 1 => by
    rw [List.take_succ_cons, show icells (x :: l.take i) = .string ⟨x.1.toArray⟩ :: .string ⟨x.2.toArray⟩ :: icells (l.take i) from rfl, show icells (x :: l) = .string ⟨x.1.toArray⟩ :: .string ⟨x.2.toArray⟩ :: icells l from rfl, icells_take l i, show (i + 1) * 2 = i * 2 + 1 + 1 by omega, List.take_succ_cons, List.take_succ_cons]
theorem icells_drop : ∀ (l : List Trie.KV) (i : Nat), icells (l.drop i) = (icells l).drop (i * 2)
  | [], i => by simp [icells]
  | x :: l, 0 => by simp
  | x :: l, i + 1 => by
    rw [List.drop_succ_cons, show icells (x :: l) = .string ⟨x.1.toArray⟩ :: .string ⟨x.2.toArray⟩ :: icells l from rfl, icells_drop l i, show (i + 1) * 2 = i * 2 + 1 + 1 by omega, List.drop_succ_cons, List.drop_succ_cons]
theorem icells_append (a b : List Trie.KV) : icells (a ++ b) = icells a ++ icells b := by simp [icells]
theorem icells_one (l : List Trie.KV) : ∀ u ∈ icells l, u.oneCell' = true := by
  intro u hu
  simp only [icells, List.mem_flatMap] at hu
  obtain ⟨x, _, hu⟩ := hu
  simp at hu
  rcases hu with rfl | rfl <;> rfl
theorem it_size (w : World) : (sizeOf 76).run Tryz.prog w = .ok 2 w := by
  go_simp
  try rfl
theorem it_elem : Program.elem Tryz.prog 39 = 76 := by kernel_rfl
theorem it_under : Tryz.prog.underlying 39 = some (.slice (Tryz.prog.elem 39)) := by rw [it_elem]; exact Tryz.underlying39
theorem it_cut_to (A : Option Addr) (l : List Trie.KV) (n c i : Nat) (hn : l.length = n) (hi : i ≤ n) (hc : n ≤ c) :
    ∃ A1 c1, (∀ w, (Instr.sliceAt 39 (.slice A n c) none (some (.int .i64 (i : Int))) none).run Tryz.prog w = .ok (.slice A1 i c1) w) ∧ ∀ w B, Reads w B 2 A n (icells l) → Reads w B 2 A1 i (icells (l.take i)) := by
  refine ⟨if c = 0 then A else A.map (·.add (0 * 2)), c - 0, fun w => ?_, fun w B hr => ⟨by rw [icells_length, List.length_take]; omega, fun hp => ?_⟩⟩
  · rw [run_sliceAt_slice _ _ _ _ _ _ it_under, run_slice_h _ _ _ _ _ it_under _ _ (by omega) (by omega)]
    rw [it_elem, it_size w]
    rfl
  · obtain ⟨ad, rfl, hb, hcell⟩ := hr.2 (by omega)
    rw [if_neg (by omega)]
    refine ⟨ad, by simp [Addr.add], hb, fun j u hu => hcell j u ?_⟩
    rw [icells_take] at hu
    have hj : j < i * 2 := by
      have := (List.getElem?_eq_some_iff.1 hu).1
      rw [List.length_take] at this
      omega
    rw [List.getElem?_take_of_lt hj] at hu
    exact hu
theorem it_cut_from (A : Option Addr) (l : List Trie.KV) (n c i : Nat) (hn : l.length = n) (hi : i ≤ n) (hc : n ≤ c) :
    ∃ A1 c1, (∀ w, (Instr.sliceAt 39 (.slice A n c) (some (.int .i64 (i : Int))) none none).run Tryz.prog w = .ok (.slice A1 (n - i) c1) w) ∧ ∀ w B, Reads w B 2 A n (icells l) → Reads w B 2 A1 (n - i) (icells (l.drop i)) := by
  refine ⟨if c = i then A else A.map (·.add (i * 2)), c - i, fun w => ?_, fun w B hr => ?_⟩
  · rw [run_sliceAt_slice _ _ _ _ _ _ it_under, run_slice_l _ _ _ _ _ it_under _ _ (by omega) (by omega)]
    rw [it_elem, it_size w]
    rfl
  · rw [icells_drop]
    exact hr.cut hi hc
end Go.Proofs.YtcjafcbekegmlaaGreatDoor

namespace Go.Proofs.YtcjafcbekegmlaaGreatDoor
set_option linter.unusedVariables false
open Go.RowKit Go.Instr
attribute [local go_sem] ba_get ByteArray.mk_append_mk
theorem own_at {w : World} {base e size n c : Nat} {A : Option Addr} {xs : List Value} (h : w.ownsRow base e size (.slice A n c) n xs) (hn : 0 < n) (hs : 0 < size) :
    ∃ g, A = some ⟨g, 0, none⟩ ∧ base ≤ g ∧ g < w.heap.size ∧ ∀ (j : Nat) (hj : j < xs.length), w.cell? ⟨g, j, none⟩ = some xs[j] := by
  obtain ⟨A', c', hv, HR, hc, hb⟩ := own_form h
  injection hv with hA _ _
  subst hA
  obtain ⟨g, cap, hv, hge, hlt⟩ := h.form hn
  injection hv with hA
  subst hA
  obtain ⟨b, off, e1, hbl, hcell⟩ := HR.form hn hs
  injection e1 with e1
  injection e1 with e1 e2
  subst e1
  subst e2
  exact ⟨g, rfl, hge, hlt, fun j hj => by have := hcell j hj; rwa [Nat.zero_add] at this⟩
theorem grown_set1 {w w' : World} {g : Nat} (h : w.grownBy w' (some g)) (i : Nat) (v : Value) : w.grownBy (w'.setCell ⟨g, i, none⟩ v) (some g) :=
  ⟨h.os, h.tape, h.output, by rw [World.size_setCell]; exact h.size, fun k hk hne => (Below.heap_setCell w' ⟨g, i, none⟩ v k (fun e => hne (by rw [e]))).trans (h.block k hk hne)⟩
set_option maxHeartbeats 1000000 in
theorem book_SpoilTexts2 (w : World) (B : Nat) (A : Option Addr) (n c : Nat) (xs : List Value) (own : w.ownsRow B 9 1 (.slice A n c) n xs) (hB : B ≤ w.heap.size) (hn : n ≤ 1000000) :
    Calls Tryz.prog 23 #[.slice A n c] w fun e w' => e = .returned (.tuple #[]) ∧ w.grownBy w' (Value.slice A n c).ownBlock := by
  have HP : Hid (∀ w', w.grownBy w' (Value.slice A n c).ownBlock → (fun e w' => e = Ending.returned (.tuple #[]) ∧ w.grownBy w' (Value.slice A n c).ownBlock) (.returned (.tuple #[])) w') := Lib.hid (fun w' h => ⟨rfl, h⟩)
  generalize (fun e w' => e = Ending.returned (.tuple #[]) ∧ w.grownBy w' (Value.slice A n c).ownBlock) = P at HP ⊢
  have HO := Lib.hid own
  clear own
  go_enter Tryz.func23, Tryz.ntmps23
  go_wp2
  refine wp_loop_ghost_k (fun k a wr => ∀ Φ : Act → Prop, (∀ (s1 s3 s4 s5 s6 s7 s8 s9 s10 s11 : Value) (i : Nat) (ys : List Value), (i + k = n ∧ wr.ownsRow B 9 1 (.slice A n c) n ys ∧ w.grownBy wr (Value.slice A n c).ownBlock) → Φ { tmps := #[.slice A n c, s1, .int .i64 (i : Int), s3, s4, s5, s6, s7, s8, s9, s10, s11], defers := [] }) → Φ a) (n) ?_ ?_
  · refine fun Φ hΦ => hΦ _ _ _ _ _ _ _ _ _ _ (0) (xs) ?_
    exact ⟨by omega, HO.out, World.grownBy.refl _ _⟩
  · intro k1 a1 wr1 hI1 J1 K1 hJ1 hK1
    refine hI1 (fun a => Code.wp _ _ _ a _) ?_
    clear hI1 a1
    intro s0 s1 s2 s3 s4 s5 s6 s7 s8 s9 i ys hrel
    show Code.wp _ _ _ _ _
    obtain ⟨h1, ho, hb⟩ := hrel
    by_cases hi : i < n
    · obtain ⟨g, rfl, hge, hlt, hc⟩ := own_at ho (by omega) (by omega)
      have hl : ys.length = n * 1 := ho.1
      have c0 := hc i (by omega)
      have f0 := ho.frozenAt i
      have H := Lib.hid (And.intro h1 (And.intro ho (And.intro hb hge)))
      have hi1 : (i : Int) < n := by omega
      have hi0 : (0 : Int) ≤ i := by omega
      generalize ys[i] = u0 at *
      clear h1 ho hb hge hc
      go_wp2
      refine Handed.intro (n - (i + 1)) ?_ (hJ1 _ _ _ (fun Φ hΦ => hΦ _ _ _ _ _ _ _ _ _ _ (i + 1) ((ys.set i (.string ⟨#[97, 110, 111, 116, 104, 101, 114, 32, 111, 110, 101]⟩))) ?_))
      · have := H.out.1
        omega
      · obtain ⟨h1, ho, hb, hge⟩ := H.out
        have s1 := ho.stored i (.string ⟨#[97, 110, 111, 116, 104, 101, 114, 32, 111, 110, 101]⟩)
        exact ⟨by omega, s1.1, (grown_set1 hb _ _)⟩
    · have hi2 : ((i : Int) < n) = False := by simp; omega
      have H := Lib.hid hb
      clear ho hb h1 hi
      go_wp2
      go_end0
      exact HP.out _ H.out
end Go.Proofs.YtcjafcbekegmlaaGreatDoor

namespace Go.Proofs.YtcjafcbekegmlaaGreatDoor
set_option linter.unusedVariables false
open Go.RowKit Go.Instr
attribute [local go_sem] ba_get ByteArray.mk_append_mk
attribute [local go_sem ↓] Go.wp_at_zero Go.wp_at_succ
set_option maxRecDepth 100000 in
set_option maxHeartbeats 2000000 in
theorem book_SamePage (w : World) (l : List (List UInt8 × List UInt8)) (s : List UInt8) (N : List (List UInt8)) (A A' : Option Addr) (c c' : Nat) (B B' : Option Addr) (d d' : Nat) (h1 : Reads w w.heap.size 2 A l.length (icells l)) (h2 : Reads w w.heap.size 2 A' l.length (icells l)) (h3 : Reads w w.heap.size 1 B N.length (strv N)) (h4 : Reads w w.heap.size 1 B' N.length (strv N)) (hl : l.length ≤ 1048576) (hN : N.length ≤ 1048576) :
    Calls Tryz.prog 22 #[.agg #[.slice A l.length c, .string ⟨s.toArray⟩, .slice B N.length d], .agg #[.slice A' l.length c', .string ⟨s.toArray⟩, .slice B' N.length d']] w fun e w' => e = .returned (.bool true) ∧ Below w.heap.size w w' := by
  have HP : Hid (∀ w', Below w.heap.size w w' → (fun e w' => e = Ending.returned (.bool true) ∧ Below w.heap.size w w') (Ending.returned (.bool true)) w') := Lib.hid (fun W' a2 => ⟨rfl, a2⟩)
  generalize (fun e w' => e = Ending.returned (.bool true) ∧ Below w.heap.size w w') = P at HP ⊢
  have HS : Hid (∀ W, Below w.heap.size w W → Calls Tryz.prog 28 #[.slice A l.length c, .slice A' l.length c'] W fun e w' => e = .returned (.bool true) ∧ Below W.heap.size W w') := Lib.hid (fun W hW => by
    have := book_SameItems A A' _ _ c c' l l W ((h1.below hW).more hW.size) ((h2.below hW).more hW.size) hl hl
    rwa [decide_eq_true rfl] at this)
  have HT : Hid (∀ W, Below w.heap.size w W → Calls Tryz.prog 16 #[.slice B N.length d, .slice B' N.length d'] W fun e w' => e = .returned (.bool true) ∧ Below W.heap.size W w') := Lib.hid (fun W hW => by
    have := book_SameTexts B B' _ _ d d' N N W ((h3.below hW).more hW.size) ((h4.below hW).more hW.size) hN hN
    rwa [decide_eq_true rfl] at this)
  clear h1 h2 h3 h4 hl hN
  go_enter Tryz.func22, Tryz.ntmps22
  go_upto_region 1 with fail
  have F00 := Live.ha (Lib.hid (Live.start w)) #[.slice A l.length c, .string ⟨s.toArray⟩, .slice B N.length d] 46
  have F01 := Live.ha F00 #[.slice A' l.length c', .string ⟨s.toArray⟩, .slice B' N.length d'] 46
  rw [show (w.alloc (.cells #[.slice A l.length c, .string ⟨s.toArray⟩, .slice B N.length d] 46)).heap.size = w.heap.size + 1 from by show (w.heap.push _).size = _; exact Array.size_push _] at F01
  generalize (w.alloc (.cells #[.slice A l.length c, .string ⟨s.toArray⟩, .slice B N.length d] 46)).alloc (.cells #[.slice A' l.length c', .string ⟨s.toArray⟩, .slice B' N.length d'] 46) = W0 at F01 ⊢
  clear F00
  obtain ⟨qb, hqb⟩ : ∃ qb, w.heap.size + 1 = qb := ⟨_, rfl⟩
  obtain ⟨pb, hpb⟩ : ∃ pb, w.heap.size = pb := ⟨_, rfl⟩
  have F0 : Hid (Live w W0 [(qb, 46, #[.slice A' l.length c', .string ⟨s.toArray⟩, .slice B' N.length d']), (pb, 46, #[.slice A l.length c, .string ⟨s.toArray⟩, .slice B N.length d])]) := by rw [← hqb, ← hpb]; exact F01
  rw [hqb, hpb]
  clear F01 hqb hpb
  have k0_0 : W0.cell? ⟨qb, 0, none⟩ = some (.slice A' l.length c') := F0.out.cell 0 0 rfl rfl; have k0_1 : W0.cell? ⟨qb, 1, none⟩ = some (.string ⟨s.toArray⟩) := F0.out.cell 0 1 rfl rfl; have k0_2 : W0.cell? ⟨qb, 2, none⟩ = some (.slice B' N.length d') := F0.out.cell 0 2 rfl rfl
  have k1_0 : W0.cell? ⟨pb, 0, none⟩ = some (.slice A l.length c) := F0.out.cell 1 0 rfl rfl; have k1_1 : W0.cell? ⟨pb, 1, none⟩ = some (.string ⟨s.toArray⟩) := F0.out.cell 1 1 rfl rfl; have k1_2 : W0.cell? ⟨pb, 2, none⟩ = some (.slice B N.length d) := F0.out.cell 1 2 rfl rfl
  go_wp2_with fail
  refine (HS.out _ F0.out.b).mono ?_
  rintro q w1 ⟨rfl, hb⟩
  have F1 := Live.hb F0 hb
  clear hb F0 k0_0 k0_1 k0_2 k1_0 k1_1 k1_2 HS
  have k0_0 : w1.cell? ⟨qb, 0, none⟩ = some (.slice A' l.length c') := F1.out.cell 0 0 rfl rfl; have k0_1 : w1.cell? ⟨qb, 1, none⟩ = some (.string ⟨s.toArray⟩) := F1.out.cell 0 1 rfl rfl; have k0_2 : w1.cell? ⟨qb, 2, none⟩ = some (.slice B' N.length d') := F1.out.cell 0 2 rfl rfl
  have k1_0 : w1.cell? ⟨pb, 0, none⟩ = some (.slice A l.length c) := F1.out.cell 1 0 rfl rfl; have k1_1 : w1.cell? ⟨pb, 1, none⟩ = some (.string ⟨s.toArray⟩) := F1.out.cell 1 1 rfl rfl; have k1_2 : w1.cell? ⟨pb, 2, none⟩ = some (.slice B N.length d) := F1.out.cell 1 2 rfl rfl
  go_wp2_with fail
  refine (HT.out _ F1.out.b).mono ?_
  rintro q w2 ⟨rfl, hb⟩
  have F2 := Live.hb F1 hb
  clear hb F1 k0_0 k0_1 k0_2 k1_0 k1_1 k1_2 HT
  go_wp2_with fail
  exact HP.out _ F2.out.b
end Go.Proofs.YtcjafcbekegmlaaGreatDoor
