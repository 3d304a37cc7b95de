import Derived.Test.YtefcmigbdfeaiaaDoorK33
import Derived.Test.YtefcmigbdfeaiaaDoorK22
set_option linter.unusedSimpArgs false
set_option linter.unusedVariables false
namespace Go.Proofs.YtefcmigbdfeaiaaDoor
set_option linter.unusedVariables false
open Go.RowKit Go.Instr
attribute [local go_sem] ba_get ByteArray.mk_append_mk
theorem item_cells {w : World} {B : Nat} {A : Option Addr} {l : List Trie.KV} (h : Reads w B 2 A l.length (icells l)) {i : Nat} (hi : i < l.length) :
    ∃ ad off, A = some ⟨ad, off, none⟩ ∧ ad < B ∧ ∀ w', Below B w w' → w'.cell? ⟨ad, off + i * 2, none⟩ = some (.string ⟨l[i].1.toArray⟩) ∧ w'.cell? ⟨ad, off + i * 2 + 1, none⟩ = some (.string ⟨l[i].2.toArray⟩) := by
  obtain ⟨ad, off, rfl, hbl, hcell⟩ := h.form (by omega) (by omega)
  have ic := icells_at hi
  have hil := icells_length l
  have e0 : (icells l)[2 * i]'(by omega) = .string ⟨l[i].1.toArray⟩ := by
    have := ic.1; rw [List.getElem?_eq_getElem (by omega)] at this; exact Option.some.inj this
  have e1 : (icells l)[2 * i + 1]'(by omega) = .string ⟨l[i].2.toArray⟩ := by
    have := ic.2; rw [List.getElem?_eq_getElem (by omega)] at this; exact Option.some.inj this
  refine ⟨ad, off, rfl, hbl, fun w' hb => ⟨?_, ?_⟩⟩
  · have q0 := hcell (2 * i) (by omega)
    rw [e0] at q0
    rw [show i * 2 = 2 * i by omega]
    exact (hb.cell (p := ⟨ad, off + 2 * i, none⟩) hbl).trans q0
  · have q1 := hcell (2 * i + 1) (by omega)
    rw [e1] at q1
    rw [show off + i * 2 + 1 = off + (2 * i + 1) by omega]
    exact (hb.cell (p := ⟨ad, off + (2 * i + 1), none⟩) hbl).trans q1
theorem ref10_Keyed (key : List UInt8) (hl : key.length ≤ 9223372036854775807) (w : World) :
    Calls Tryd.prog 70 #[.string ⟨key.toArray⟩] w fun e w' => e = .returned (.bool (Trie.keyedW key)) ∧ w = w' := by
  by_cases h0 : key = []
  · subst h0
    go_enter Tryd.func70, Tryd.ntmps70
    go_wp2
    go_ret
    exact ⟨rfl, rfl⟩
  · have h1 : 1 ≤ key.length := List.length_pos_iff.2 h0
    have hR : Hid (Trie.keyedW key = decide ((key.length : Int) ≤ 8)) := Lib.hid (by
      rw [Trie.keyedW, Bool.eq_iff_iff]; simp [h0]; omega)
    have h2 : (1 : Int) ≤ key.length := by omega
    by_cases h8 : key.length ≤ 8
    · have h3 : (key.length : Int) ≤ 8 := by omega
      have hR2 := Lib.hid (hR.out.trans (decide_eq_true h3))
      clear h0 hR
      go_enter Tryd.func70, Tryd.ntmps70
      go_wp2
      go_ret
      exact ⟨ret_bool hR2.out.symm, rfl⟩
    · have h3 : ((key.length : Int) ≤ 8) = False := by simp; omega
      have hR2 := Lib.hid (hR.out.trans (decide_eq_false (by simp [h3])))
      clear h0 hR
      go_enter Tryd.func70, Tryd.ntmps70
      go_wp2
      go_ret
      exact ⟨ret_bool hR2.out.symm, rfl⟩
def AtIEnd (w : World) (l : List Trie.KV) (key : List UInt8) (e : Ending) (w' : World) : Prop := e = .returned (.tuple #[.int .i64 ((Trie.atI key l).1 : Nat), .bool (Trie.atI key l).2]) ∧ Below w.heap.size w w'
set_option maxHeartbeats 1000000 in
theorem ref10_At (w : World) (A : Option Addr) (c : Nat) (l : List Trie.KV) (HR : Reads w w.heap.size 2 A l.length (icells l)) (hl : l.length ≤ 2000) (key : List UInt8) :
    Calls Tryd.prog 80 #[.slice A l.length c, .string ⟨key.toArray⟩] w (AtIEnd w l key) := by
  have HE : Hid (∀ i b, Trie.atI key l = (i, b) → ∀ w', Below w.heap.size w w' → AtIEnd w l key (.returned (.tuple #[.int .i64 (i : Nat), .bool b])) w') := Lib.hid (by
    intro i b e w' hb
    unfold AtIEnd
    rw [e]
    exact ⟨rfl, hb⟩)
  generalize AtIEnd w l key = P at HE ⊢
  have HRR := Lib.hid HR
  clear HR
  go_enter Tryd.func80, Tryd.ntmps80
  go_wp2
  refine wp_loop_ghost_k (fun k a wr => ∀ Φ : Act → Prop, (∀ (s2 s3 s4 s5 s7 s8 s9 s10 s11 s12 s13 s14 s15 s16 s17 s18 s19 s20 s21 s22 s23 s24 s25 s26 s27 s28 s29 : Value) (i : Nat), (i + k = l.length ∧ Trie.atI key l = (i + (Trie.atI key (l.drop i)).1, (Trie.atI key (l.drop i)).2) ∧ Below w.heap.size w wr) → Φ { tmps := #[.slice A l.length c, .string ⟨key.toArray⟩, s2, s3, s4, s5, .int .i64 i, s7, s8, s9, s10, s11, s12, s13, s14, s15, s16, s17, s18, s19, s20, s21, s22, s23, s24, s25, s26, s27, s28, s29], defers := [] }) → Φ a) (l.length) ?_ ?_
  · refine fun Φ hΦ => hΦ _ _ _ _ _ _ _ _ _ _ _ _ _ _ _ _ _ _ _ _ _ _ _ _ _ _ _ (0) ?_
    exact ⟨by omega, by simp, by go_grown⟩
  · intro k1 a1 wr1 hI1 J1 K1 hJ1 hK1
    refine hI1 (fun a => Code.wp _ _ _ a _) ?_
    clear hI1 a1
    intro s0 s1 s2 s3 s4 s5 s6 s7 s8 s9 s10 s11 s12 s13 s14 s15 s16 s17 s18 s19 s20 s21 s22 s23 s24 s25 s26 i hrel
    show Code.wp _ _ _ _ _
    obtain ⟨h1, h2, hb⟩ := hrel
    by_cases hi : i < l.length
    · obtain ⟨ad, off, rfl, hbl, hcell⟩ := item_cells HRR.out hi
      obtain ⟨q0, q1⟩ := hcell _ hb
      obtain ⟨s1, s2⟩ := Trie.atI_step key l i hi h2
      have hi1 : (i : Int) < l.length := by omega
      have hi0 : (0 : Int) ≤ i := by omega
      have HI := Lib.hid h1
      have HB := Lib.hid hb
      clear hcell h2 h1 hb
      generalize l[i] = x at *
      obtain ⟨xk, xv⟩ := x
      simp only at q0 q1 s1 s2
      cases e3 : Op.bytesLess xk key with
      | true =>
        have T := Lib.hid (s1 e3)
        clear s1 s2
        have e4 := bl_asymm _ _ e3
        have e5 : (xk == key) = false := by
          simp only [beq_eq_false_iff_ne, ne_eq]; intro e; subst e; rw [bl_irrefl] at e3; cases e3
        go_wp2
        refine Handed.intro (l.length - (i + 1)) ?_ (hJ1 _ _ _ (fun Φ hΦ => hΦ _ _ _ _ _ _ _ _ _ _ _ _ _ _ _ _ _ _ _ _ _ _ _ _ _ _ _ (i + 1) ?_))
        · have := HI.out
          omega
        · have := HI.out
          exact ⟨by omega, T.out, HB.out⟩
      | false =>
        have T := Lib.hid (HE.out i _ (s2 e3))
        clear s1 s2 HE
        by_cases e4 : xk = key
        · subst e4
          rw [decide_eq_true rfl] at T
          go_wp2
          go_quiet (fail)
          go_wp2
          exact T.out _ (below_drewN HB.out _)
        · have e5 : (xk == key) = false := by simp [e4]
          have e6 := bl_gt e3 (fun e => e4 e.symm)
          rw [decide_eq_false e4] at T
          clear e4
          go_wp2
          go_quiet (fail)
          go_wp2
          exact T.out _ (below_drewN HB.out _)
    · have hi2 : ((i : Int) < l.length) = False := by simp; omega
      have e : l.drop i = [] := List.drop_eq_nil_of_le (by omega)
      rw [e] at h2
      have e3 : i = l.length := by omega
      have T := Lib.hid (HE.out l.length false (by rw [h2, e3]; rfl))
      have HB := Lib.hid hb
      clear h2 e HE hb
      go_wp2
      exact T.out _ HB.out
end Go.Proofs.YtefcmigbdfeaiaaDoor

namespace Go.Proofs.YtefcmigbdfeaiaaDoor
namespace Trie
set_option linter.unusedVariables false
open Nib
theorem items_pl (t : T) : ∀ pl, items t pl = (items t []).map fun x => (pl ++ x.1, x.2) := by
  induction t with
  | nil => intro pl; rfl
  | leaf p v => intro pl; simp [items]
  | ext p t ih =>
    intro pl
    simp only [items]
    rw [ih (pl ++ p), ih ([] ++ p), List.map_map]
    simp [Function.comp_def, List.append_assoc]
  | branch v kids ih =>
    intro pl
    simp only [items]
    rw [List.map_append, List.map_flatMap]
    congr 1
    · split <;> simp
    · congr 1
      funext i
      rw [ih i (pl ++ [hb i]), ih i ([] ++ [hb i]), List.map_map]
      simp [Function.comp_def, List.append_assoc]
def lessP (l : List (List UInt8 × List UInt8)) (c : Nat) : List (List UInt8 × List UInt8) := l.map fun x => (x.1.drop c, x.2)
theorem less_items (t : T) (pl : List UInt8) : lessP (items t pl) pl.length = items t [] := by
  rw [items_pl, lessP, List.map_map]
  conv => rhs; rw [← List.map_id (items t [])]
  apply List.map_congr_left
  intro x _
  simp
theorem items_short {pl : List UInt8} {t : T} (h : At pl t) : ∀ x ∈ items t [], x.1.length ≤ 16 ∧ x.2.length ≤ 32 ∧ x.2 ≠ [] ∧ Nib.fit x.1 = true := by
  intro x hx
  obtain ⟨q, hq, rfl, hl⟩ := (mem_items t [] x h.wf).1 hx
  have := h.all q hq hl
  rw [List.length_append] at this
  refine ⟨?_, this.2.2, hl, ?_⟩
  · show ([] ++ q).length ≤ 16
    rw [List.nil_append]; omega
  · show Nib.fit ([] ++ q) = true
    rw [List.nil_append]; exact hq
theorem items_two {v : List UInt8} {kids : Fin 16 → T} (h : wf (.branch v kids)) : 2 ≤ count (.branch v kids) := by
  have hm := h.2
  simp only [count]
  have hk : many kids ≤ ((List.finRange 16).map fun i => count (kids i)).sum := by
    unfold many
    rw [filter_sum]
    refine sum_le_sum _ _ _ fun i _ => ?_
    split
    · rename_i hn
      have hn : isNil (kids i) = false := by simpa using hn
      obtain ⟨q, hq, hl⟩ := look_some (kids i) (h.1 i) hn
      have hmem := (mem_items (kids i) [] ([] ++ q, look (kids i) q) (h.1 i)).2 ⟨q, hq, rfl, hl⟩
      rw [← length_items (kids i) []]
      exact List.length_pos_of_mem hmem
    · omega
  omega
theorem bl_cons_le {a b : UInt8} {x y : List UInt8} (h : Op.bytesLess (a :: x) (b :: y) = true) : a ≤ b := by
  simp only [Op.bytesLess] at h
  rw [UInt8.le_iff_toNat_le]
  by_cases hab : a < b
  · exact Nat.le_of_lt (UInt8.lt_iff_toNat_lt.1 hab)
  · simp only [hab, decide_false, Bool.false_or] at h
    by_cases he : a = b
    · rw [he]; exact Nat.le_refl _
    · simp [he] at h
theorem common_head {a b : List UInt8} (h : common a b ≠ 0) : ∃ c x y, a = c :: x ∧ b = c :: y := by
  cases a with
  | nil => exact absurd rfl h
  | cons c x => cases b with
    | nil => exact absurd rfl h
    | cons d y =>
      unfold common at h
      split at h
      · rename_i e; subst e; exact ⟨c, x, y, rfl, rfl⟩
      · exact absurd rfl h
theorem branch_apart {v : List UInt8} {kids : Fin 16 → T} (h : wf (.branch v kids)) (x z : List UInt8 × List UInt8) (L : List (List UInt8 × List UInt8)) (hL : items (.branch v kids) [] = x :: (L ++ [z])) : common x.1 z.1 = 0 := by
  refine Decidable.byContradiction fun hc => ?_
  obtain ⟨b, xr, zr, hx, hz⟩ := common_head hc
  have hs := sorted_items (.branch v kids) [] h
  rw [hL] at hs
  have hall : ∀ y ∈ items (.branch v kids) [], ∃ r, y.1 = b :: r := by
    intro y hy
    rw [hL] at hy
    rw [List.pairwise_cons, List.pairwise_append] at hs
    rcases List.mem_cons.1 hy with rfl | hy
    · exact ⟨xr, hx⟩
    · rcases List.mem_append.1 hy with hy2 | hy2
      · have h1 := hs.1 y (List.mem_append_left _ hy2)
        have h2 := hs.2.2.2 y hy2 z (by simp)
        rw [hx] at h1
        rw [hz] at h2
        cases hyl : y.1 with
        | nil => rw [hyl] at h1; simp [Op.bytesLess] at h1
        | cons d r =>
          rw [hyl] at h1 h2
          have e1 := bl_cons_le h1
          have e2 := bl_cons_le h2
          rw [UInt8.le_iff_toNat_le] at e1 e2
          exact ⟨r, by rw [show d = b from UInt8.toNat_inj.1 (by omega)]⟩
      · rw [List.mem_singleton] at hy2
        subst hy2
        exact ⟨zr, hz⟩
  have hv : v = [] := Decidable.byContradiction fun hv => by
    have : (([] : List UInt8), v) ∈ items (.branch v kids) [] := by simp [items, hv]
    obtain ⟨r, hr⟩ := hall _ this
    cases hr
  obtain hv2 | ⟨i, hi, hn⟩ := many_two h.2 b
  · exact hv2 hv
  · obtain ⟨q, hq, hl⟩ := look_some (kids i) (h.1 i) hn
    have hmem : ([] ++ (hb i :: q), look (.branch v kids) (hb i :: q)) ∈ items (.branch v kids) [] := by
      refine (mem_items _ [] _ h).2 ⟨hb i :: q, fit_cons'.2 ⟨(ix_of i).2, hq⟩, rfl, ?_⟩
      simp only [look, hb, (ix_of i).1]; exact hl
    obtain ⟨r, hr⟩ := hall _ hmem
    simp only [List.nil_append, List.cons.injEq] at hr
    exact hi (by rw [← hr.1]; simp [hb, (ix_of i).1])
theorem common_pre (p a b : List UInt8) : common (p ++ a) (p ++ b) = p.length + common a b := by
  induction p with
  | nil => simp
  | cons c p ih =>
    simp only [List.cons_append, List.length_cons]
    show (if c = c then common (p ++ a) (p ++ b) + 1 else 0) = _
    rw [if_pos rfl, ih]; omega
theorem ext_apart {p : List UInt8} {t : T} (h : wf (.ext p t)) (x z : List UInt8 × List UInt8) (L : List (List UInt8 × List UInt8)) (hL : items (.ext p t) [] = x :: (L ++ [z])) : common x.1 z.1 = p.length := by
  obtain ⟨h1, h2, h3, h4⟩ := h
  cases t with
  | branch v kids =>
    simp only [items, List.nil_append] at hL
    rw [show ((if v = [] then [] else [(p, v)]) ++ (List.finRange 16).flatMap fun i => items (kids i) (p ++ [hb i])) = items (.branch v kids) p from rfl, items_pl] at hL
    cases hI : items (.branch v kids) [] with
    | nil => rw [hI] at hL; cases hL
    | cons x0 r0 =>
      rw [hI, List.map_cons] at hL
      injection hL with e1 e2
      rcases List.eq_nil_or_concat r0 with e | ⟨r1, z0, e⟩
      · rw [e] at e2; simp at e2
      · have e' : r0 = r1 ++ [z0] := by rw [e]; simp
        subst e'
        rw [List.map_append, List.map_cons, List.map_nil] at e2
        have e3 := List.append_inj' e2 rfl
        simp only [List.cons.injEq, and_true] at e3
        have := branch_apart h4 x0 z0 r1 hI
        rw [← e1, ← e3.2]
        show common (p ++ x0.1) (p ++ z0.1) = p.length
        rw [common_pre, this]; rfl
  | _ => simp [isBranch] at h3
theorem kid_filter (kids : Fin 16 → T) (i : Fin 16) :
    (((List.finRange 16).flatMap fun j => items (kids j) [hb j]).filter fun x => decide ((x.1.getD 0 0).toNat = i.val)) = items (kids i) [hb i] := by
  rw [List.filter_flatMap]
  have h : ∀ j : Fin 16, ((items (kids j) [hb j]).filter fun x => decide ((x.1.getD 0 0).toNat = i.val)) = if j = i then items (kids i) [hb i] else [] := by
    intro j
    have hj : ∀ x ∈ items (kids j) [hb j], (x.1.getD 0 0).toNat = j.val := by
      intro x hx
      rw [items_pl, List.mem_map] at hx
      obtain ⟨y, _, rfl⟩ := hx
      have := j.isLt
      simp [hb]; omega
    by_cases e : j = i
    · subst e
      rw [if_pos rfl, List.filter_eq_self]
      intro x hx
      rw [decide_eq_true_eq]; exact hj x hx
    · rw [if_neg e, List.filter_eq_nil_iff]
      intro x hx
      simp only [decide_eq_true_eq, hj x hx]
      exact fun h => e (Fin.ext h)
  simp only [h]
  have h2 : ∀ l : List (Fin 16), l.Nodup → (l.flatMap fun j => if j = i then items (kids i) [hb i] else []) = if i ∈ l then items (kids i) [hb i] else [] := by
    intro l
    induction l with
    | nil => intro _; rfl
    | cons a l ih =>
      intro hn
      rw [List.nodup_cons] at hn
      rw [List.flatMap_cons, ih hn.2]
      by_cases e : a = i
      · subst e; rw [if_pos rfl, if_neg hn.1]; simp
      · rw [if_neg e]
        simp [show ¬ i = a from fun h => e h.symm]
  rw [h2 _ (List.nodup_finRange 16), if_pos (List.mem_finRange i)]
end Trie
end Go.Proofs.YtefcmigbdfeaiaaDoor

namespace Go.Proofs.YtefcmigbdfeaiaaDoor
set_option linter.unusedVariables false
open Go.RowKit Go.Instr
attribute [local go_sem] ba_get ByteArray.mk_append_mk
theorem icells_take : ∀ (l : List Trie.KV) (i : Nat), icells (l.take i) = (icells l).take (i * 2)
  | [], i => by simp [icells]
  | x :: l, 0 => by simp [icells]
  | x :: l, i + 1 => by
    rw [List.take_succ_cons, show icells (x :: l.take i) = .string ⟨x.1.toArray⟩ :: .string ⟨x.2.toArray⟩ :: icells (l.take i) from rfl, show icells (x :: l) = .string ⟨x.1.toArray⟩ :: .string ⟨x.2.toArray⟩ :: icells l from rfl, icells_take l i, show (i + 1) * 2 = i * 2 + 1 + 1 by omega, List.take_succ_cons, List.take_succ_cons]
theorem icells_drop : ∀ (l : List Trie.KV) (i : Nat), icells (l.drop i) = (icells l).drop (i * 2)
  | [], i => by simp [icells]
  | x :: l, 0 => by simp
  | x :: l, i + 1 => by
    rw [List.drop_succ_cons, show icells (x :: l) = .string ⟨x.1.toArray⟩ :: .string ⟨x.2.toArray⟩ :: icells l from rfl, icells_drop l i, show (i + 1) * 2 = i * 2 + 1 + 1 by omega, List.drop_succ_cons, List.drop_succ_cons]
theorem icells_append (a b : List Trie.KV) : icells (a ++ b) = icells a ++ icells b := by simp [icells]
theorem icells_one (l : List Trie.KV) : ∀ u ∈ icells l, u.oneCell' = true := by
  intro u hu
  simp only [icells, List.mem_flatMap] at hu
  obtain ⟨x, _, hu⟩ := hu
  simp at hu
  rcases hu with rfl | rfl <;> rfl
theorem it_size (w : World) : (sizeOf 26).run Tryd.prog w = .ok 2 w := by
  go_simp
  try rfl
theorem it_elem : Program.elem Tryd.prog 22 = 26 := by kernel_rfl
theorem it_under : Tryd.prog.underlying 22 = some (.slice (Tryd.prog.elem 22)) := by rw [it_elem]; exact Tryd.underlying22
theorem it_cut_to (A : Option Addr) (l : List Trie.KV) (n c i : Nat) (hn : l.length = n) (hi : i ≤ n) (hc : n ≤ c) :
    ∃ A1 c1, (∀ w, (Instr.sliceAt 22 (.slice A n c) none (some (.int .i64 (i : Int))) none).run Tryd.prog w = .ok (.slice A1 i c1) w) ∧ ∀ w B, Reads w B 2 A n (icells l) → Reads w B 2 A1 i (icells (l.take i)) := by
  refine ⟨if c = 0 then A else A.map (·.add (0 * 2)), c - 0, fun w => ?_, fun w B hr => ⟨by rw [icells_length, List.length_take]; omega, fun hp => ?_⟩⟩
  · rw [run_sliceAt_slice _ _ _ _ _ _ it_under, run_slice_h _ _ _ _ _ it_under _ _ (by omega) (by omega)]
    rw [it_elem, it_size w]
    rfl
  · obtain ⟨ad, rfl, hb, hcell⟩ := hr.2 (by omega)
    rw [if_neg (by omega)]
    refine ⟨ad, by simp [Addr.add], hb, fun j u hu => hcell j u ?_⟩
    rw [icells_take] at hu
    have hj : j < i * 2 := by
      have := (List.getElem?_eq_some_iff.1 hu).1
      rw [List.length_take] at this
      omega
    rw [List.getElem?_take_of_lt hj] at hu
    exact hu
theorem it_cut_from (A : Option Addr) (l : List Trie.KV) (n c i : Nat) (hn : l.length = n) (hi : i ≤ n) (hc : n ≤ c) :
    ∃ A1 c1, (∀ w, (Instr.sliceAt 22 (.slice A n c) (some (.int .i64 (i : Int))) none none).run Tryd.prog w = .ok (.slice A1 (n - i) c1) w) ∧ ∀ w B, Reads w B 2 A n (icells l) → Reads w B 2 A1 (n - i) (icells (l.drop i)) := by
  refine ⟨if c = i then A else A.map (·.add (i * 2)), c - i, fun w => ?_, fun w B hr => ?_⟩
  · rw [run_sliceAt_slice _ _ _ _ _ _ it_under, run_slice_l _ _ _ _ _ it_under _ _ (by omega) (by omega)]
    rw [it_elem, it_size w]
    rfl
  · rw [icells_drop]
    exact hr.cut hi hc
end Go.Proofs.YtefcmigbdfeaiaaDoor

namespace Go.Proofs.YtefcmigbdfeaiaaDoor
set_option linter.unusedVariables false
open Go.RowKit Go.Instr
attribute [local go_sem] ba_get ByteArray.mk_append_mk
def PutIEnd (w : World) (r : List Trie.KV × Nat) (e : Ending) (w' : World) : Prop :=
  ∃ A n c, e = .returned (.tuple #[.slice A n c, .int .i64 (r.2 : Int)]) ∧ n = r.1.length ∧ n ≤ c ∧ w'.ownsRow w.heap.size 26 2 (.slice A n c) n (icells r.1) ∧ Below w.heap.size w w'
set_option maxRecDepth 100000 in
set_option maxHeartbeats 2000000 in
theorem ref10_Put (w : World) (A : Option Addr) (c : Nat) (l : List Trie.KV) (HR : Reads w w.heap.size 2 A l.length (icells l)) (hc : l.length ≤ c) (hl : l.length ≤ 1000) (key value : List UInt8) (hk : key.length ≤ 9223372036854775807) (hv : value.length ≤ 9223372036854775807) :
    Calls Tryd.prog 51 #[.slice A l.length c, .string ⟨key.toArray⟩, .string ⟨value.toArray⟩] w (PutIEnd w (Trie.rput l key value)) := by
  have HP : Hid (∀ l2 c2, Trie.rput l key value = (l2, c2) → ∀ A n c w', n = l2.length → n ≤ c → w'.ownsRow w.heap.size 26 2 (.slice A n c) n (icells l2) → Below w.heap.size w w' → PutIEnd w (Trie.rput l key value) (.returned (.tuple #[.slice A n c, .int .i64 (c2 : Nat)])) w') := Lib.hid (by
    intro l2 c2 e A n c w' h1 h2 h3 h4
    unfold PutIEnd
    rw [e]
    exact ⟨A, n, c, rfl, h1, h2, h3, h4⟩)
  generalize PutIEnd w (Trie.rput l key value) = P at HP ⊢
  have HKy := Lib.hid (ref10_Keyed key hk w)
  have HA := Lib.hid (ref10_At w A c l HR (by omega) key)
  have hat := Trie.atI_le key l
  have HRR := Lib.hid HR
  obtain ⟨i0, hi0, hz0, hz1, hz2⟩ := info_parts info_item
  have e9 : ((1024 : Int) ≤ l.length) = False := by simp; omega
  have HNil : Hid (∀ W : World, W.ownsRow w.heap.size 26 2 (.slice none 0 0) 0 (icells [])) := Lib.hid (fun W => World.ownsRow_nil _ _ _ _)
  clear HR
  cases hkey : Trie.keyedW key with
  | false =>
    have T := Lib.hid (HP.out [] 1 (by simp [Trie.rput, hkey]) none 0 0 w rfl (Nat.le_refl _) (HNil.out _) (Below.refl _ _))
    rw [hkey] at HKy
    clear HP HA hat hkey
    go_enter Tryd.func51, Tryd.ntmps51
    go_wp2_with (go_at_call 70; refine HKy.out.mono ?_; rintro e w1 ⟨rfl, rfl⟩)
    exact T.out
  | true =>
    rw [hkey] at HKy
    by_cases h0 : value = []
    · subst h0
      have T := Lib.hid (HP.out [] 2 (by simp [Trie.rput, hkey]) none 0 0)
      unfold AtIEnd at HA
      clear HP hat hkey
      generalize (Trie.atI key l).1 = i at *
      generalize (Trie.atI key l).2 = b at *
      go_enter Tryd.func51, Tryd.ntmps51
      go_wp2_with (first | (go_at_call 70; refine HKy.out.mono ?_; rintro e w1 ⟨rfl, rfl⟩) | (go_at_call 80; refine HA.out.mono ?_; rintro e w2 ⟨rfl, hb⟩))
      exact T.out _ rfl (Nat.le_refl _) (HNil.out _) hb
    · have hv1 : ((value.length : Int) < 1) = False := by have := List.length_pos_iff.2 h0; simp; omega
      by_cases h32 : 32 < value.length
      · have e6 : ((32 : Int) < value.length) = True := by simp; omega
        have T := Lib.hid (HP.out [] 2 (by simp [Trie.rput, hkey, h32]) none 0 0)
        unfold AtIEnd at HA
        clear HP hat hkey h0 h32
        generalize (Trie.atI key l).1 = i at *
        generalize (Trie.atI key l).2 = b at *
        go_enter Tryd.func51, Tryd.ntmps51
        go_wp2_with (first | (go_at_call 70; refine HKy.out.mono ?_; rintro e w1 ⟨rfl, rfl⟩) | (go_at_call 80; refine HA.out.mono ?_; rintro e w2 ⟨rfl, hb⟩))
        exact T.out _ rfl (Nat.le_refl _) (HNil.out _) hb
      · have e6 : ((32 : Int) < value.length) = False := by simp; omega
        have hvb : (value.isEmpty || decide (32 < value.length)) = false := by simp [h0]; omega
        cases hb : (Trie.atI key l).2 with
        | false =>
          have HE := Lib.hid (HP.out (l.take (Trie.atI key l).1 ++ [(key, value)] ++ l.drop (Trie.atI key l).1) 0 (by simp [Trie.rput, hkey, hvb, hb]))
          unfold AtIEnd at HA
          rw [hb] at HA
          have hii := hat.1
          clear HP hkey h0 h32 hat hb hvb
          generalize (Trie.atI key l).1 = i at *
          have hic : (i : Int) ≤ c := by omega
          have hil : (i : Int) ≤ l.length := by omega
          have hi00 : (0 : Int) ≤ i := by omega
          obtain ⟨A1, c1, SL1, RD1⟩ := it_cut_to A l l.length c i rfl (by omega) hc
          obtain ⟨A2, c2, SL2, RD2⟩ := it_cut_from A l l.length c i rfl (by omega) hc
          have HSR : Hid (icells (l.take i) ++ [.string ⟨key.toArray⟩, .string ⟨value.toArray⟩] ++ icells (l.drop i) = icells (l.take i ++ [(key, value)] ++ l.drop i)) := Lib.hid (by rw [icells_append, icells_append]; rfl)
          have HSUM : Hid (i + 1 + (l.length - i) = (l.take i ++ [(key, value)] ++ l.drop i).length) := Lib.hid (by simp only [List.length_append, List.length_take, List.length_drop, List.length_cons, List.length_nil]; omega)
          have hlm : i + 1 + (l.length - i) ≤ 1001 := by omega
          go_enter Tryd.func51, Tryd.ntmps51
          go_wp2_with fail
          refine HKy.out.mono ?_
          rintro e w1 ⟨rfl, rfl⟩
          go_wp2_with fail
          refine HA.out.mono ?_
          rintro e w1 ⟨rfl, hb1⟩
          have R1 := RD1 w1 _ (HRR.out.below hb1)
          go_wp2_with (first
            | (at_builtin; refine wpList_append_any w1 rfl _ _ 22 rfl w.heap.size 26 i0 _ 2 32 Tryd.underlying22 hi0 hz0 hz1 hz2 rfl (by decide) (.slice none 0 0) 0 [] rfl (World.ownsRow_nil _ _ _ _) w.heap.size A1 i c1 (icells (l.take i)) rfl R1 (icells_one _) (by simp only [maxLen]; omega) (by omega) hb1.size ?_; intro v2 w2 own2 hg2 ho2; rw [Nat.zero_add, List.nil_append] at own2; obtain ⟨Av2, cv2, rfl, _, _, _⟩ := own_form own2; have hb2 : Below w.heap.size w w2 := hb1.grown hg2 hb1.size (by intro k e; cases e); clear hg2 ho2 R1)
            | (at_builtin; refine wpList_append_new w2 26 [.string ⟨key.toArray⟩, .string ⟨value.toArray⟩] rfl _ _ 22 rfl w.heap.size 2 32 _ info_item Tryd.underlying22 rfl (by decide) (.slice Av2 i cv2) i (icells (l.take i)) rfl own2 1 1 rfl rfl (by simp [Value.oneCell']) (by simp only [maxLen]; omega) (by omega) w.heap.size w hb2 (Nat.le_refl _) hb2.size ?_; intro v3 w3 own3 hb3 _ _ _; obtain ⟨Av3, cv3, rfl, _, _, hge3⟩ := own_form own3; have R2 := RD2 w3 _ (HRR.out.below hb3); have lt3 := own3.lt)
            | (at_builtin; refine wpList_append_any w3 rfl _ _ 22 rfl w.heap.size 26 i0 _ 2 32 Tryd.underlying22 hi0 hz0 hz1 hz2 rfl (by decide) (.slice Av3 (i + 1) cv3) (i + 1) (icells (l.take i) ++ [.string ⟨key.toArray⟩, .string ⟨value.toArray⟩]) rfl own3 w.heap.size A2 (l.length - i) c2 (icells (l.drop (i))) rfl R2 (icells_one _) (by simp only [maxLen]; omega) (by omega) hb3.size ?_; intro v4 w4 own4 hg4 _; obtain ⟨Av4, cv4, rfl, _, hc4, _⟩ := own_form own4; have hb4 : Below w.heap.size w w4 := hb3.grown hg4 hb3.size (fun k e => (lt3 k e).1); clear hg4 R2))
          rw [HSR.out] at own4
          exact HE.out _ _ _ _ HSUM.out hc4 own4 hb4
        | true =>
          have HE := Lib.hid (HP.out (l.take (Trie.atI key l).1 ++ [(key, value)] ++ l.drop ((Trie.atI key l).1 + 1)) 0 (by simp [Trie.rput, hkey, hvb, hb]))
          unfold AtIEnd at HA
          rw [hb] at HA
          have hii := hat.2 hb
          clear HP hkey h0 h32 hat hb hvb
          generalize (Trie.atI key l).1 = i at *
          have hic : (i : Int) ≤ c := by omega
          have hil : (i : Int) ≤ l.length := by omega
          have hi2 : (i : Int) + 1 ≤ l.length := by omega
          have hi00 : (0 : Int) ≤ i := by omega
          obtain ⟨A1, c1, SL1, RD1⟩ := it_cut_to A l l.length c i rfl (by omega) hc
          obtain ⟨A2, c2, SL2, RD2⟩ := it_cut_from A l l.length c (i + 1) rfl (by omega) hc
          have SL2' := SL2
          rw [show ((i + 1 : Nat) : Int) = (i : Int) + 1 from rfl] at SL2'
          have HSR : Hid (icells (l.take i) ++ [.string ⟨key.toArray⟩, .string ⟨value.toArray⟩] ++ icells (l.drop (i + 1)) = icells (l.take i ++ [(key, value)] ++ l.drop (i + 1))) := Lib.hid (by rw [icells_append, icells_append]; rfl)
          have HSUM : Hid (i + 1 + (l.length - (i + 1)) = (l.take i ++ [(key, value)] ++ l.drop (i + 1)).length) := Lib.hid (by simp only [List.length_append, List.length_take, List.length_drop, List.length_cons, List.length_nil]; omega)
          have hlm : i + 1 + (l.length - (i + 1)) ≤ 1001 := by omega
          go_enter Tryd.func51, Tryd.ntmps51
          go_wp2_with fail
          refine HKy.out.mono ?_
          rintro e w1 ⟨rfl, rfl⟩
          go_wp2_with fail
          refine HA.out.mono ?_
          rintro e w1 ⟨rfl, hb1⟩
          have R1 := RD1 w1 _ (HRR.out.below hb1)
          go_wp2_with (first
            | (at_builtin; refine wpList_append_any w1 rfl _ _ 22 rfl w.heap.size 26 i0 _ 2 32 Tryd.underlying22 hi0 hz0 hz1 hz2 rfl (by decide) (.slice none 0 0) 0 [] rfl (World.ownsRow_nil _ _ _ _) w.heap.size A1 i c1 (icells (l.take i)) rfl R1 (icells_one _) (by simp only [maxLen]; omega) (by omega) hb1.size ?_; intro v2 w2 own2 hg2 ho2; rw [Nat.zero_add, List.nil_append] at own2; obtain ⟨Av2, cv2, rfl, _, _, _⟩ := own_form own2; have hb2 : Below w.heap.size w w2 := hb1.grown hg2 hb1.size (by intro k e; cases e); clear hg2 ho2 R1)
            | (at_builtin; refine wpList_append_new w2 26 [.string ⟨key.toArray⟩, .string ⟨value.toArray⟩] rfl _ _ 22 rfl w.heap.size 2 32 _ info_item Tryd.underlying22 rfl (by decide) (.slice Av2 i cv2) i (icells (l.take i)) rfl own2 1 1 rfl rfl (by simp [Value.oneCell']) (by simp only [maxLen]; omega) (by omega) w.heap.size w hb2 (Nat.le_refl _) hb2.size ?_; intro v3 w3 own3 hb3 _ _ _; obtain ⟨Av3, cv3, rfl, _, _, hge3⟩ := own_form own3; have R2 := RD2 w3 _ (HRR.out.below hb3); have lt3 := own3.lt)
            | (at_builtin; refine wpList_append_any w3 rfl _ _ 22 rfl w.heap.size 26 i0 _ 2 32 Tryd.underlying22 hi0 hz0 hz1 hz2 rfl (by decide) (.slice Av3 (i + 1) cv3) (i + 1) (icells (l.take i) ++ [.string ⟨key.toArray⟩, .string ⟨value.toArray⟩]) rfl own3 w.heap.size A2 (l.length - (i + 1)) c2 (icells (l.drop ((i + 1)))) rfl R2 (icells_one _) (by simp only [maxLen]; omega) (by omega) hb3.size ?_; intro v4 w4 own4 hg4 _; obtain ⟨Av4, cv4, rfl, _, hc4, _⟩ := own_form own4; have hb4 : Below w.heap.size w w4 := hb3.grown hg4 hb3.size (fun k e => (lt3 k e).1); clear hg4 R2))
          rw [HSR.out] at own4
          exact HE.out _ _ _ _ HSUM.out hc4 own4 hb4
end Go.Proofs.YtefcmigbdfeaiaaDoor
