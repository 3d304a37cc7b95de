import Derived.Test.YtcjafcbekegmlaaGreatDoorJ27
import Derived.Test.YtcjafcbekegmlaaGreatDoorJ02
import Derived.Test.YtcjafcbekegmlaaGreatDoorJ26
import Derived.Test.YtcjafcbekegmlaaGreatDoorJ25
set_option linter.unusedSimpArgs false
set_option linter.unusedVariables false
namespace Go.Proofs.YtcjafcbekegmlaaGreatDoor
set_option linter.unusedVariables false
theorem trail_cover (key a b : List UInt8) (h1 : Op.bytesLess key a = false) (h2 : b = [] ∨ Op.bytesLess key b = true) (pl : List UInt8) (h : trailW (Nib.of key) pl = true) : coverW (Nib.of a) (Nib.of b) b pl = true := by
  have hp : Nib.of key = pl ++ (Nib.of key).drop pl.length := Trie.prefix_common.1 (of_decide_eq_true h)
  have g1 : 0 ≤ Nib.side pl (Nib.of a) := by
    rcases Nib.side_cases pl (Nib.of a) with e | e | e
    · have := (Nib.side_below ((Nib.of key).drop pl.length) e).1
      rw [← hp, Nib.blt_of, h1] at this
      cases this
    · omega
    · omega
  have g2 : b = [] ∨ Nib.side pl (Nib.of b) ≤ 0 := by
    rcases h2 with h2 | h2
    · exact .inl h2
    · refine .inr ?_
      rcases Nib.side_cases pl (Nib.of b) with e | e | e
      · omega
      · omega
      · have := Nib.side_above ((Nib.of key).drop pl.length) e
        rw [← hp, Nib.blt_of, h2] at this
        cases this
  simp only [coverW, Bool.and_eq_true, Bool.or_eq_true, decide_eq_true_eq]
  exact ⟨g1, g2.imp (fun e => by rw [e]; rfl) id⟩
end Go.Proofs.YtcjafcbekegmlaaGreatDoor

namespace Go.Proofs.YtcjafcbekegmlaaGreatDoor
set_option linter.unusedVariables false
namespace Trie
open Nib
def inK (f e k : List UInt8) : Bool := !Op.bytesLess k f && (decide (e = []) || Op.bytesLess k e)
abbrev Gst := List KV × List (List UInt8)
def kidsGa (F : List UInt8 → List UInt8 → Gst → Bool × Gst) (K : List (List UInt8)) (at_ : Nat → List UInt8) : Nat → Gst → Bool × Gst
  | 0, st => (true, st)
  | n + 1, st => if K.getD (15 - n) [] = [] then kidsGa F K at_ n st
    else if (F (K.getD (15 - n) []) (at_ (15 - n)) st).1 = true then kidsGa F K at_ n (F (K.getD (15 - n) []) (at_ (15 - n)) st).2
    else (false, (F (K.getD (15 - n) []) (at_ (15 - n)) st).2)
def itemGa (f e path value : List UInt8) (l : List KV) : Bool × List KV :=
  if (key path).2 ≠ 0 ∨ (key path).1 = [] ∨ 16 < path.length then (false, l) else (true, if inK f e (key path).1 = true then l ++ [((key path).1, value)] else l)
def ownGa (f e : List UInt8) (n : Nd) (pl : List UInt8) (l : List KV) : Bool × List KV := if n.2.2.1 = [] then (true, l) else itemGa f e (pl ++ n.2.1) n.2.2.1 l
def gathW (may : List UInt8 → Bool) (f e : List UInt8) : Nat → List UInt8 → List UInt8 → Gst → Bool × Gst
  | 0, _, _, st => (false, st)
  | n + 1, sum, pl, st => if may pl = false then (true, st)
    else match st.2 with
      | [] => (false, st)
      | x :: left =>
        if shaW (1 :: x) ≠ sum ∨ (decN x).2 ≠ 0 then (false, (st.1, left))
        else if (ownGa f e (decN x).1 pl st.1).1 = false then (false, ((ownGa f e (decN x).1 pl st.1).2, left))
        else kidsGa (gathW may f e n) (decN x).1.2.2.2 (kidAt (decN x).1 pl) 16 ((ownGa f e (decN x).1 pl st.1).2, left)
theorem gathW_no (may : List UInt8 → Bool) (f e : List UInt8) (n : Nat) (sum pl : List UInt8) (st : Gst) (h : may pl = false) : gathW may f e (n + 1) sum pl st = (true, st) := by
  rw [gathW, if_pos h]
theorem gathW_nil (may : List UInt8 → Bool) (f e : List UInt8) (n : Nat) (sum pl : List UInt8) (l : List KV) (h : may pl = true) : gathW may f e (n + 1) sum pl (l, []) = (false, (l, [])) := by
  rw [gathW, if_neg (by simp [h])]
theorem gathW_cons (may : List UInt8 → Bool) (f e : List UInt8) (n : Nat) (sum pl : List UInt8) (l : List KV) (x : List UInt8) (left : List (List UInt8)) (h : may pl = true) : gathW may f e (n + 1) sum pl (l, x :: left) =
    if shaW (1 :: x) ≠ sum ∨ (decN x).2 ≠ 0 then (false, (l, left))
        else if (ownGa f e (decN x).1 pl l).1 = false then (false, ((ownGa f e (decN x).1 pl l).2, left))
        else kidsGa (gathW may f e n) (decN x).1.2.2.2 (kidAt (decN x).1 pl) 16 ((ownGa f e (decN x).1 pl l).2, left) := by
  rw [gathW, if_neg (by simp [h])]
end Trie
end Go.Proofs.YtcjafcbekegmlaaGreatDoor

namespace Go.Proofs.YtcjafcbekegmlaaGreatDoor
set_option linter.unusedVariables false
open Go.RowKit Go.Instr
attribute [local go_sem] ba_get ByteArray.mk_append_mk
theorem item_cells {w : World} {B : Nat} {A : Option Addr} {l : List Trie.KV} (h : Reads w B 2 A l.length (icells l)) {i : Nat} (hi : i < l.length) :
    ∃ ad off, A = some ⟨ad, off, none⟩ ∧ ad < B ∧ ∀ w', Below B w w' → w'.cell? ⟨ad, off + i * 2, none⟩ = some (.string ⟨l[i].1.toArray⟩) ∧ w'.cell? ⟨ad, off + i * 2 + 1, none⟩ = some (.string ⟨l[i].2.toArray⟩) := by
  obtain ⟨ad, off, rfl, hbl, hcell⟩ := h.form (by omega) (by omega)
  have ic := icells_at hi
  have hil := icells_length l
  have e0 : (icells l)[2 * i]'(by omega) = .string ⟨l[i].1.toArray⟩ := by
    have := ic.1; rw [List.getElem?_eq_getElem (by omega)] at this; exact Option.some.inj this
  have e1 : (icells l)[2 * i + 1]'(by omega) = .string ⟨l[i].2.toArray⟩ := by
    have := ic.2; rw [List.getElem?_eq_getElem (by omega)] at this; exact Option.some.inj this
  refine ⟨ad, off, rfl, hbl, fun w' hb => ⟨?_, ?_⟩⟩
  · have q0 := hcell (2 * i) (by omega)
    rw [e0] at q0
    rw [show i * 2 = 2 * i by omega]
    exact (hb.cell (p := ⟨ad, off + 2 * i, none⟩) hbl).trans q0
  · have q1 := hcell (2 * i + 1) (by omega)
    rw [e1] at q1
    rw [show off + i * 2 + 1 = off + (2 * i + 1) by omega]
    exact (hb.cell (p := ⟨ad, off + (2 * i + 1), none⟩) hbl).trans q1
theorem ref10_Keyed (key : List UInt8) (hl : key.length ≤ 9223372036854775807) (w : World) :
    Calls Tryz.prog 69 #[.string ⟨key.toArray⟩] w fun e w' => e = .returned (.bool (Trie.keyedW key)) ∧ w = w' := by
  by_cases h0 : key = []
  · subst h0
    go_enter Tryz.func69, Tryz.ntmps69
    go_wp2
    go_ret
    exact ⟨rfl, rfl⟩
  · have h1 : 1 ≤ key.length := List.length_pos_iff.2 h0
    have hR : Hid (Trie.keyedW key = decide ((key.length : Int) ≤ 8)) := Lib.hid (by
      rw [Trie.keyedW, Bool.eq_iff_iff]; simp [h0]; omega)
    have h2 : (1 : Int) ≤ key.length := by omega
    by_cases h8 : key.length ≤ 8
    · have h3 : (key.length : Int) ≤ 8 := by omega
      have hR2 := Lib.hid (hR.out.trans (decide_eq_true h3))
      clear h0 hR
      go_enter Tryz.func69, Tryz.ntmps69
      go_wp2
      go_ret
      exact ⟨ret_bool hR2.out.symm, rfl⟩
    · have h3 : ((key.length : Int) ≤ 8) = False := by simp; omega
      have hR2 := Lib.hid (hR.out.trans (decide_eq_false (by simp [h3])))
      clear h0 hR
      go_enter Tryz.func69, Tryz.ntmps69
      go_wp2
      go_ret
      exact ⟨ret_bool hR2.out.symm, rfl⟩
def AtIEnd (w : World) (l : List Trie.KV) (key : List UInt8) (e : Ending) (w' : World) : Prop := e = .returned (.tuple #[.int .i64 ((Trie.atI key l).1 : Nat), .bool (Trie.atI key l).2]) ∧ Below w.heap.size w w'
set_option maxHeartbeats 1000000 in
theorem ref10_At (w : World) (A : Option Addr) (c : Nat) (l : List Trie.KV) (HR : Reads w w.heap.size 2 A l.length (icells l)) (hl : l.length ≤ 2000) (key : List UInt8) :
    Calls Tryz.prog 76 #[.slice A l.length c, .string ⟨key.toArray⟩] w (AtIEnd w l key) := by
  have HE : Hid (∀ i b, Trie.atI key l = (i, b) → ∀ w', Below w.heap.size w w' → AtIEnd w l key (.returned (.tuple #[.int .i64 (i : Nat), .bool b])) w') := Lib.hid (by
    intro i b e w' hb
    unfold AtIEnd
    rw [e]
    exact ⟨rfl, hb⟩)
  generalize AtIEnd w l key = P at HE ⊢
  have HRR := Lib.hid HR
  clear HR
  go_enter Tryz.func76, Tryz.ntmps76
  go_wp2
  refine wp_loop_ghost_k (fun k a wr => ∀ Φ : Act → Prop, (∀ (s2 s3 s4 s5 s7 s8 s9 s10 s11 s12 s13 s14 s15 s16 s17 s18 s19 s20 s21 s22 s23 s24 s25 s26 s27 s28 s29 : Value) (i : Nat), (i + k = l.length ∧ Trie.atI key l = (i + (Trie.atI key (l.drop i)).1, (Trie.atI key (l.drop i)).2) ∧ Below w.heap.size w wr) → Φ { tmps := #[.slice A l.length c, .string ⟨key.toArray⟩, s2, s3, s4, s5, .int .i64 i, s7, s8, s9, s10, s11, s12, s13, s14, s15, s16, s17, s18, s19, s20, s21, s22, s23, s24, s25, s26, s27, s28, s29], defers := [] }) → Φ a) (l.length) ?_ ?_
  · refine fun Φ hΦ => hΦ _ _ _ _ _ _ _ _ _ _ _ _ _ _ _ _ _ _ _ _ _ _ _ _ _ _ _ (0) ?_
    exact ⟨by omega, by simp, by go_grown⟩
  · intro k1 a1 wr1 hI1 J1 K1 hJ1 hK1
    refine hI1 (fun a => Code.wp _ _ _ a _) ?_
    clear hI1 a1
    intro s0 s1 s2 s3 s4 s5 s6 s7 s8 s9 s10 s11 s12 s13 s14 s15 s16 s17 s18 s19 s20 s21 s22 s23 s24 s25 s26 i hrel
    show Code.wp _ _ _ _ _
    obtain ⟨h1, h2, hb⟩ := hrel
    by_cases hi : i < l.length
    · obtain ⟨ad, off, rfl, hbl, hcell⟩ := item_cells HRR.out hi
      obtain ⟨q0, q1⟩ := hcell _ hb
      obtain ⟨s1, s2⟩ := Trie.atI_step key l i hi h2
      have hi1 : (i : Int) < l.length := by omega
      have hi0 : (0 : Int) ≤ i := by omega
      have HI := Lib.hid h1
      have HB := Lib.hid hb
      clear hcell h2 h1 hb
      generalize l[i] = x at *
      obtain ⟨xk, xv⟩ := x
      simp only at q0 q1 s1 s2
      cases e3 : Op.bytesLess xk key with
      | true =>
        have T := Lib.hid (s1 e3)
        clear s1 s2
        have e4 := bl_asymm _ _ e3
        have e5 : (xk == key) = false := by
          simp only [beq_eq_false_iff_ne, ne_eq]; intro e; subst e; rw [bl_irrefl] at e3; cases e3
        go_wp2
        refine Handed.intro (l.length - (i + 1)) ?_ (hJ1 _ _ _ (fun Φ hΦ => hΦ _ _ _ _ _ _ _ _ _ _ _ _ _ _ _ _ _ _ _ _ _ _ _ _ _ _ _ (i + 1) ?_))
        · have := HI.out
          omega
        · have := HI.out
          exact ⟨by omega, T.out, HB.out⟩
      | false =>
        have T := Lib.hid (HE.out i _ (s2 e3))
        clear s1 s2 HE
        by_cases e4 : xk = key
        · subst e4
          rw [decide_eq_true rfl] at T
          go_wp2
          go_quiet (fail)
          go_wp2
          exact T.out _ (below_drewN HB.out _)
        · have e5 : (xk == key) = false := by simp [e4]
          have e6 := bl_gt e3 (fun e => e4 e.symm)
          rw [decide_eq_false e4] at T
          clear e4
          go_wp2
          go_quiet (fail)
          go_wp2
          exact T.out _ (below_drewN HB.out _)
    · have hi2 : ((i : Int) < l.length) = False := by simp; omega
      have e : l.drop i = [] := List.drop_eq_nil_of_le (by omega)
      rw [e] at h2
      have e3 : i = l.length := by omega
      have T := Lib.hid (HE.out l.length false (by rw [h2, e3]; rfl))
      have HB := Lib.hid hb
      clear h2 e HE hb
      go_wp2
      exact T.out _ HB.out
end Go.Proofs.YtcjafcbekegmlaaGreatDoor

namespace Go.Proofs.YtcjafcbekegmlaaGreatDoor
namespace Trie
set_option linter.unusedVariables false
open Nib
theorem items_pl (t : T) : ∀ pl, items t pl = (items t []).map fun x => (pl ++ x.1, x.2) := by
  induction t with
  | nil => intro pl; rfl
  | leaf p v => intro pl; simp [items]
  | ext p t ih =>
    intro pl
    simp only [items]
    rw [ih (pl ++ p), ih ([] ++ p), List.map_map]
    simp [Function.comp_def, List.append_assoc]
  | branch v kids ih =>
    intro pl
    simp only [items]
    rw [List.map_append, List.map_flatMap]
    congr 1
    · split <;> simp
    · congr 1
      funext i
      rw [ih i (pl ++ [hb i]), ih i ([] ++ [hb i]), List.map_map]
      simp [Function.comp_def, List.append_assoc]
def lessP (l : List (List UInt8 × List UInt8)) (c : Nat) : List (List UInt8 × List UInt8) := l.map fun x => (x.1.drop c, x.2)
theorem less_items (t : T) (pl : List UInt8) : lessP (items t pl) pl.length = items t [] := by
  rw [items_pl, lessP, List.map_map]
  conv => rhs; rw [← List.map_id (items t [])]
  apply List.map_congr_left
  intro x _
  simp
theorem items_short {pl : List UInt8} {t : T} (h : At pl t) : ∀ x ∈ items t [], x.1.length ≤ 16 ∧ x.2.length ≤ 32 ∧ x.2 ≠ [] ∧ Nib.fit x.1 = true := by
  intro x hx
  obtain ⟨q, hq, rfl, hl⟩ := (mem_items t [] x h.wf).1 hx
  have := h.all q hq hl
  rw [List.length_append] at this
  refine ⟨?_, this.2.2, hl, ?_⟩
  · show ([] ++ q).length ≤ 16
    rw [List.nil_append]; omega
  · show Nib.fit ([] ++ q) = true
    rw [List.nil_append]; exact hq
theorem items_two {v : List UInt8} {kids : Fin 16 → T} (h : wf (.branch v kids)) : 2 ≤ count (.branch v kids) := by
  have hm := h.2
  simp only [count]
  have hk : many kids ≤ ((List.finRange 16).map fun i => count (kids i)).sum := by
    unfold many
    rw [filter_sum]
    refine sum_le_sum _ _ _ fun i _ => ?_
    split
    · rename_i hn
      have hn : isNil (kids i) = false := by simpa using hn
      obtain ⟨q, hq, hl⟩ := look_some (kids i) (h.1 i) hn
      have hmem := (mem_items (kids i) [] ([] ++ q, look (kids i) q) (h.1 i)).2 ⟨q, hq, rfl, hl⟩
      rw [← length_items (kids i) []]
      exact List.length_pos_of_mem hmem
    · omega
  omega
theorem bl_cons_le {a b : UInt8} {x y : List UInt8} (h : Op.bytesLess (a :: x) (b :: y) = true) : a ≤ b := by
  simp only [Op.bytesLess] at h
  rw [UInt8.le_iff_toNat_le]
  by_cases hab : a < b
  · exact Nat.le_of_lt (UInt8.lt_iff_toNat_lt.1 hab)
  · simp only [hab, decide_false, Bool.false_or] at h
    by_cases he : a = b
    · rw [he]; exact Nat.le_refl _
    · simp [he] at h
theorem common_head {a b : List UInt8} (h : common a b ≠ 0) : ∃ c x y, a = c :: x ∧ b = c :: y := by
  cases a with
  | nil => exact absurd rfl h
  | cons c x => cases b with
    | nil => exact absurd rfl h
    | cons d y =>
      unfold common at h
      split at h
      · rename_i e; subst e; exact ⟨c, x, y, rfl, rfl⟩
      · exact absurd rfl h
theorem branch_apart {v : List UInt8} {kids : Fin 16 → T} (h : wf (.branch v kids)) (x z : List UInt8 × List UInt8) (L : List (List UInt8 × List UInt8)) (hL : items (.branch v kids) [] = x :: (L ++ [z])) : common x.1 z.1 = 0 := by
  refine Decidable.byContradiction fun hc => ?_
  obtain ⟨b, xr, zr, hx, hz⟩ := common_head hc
  have hs := sorted_items (.branch v kids) [] h
  rw [hL] at hs
  have hall : ∀ y ∈ items (.branch v kids) [], ∃ r, y.1 = b :: r := by
    intro y hy
    rw [hL] at hy
    rw [List.pairwise_cons, List.pairwise_append] at hs
    rcases List.mem_cons.1 hy with rfl | hy
    · exact ⟨xr, hx⟩
    · rcases List.mem_append.1 hy with hy2 | hy2
      · have h1 := hs.1 y (List.mem_append_left _ hy2)
        have h2 := hs.2.2.2 y hy2 z (by simp)
        rw [hx] at h1
        rw [hz] at h2
        cases hyl : y.1 with
        | nil => rw [hyl] at h1; simp [Op.bytesLess] at h1
        | cons d r =>
          rw [hyl] at h1 h2
          have e1 := bl_cons_le h1
          have e2 := bl_cons_le h2
          rw [UInt8.le_iff_toNat_le] at e1 e2
          exact ⟨r, by rw [show d = b from UInt8.toNat_inj.1 (by omega)]⟩
      · rw [List.mem_singleton] at hy2
        subst hy2
        exact ⟨zr, hz⟩
  have hv : v = [] := Decidable.byContradiction fun hv => by
    have : (([] : List UInt8), v) ∈ items (.branch v kids) [] := by simp [items, hv]
    obtain ⟨r, hr⟩ := hall _ this
    cases hr
  obtain hv2 | ⟨i, hi, hn⟩ := many_two h.2 b
  · exact hv2 hv
  · obtain ⟨q, hq, hl⟩ := look_some (kids i) (h.1 i) hn
    have hmem : ([] ++ (hb i :: q), look (.branch v kids) (hb i :: q)) ∈ items (.branch v kids) [] := by
      refine (mem_items _ [] _ h).2 ⟨hb i :: q, fit_cons'.2 ⟨(ix_of i).2, hq⟩, rfl, ?_⟩
      simp only [look, hb, (ix_of i).1]; exact hl
    obtain ⟨r, hr⟩ := hall _ hmem
    simp only [List.nil_append, List.cons.injEq] at hr
    exact hi (by rw [← hr.1]; simp [hb, (ix_of i).1])
theorem common_pre (p a b : List UInt8) : common (p ++ a) (p ++ b) = p.length + common a b := by
  induction p with
  | nil => simp
  | cons c p ih =>
    simp only [List.cons_append, List.length_cons]
    show (if c = c then common (p ++ a) (p ++ b) + 1 else 0) = _
    rw [if_pos rfl, ih]; omega
theorem ext_apart {p : List UInt8} {t : T} (h : wf (.ext p t)) (x z : List UInt8 × List UInt8) (L : List (List UInt8 × List UInt8)) (hL : items (.ext p t) [] = x :: (L ++ [z])) : common x.1 z.1 = p.length := by
  obtain ⟨h1, h2, h3, h4⟩ := h
  cases t with
  | branch v kids =>
    simp only [items, List.nil_append] at hL
    rw [show ((if v = [] then [] else [(p, v)]) ++ (List.finRange 16).flatMap fun i => items (kids i) (p ++ [hb i])) = items (.branch v kids) p from rfl, items_pl] at hL
    cases hI : items (.branch v kids) [] with
    | nil => rw [hI] at hL; cases hL
    | cons x0 r0 =>
      rw [hI, List.map_cons] at hL
      injection hL with e1 e2
      rcases List.eq_nil_or_concat r0 with e | ⟨r1, z0, e⟩
      · rw [e] at e2; simp at e2
      · have e' : r0 = r1 ++ [z0] := by rw [e]; simp
        subst e'
        rw [List.map_append, List.map_cons, List.map_nil] at e2
        have e3 := List.append_inj' e2 rfl
        simp only [List.cons.injEq, and_true] at e3
        have := branch_apart h4 x0 z0 r1 hI
        rw [← e1, ← e3.2]
        show common (p ++ x0.1) (p ++ z0.1) = p.length
        rw [common_pre, this]; rfl
  | _ => simp [isBranch] at h3
theorem kid_filter (kids : Fin 16 → T) (i : Fin 16) :
    (((List.finRange 16).flatMap fun j => items (kids j) [hb j]).filter fun x => decide ((x.1.getD 0 0).toNat = i.val)) = items (kids i) [hb i] := by
  rw [List.filter_flatMap]
  have h : ∀ j : Fin 16, ((items (kids j) [hb j]).filter fun x => decide ((x.1.getD 0 0).toNat = i.val)) = if j = i then items (kids i) [hb i] else [] := by
    intro j
    have hj : ∀ x ∈ items (kids j) [hb j], (x.1.getD 0 0).toNat = j.val := by
      intro x hx
      rw [items_pl, List.mem_map] at hx
      obtain ⟨y, _, rfl⟩ := hx
      have := j.isLt
      simp [hb]; omega
    by_cases e : j = i
    · subst e
      rw [if_pos rfl, List.filter_eq_self]
      intro x hx
      rw [decide_eq_true_eq]; exact hj x hx
    · rw [if_neg e, List.filter_eq_nil_iff]
      intro x hx
      simp only [decide_eq_true_eq, hj x hx]
      exact fun h => e (Fin.ext h)
  simp only [h]
  have h2 : ∀ l : List (Fin 16), l.Nodup → (l.flatMap fun j => if j = i then items (kids i) [hb i] else []) = if i ∈ l then items (kids i) [hb i] else [] := by
    intro l
    induction l with
    | nil => intro _; rfl
    | cons a l ih =>
      intro hn
      rw [List.nodup_cons] at hn
      rw [List.flatMap_cons, ih hn.2]
      by_cases e : a = i
      · subst e; rw [if_pos rfl, if_neg hn.1]; simp
      · rw [if_neg e]
        simp [show ¬ i = a from fun h => e h.symm]
  rw [h2 _ (List.nodup_finRange 16), if_pos (List.mem_finRange i)]
end Trie
end Go.Proofs.YtcjafcbekegmlaaGreatDoor
