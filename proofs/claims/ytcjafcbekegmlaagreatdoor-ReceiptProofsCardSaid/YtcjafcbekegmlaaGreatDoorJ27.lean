import Derived.Test.YtcjafcbekegmlaaGreatDoorJ26
import Derived.Test.YtcjafcbekegmlaaGreatDoorJ22
import Derived.Test.YtcjafcbekegmlaaGreatDoorJ25
set_option linter.unusedSimpArgs false
set_option linter.unusedVariables false
namespace Go.Proofs.YtcjafcbekegmlaaGreatDoor
set_option linter.unusedVariables false
namespace Trie
def rcItems : Nat → List (Int × List UInt8 × Int) → List KV
  | _, [] => []
  | k, x :: l => ([UInt8.ofNat k], (encW x.1 x.2.1 x.2.2).1) :: rcItems (k + 1) l
theorem rcItems_mem : ∀ (l : List (Int × List UInt8 × Int)) (k : Nat) (x : KV), x ∈ rcItems k l ↔ ∃ i, ∃ h : i < l.length, x = ([UInt8.ofNat (k + i)], (encW l[i].1 l[i].2.1 l[i].2.2).1)
  | [], k, x => by simp [rcItems]
  | y :: l, k, x => by
    rw [rcItems, List.mem_cons, rcItems_mem l (k + 1) x]
    constructor
    · rintro (h | ⟨i, hi, h⟩)
      · exact ⟨0, by simp, by simpa using h⟩
      · refine ⟨i + 1, by simpa using hi, ?_⟩
        rw [h]
        simp only [List.getElem_cons_succ]
        rw [show k + 1 + i = k + (i + 1) by omega]
    · rintro ⟨i, hi, h⟩
      cases i with
      | zero => left; simpa using h
      | succ i =>
        right
        refine ⟨i, by simpa using hi, ?_⟩
        rw [h]
        simp only [List.getElem_cons_succ]
        rw [show k + (i + 1) = k + 1 + i by omega]
theorem rcItems_len : ∀ (l : List (Int × List UInt8 × Int)) (k : Nat), (rcItems k l).length = l.length
  | [], _ => rfl
  | x :: l, k => by rw [rcItems, List.length_cons, List.length_cons, rcItems_len l]
theorem less_one {a b : Nat} (hb : b < 256) (h : a < b) : Op.bytesLess [UInt8.ofNat a] [UInt8.ofNat b] = true := by
  have h1 : (UInt8.ofNat a) < (UInt8.ofNat b) := by
    rw [UInt8.lt_iff_toNat_lt]
    simp
    omega
  simp [Op.bytesLess, h1]
theorem rcItems_rises : ∀ (l : List (Int × List UInt8 × Int)) (k : Nat), k + l.length ≤ 256 → rises (rcItems k l)
  | [], _, _ => List.Pairwise.nil
  | x :: l, k, h => by
    rw [List.length_cons] at h
    rw [rcItems]
    refine List.Pairwise.cons (fun y hy => ?_) (rcItems_rises l (k + 1) (by omega))
    obtain ⟨i, hi, rfl⟩ := (rcItems_mem l (k + 1) y).1 hy
    exact less_one (by omega) (by omega)
theorem itemsF_eq {l : List (Int × List UInt8 × Int)} (h : (treeF l).2 = 0) : itemsW (treeF l).1 = rcItems 0 l := by
  obtain ⟨h8, hg, hok, hat, hno⟩ := treeF_look h
  refine rises_ext _ _ (rises_itemsW hg) (rcItems_rises l 0 (by omega)) fun x => ?_
  obtain ⟨k, v⟩ := x
  rw [mem_itemsW hg, rcItems_mem]
  simp only [Nat.zero_add]
  constructor
  · rintro ⟨h1, h2⟩
    have : ∃ i, i < l.length ∧ Nib.of k = Nib.of [UInt8.ofNat i] := Classical.byContradiction fun hc => h2 (by
      rw [← h1]
      exact hno _ (Nib.fit_of k) (fun i hi e => hc ⟨i, hi, e⟩))
    obtain ⟨i, hi, e⟩ := this
    refine ⟨i, hi, ?_⟩
    rw [← h1, e, hat i hi, Nib.of_inj e]
  · rintro ⟨i, hi, e⟩
    injection e with e1 e2
    subst e1
    subst e2
    exact ⟨hat i hi, (encW_len (hok _ (List.getElem_mem hi))).1⟩
def itemsF (l : List (Int × List UInt8 × Int)) : List KV × Nat := if (treeF l).2 = 0 then (rcItems 0 l, 0) else ([], (treeF l).2)
theorem treeW_bad : ∀ (l : List (Int × List UInt8 × Int)) (t : T) (k : Nat), (treeW t k l).2 = if ∀ x ∈ l, rcOk x.1 x.2.1 x.2.2 then 0 else 3
  | [], t, k => by simp [treeW]
  | x :: l, t, k => by
    rw [treeW]
    by_cases hx : rcOk x.1 x.2.1 x.2.2
    · rw [if_pos hx, treeW_bad l]
      by_cases hl : ∀ y ∈ l, rcOk y.1 y.2.1 y.2.2
      · rw [if_pos hl, if_pos (fun y hy => by rcases List.mem_cons.1 hy with rfl | hy; exact hx; exact hl y hy)]
      · rw [if_neg hl, if_neg (fun h => hl fun y hy => h y (List.mem_cons_of_mem _ hy))]
    · rw [if_neg hx, if_neg (fun h => hx (h x (List.mem_cons_self ..)))]
end Trie
end Go.Proofs.YtcjafcbekegmlaaGreatDoor

namespace Go.Proofs.YtcjafcbekegmlaaGreatDoor
set_option linter.unusedVariables false
open Go.RowKit Go.Instr
attribute [local go_sem] ba_get ByteArray.mk_append_mk
theorem item_cells {w : World} {B : Nat} {A : Option Addr} {l : List Trie.KV} (h : Reads w B 2 A l.length (icells l)) {i : Nat} (hi : i < l.length) :
    ∃ ad off, A = some ⟨ad, off, none⟩ ∧ ad < B ∧ ∀ w', Below B w w' → w'.cell? ⟨ad, off + i * 2, none⟩ = some (.string ⟨l[i].1.toArray⟩) ∧ w'.cell? ⟨ad, off + i * 2 + 1, none⟩ = some (.string ⟨l[i].2.toArray⟩) := by
  obtain ⟨ad, off, rfl, hbl, hcell⟩ := h.form (by omega) (by omega)
  have ic := icells_at hi
  have hil := icells_length l
  have e0 : (icells l)[2 * i]'(by omega) = .string ⟨l[i].1.toArray⟩ := by
    have := ic.1; rw [List.getElem?_eq_getElem (by omega)] at this; exact Option.some.inj this
  have e1 : (icells l)[2 * i + 1]'(by omega) = .string ⟨l[i].2.toArray⟩ := by
    have := ic.2; rw [List.getElem?_eq_getElem (by omega)] at this; exact Option.some.inj this
  refine ⟨ad, off, rfl, hbl, fun w' hb => ⟨?_, ?_⟩⟩
  · have q0 := hcell (2 * i) (by omega)
    rw [e0] at q0
    rw [show i * 2 = 2 * i by omega]
    exact (hb.cell (p := ⟨ad, off + 2 * i, none⟩) hbl).trans q0
  · have q1 := hcell (2 * i + 1) (by omega)
    rw [e1] at q1
    rw [show off + i * 2 + 1 = off + (2 * i + 1) by omega]
    exact (hb.cell (p := ⟨ad, off + (2 * i + 1), none⟩) hbl).trans q1
theorem ref10_Keyed (key : List UInt8) (hl : key.length ≤ 9223372036854775807) (w : World) :
    Calls Tryz.prog 69 #[.string ⟨key.toArray⟩] w fun e w' => e = .returned (.bool (Trie.keyedW key)) ∧ w = w' := by
  by_cases h0 : key = []
  · subst h0
    go_enter Tryz.func69, Tryz.ntmps69
    go_wp2
    go_ret
    exact ⟨rfl, rfl⟩
  · have h1 : 1 ≤ key.length := List.length_pos_iff.2 h0
    have hR : Hid (Trie.keyedW key = decide ((key.length : Int) ≤ 8)) := Lib.hid (by
      rw [Trie.keyedW, Bool.eq_iff_iff]; simp [h0]; omega)
    have h2 : (1 : Int) ≤ key.length := by omega
    by_cases h8 : key.length ≤ 8
    · have h3 : (key.length : Int) ≤ 8 := by omega
      have hR2 := Lib.hid (hR.out.trans (decide_eq_true h3))
      clear h0 hR
      go_enter Tryz.func69, Tryz.ntmps69
      go_wp2
      go_ret
      exact ⟨ret_bool hR2.out.symm, rfl⟩
    · have h3 : ((key.length : Int) ≤ 8) = False := by simp; omega
      have hR2 := Lib.hid (hR.out.trans (decide_eq_false (by simp [h3])))
      clear h0 hR
      go_enter Tryz.func69, Tryz.ntmps69
      go_wp2
      go_ret
      exact ⟨ret_bool hR2.out.symm, rfl⟩
end Go.Proofs.YtcjafcbekegmlaaGreatDoor

namespace Go.Proofs.YtcjafcbekegmlaaGreatDoor
namespace Trie
set_option linter.unusedVariables false
open Nib
theorem items_pl (t : T) : ∀ pl, items t pl = (items t []).map fun x => (pl ++ x.1, x.2) := by
  induction t with
  | nil => intro pl; rfl
  | leaf p v => intro pl; simp [items]
  | ext p t ih =>
    intro pl
    simp only [items]
    rw [ih (pl ++ p), ih ([] ++ p), List.map_map]
    simp [Function.comp_def, List.append_assoc]
  | branch v kids ih =>
    intro pl
    simp only [items]
    rw [List.map_append, List.map_flatMap]
    congr 1
    · split <;> simp
    · congr 1
      funext i
      rw [ih i (pl ++ [hb i]), ih i ([] ++ [hb i]), List.map_map]
      simp [Function.comp_def, List.append_assoc]
def lessP (l : List (List UInt8 × List UInt8)) (c : Nat) : List (List UInt8 × List UInt8) := l.map fun x => (x.1.drop c, x.2)
theorem less_items (t : T) (pl : List UInt8) : lessP (items t pl) pl.length = items t [] := by
  rw [items_pl, lessP, List.map_map]
  conv => rhs; rw [← List.map_id (items t [])]
  apply List.map_congr_left
  intro x _
  simp
theorem items_short {pl : List UInt8} {t : T} (h : At pl t) : ∀ x ∈ items t [], x.1.length ≤ 16 ∧ x.2.length ≤ 32 ∧ x.2 ≠ [] ∧ Nib.fit x.1 = true := by
  intro x hx
  obtain ⟨q, hq, rfl, hl⟩ := (mem_items t [] x h.wf).1 hx
  have := h.all q hq hl
  rw [List.length_append] at this
  refine ⟨?_, this.2.2, hl, ?_⟩
  · show ([] ++ q).length ≤ 16
    rw [List.nil_append]; omega
  · show Nib.fit ([] ++ q) = true
    rw [List.nil_append]; exact hq
theorem items_two {v : List UInt8} {kids : Fin 16 → T} (h : wf (.branch v kids)) : 2 ≤ count (.branch v kids) := by
  have hm := h.2
  simp only [count]
  have hk : many kids ≤ ((List.finRange 16).map fun i => count (kids i)).sum := by
    unfold many
    rw [filter_sum]
    refine sum_le_sum _ _ _ fun i _ => ?_
    split
    · rename_i hn
      have hn : isNil (kids i) = false := by simpa using hn
      obtain ⟨q, hq, hl⟩ := look_some (kids i) (h.1 i) hn
      have hmem := (mem_items (kids i) [] ([] ++ q, look (kids i) q) (h.1 i)).2 ⟨q, hq, rfl, hl⟩
      rw [← length_items (kids i) []]
      exact List.length_pos_of_mem hmem
    · omega
  omega
theorem bl_cons_le {a b : UInt8} {x y : List UInt8} (h : Op.bytesLess (a :: x) (b :: y) = true) : a ≤ b := by
  simp only [Op.bytesLess] at h
  rw [UInt8.le_iff_toNat_le]
  by_cases hab : a < b
  · exact Nat.le_of_lt (UInt8.lt_iff_toNat_lt.1 hab)
  · simp only [hab, decide_false, Bool.false_or] at h
    by_cases he : a = b
    · rw [he]; exact Nat.le_refl _
    · simp [he] at h
theorem common_head {a b : List UInt8} (h : common a b ≠ 0) : ∃ c x y, a = c :: x ∧ b = c :: y := by
  cases a with
  | nil => exact absurd rfl h
  | cons c x => cases b with
    | nil => exact absurd rfl h
    | cons d y =>
      unfold common at h
      split at h
      · rename_i e; subst e; exact ⟨c, x, y, rfl, rfl⟩
      · exact absurd rfl h
theorem branch_apart {v : List UInt8} {kids : Fin 16 → T} (h : wf (.branch v kids)) (x z : List UInt8 × List UInt8) (L : List (List UInt8 × List UInt8)) (hL : items (.branch v kids) [] = x :: (L ++ [z])) : common x.1 z.1 = 0 := by
  refine Decidable.byContradiction fun hc => ?_
  obtain ⟨b, xr, zr, hx, hz⟩ := common_head hc
  have hs := sorted_items (.branch v kids) [] h
  rw [hL] at hs
  have hall : ∀ y ∈ items (.branch v kids) [], ∃ r, y.1 = b :: r := by
    intro y hy
    rw [hL] at hy
    rw [List.pairwise_cons, List.pairwise_append] at hs
    rcases List.mem_cons.1 hy with rfl | hy
    · exact ⟨xr, hx⟩
    · rcases List.mem_append.1 hy with hy2 | hy2
      · have h1 := hs.1 y (List.mem_append_left _ hy2)
        have h2 := hs.2.2.2 y hy2 z (by simp)
        rw [hx] at h1
        rw [hz] at h2
        cases hyl : y.1 with
        | nil => rw [hyl] at h1; simp [Op.bytesLess] at h1
        | cons d r =>
          rw [hyl] at h1 h2
          have e1 := bl_cons_le h1
          have e2 := bl_cons_le h2
          rw [UInt8.le_iff_toNat_le] at e1 e2
          exact ⟨r, by rw [show d = b from UInt8.toNat_inj.1 (by omega)]⟩
      · rw [List.mem_singleton] at hy2
        subst hy2
        exact ⟨zr, hz⟩
  have hv : v = [] := Decidable.byContradiction fun hv => by
    have : (([] : List UInt8), v) ∈ items (.branch v kids) [] := by simp [items, hv]
    obtain ⟨r, hr⟩ := hall _ this
    cases hr
  obtain hv2 | ⟨i, hi, hn⟩ := many_two h.2 b
  · exact hv2 hv
  · obtain ⟨q, hq, hl⟩ := look_some (kids i) (h.1 i) hn
    have hmem : ([] ++ (hb i :: q), look (.branch v kids) (hb i :: q)) ∈ items (.branch v kids) [] := by
      refine (mem_items _ [] _ h).2 ⟨hb i :: q, fit_cons'.2 ⟨(ix_of i).2, hq⟩, rfl, ?_⟩
      simp only [look, hb, (ix_of i).1]; exact hl
    obtain ⟨r, hr⟩ := hall _ hmem
    simp only [List.nil_append, List.cons.injEq] at hr
    exact hi (by rw [← hr.1]; simp [hb, (ix_of i).1])
theorem common_pre (p a b : List UInt8) : common (p ++ a) (p ++ b) = p.length + common a b := by
  induction p with
  | nil => simp
  | cons c p ih =>
    simp only [List.cons_append, List.length_cons]
    show (if c = c then common (p ++ a) (p ++ b) + 1 else 0) = _
    rw [if_pos rfl, ih]; omega
theorem ext_apart {p : List UInt8} {t : T} (h : wf (.ext p t)) (x z : List UInt8 × List UInt8) (L : List (List UInt8 × List UInt8)) (hL : items (.ext p t) [] = x :: (L ++ [z])) : common x.1 z.1 = p.length := by
  obtain ⟨h1, h2, h3, h4⟩ := h
  cases t with
  | branch v kids =>
    simp only [items, List.nil_append] at hL
    rw [show ((if v = [] then [] else [(p, v)]) ++ (List.finRange 16).flatMap fun i => items (kids i) (p ++ [hb i])) = items (.branch v kids) p from rfl, items_pl] at hL
    cases hI : items (.branch v kids) [] with
    | nil => rw [hI] at hL; cases hL
    | cons x0 r0 =>
      rw [hI, List.map_cons] at hL
      injection hL with e1 e2
      rcases List.eq_nil_or_concat r0 with e | ⟨r1, z0, e⟩
      · rw [e] at e2; simp at e2
      · have e' : r0 = r1 ++ [z0] := by rw [e]; simp
        subst e'
        rw [List.map_append, List.map_cons, List.map_nil] at e2
        have e3 := List.append_inj' e2 rfl
        simp only [List.cons.injEq, and_true] at e3
        have := branch_apart h4 x0 z0 r1 hI
        rw [← e1, ← e3.2]
        show common (p ++ x0.1) (p ++ z0.1) = p.length
        rw [common_pre, this]; rfl
  | _ => simp [isBranch] at h3
theorem kid_filter (kids : Fin 16 → T) (i : Fin 16) :
    (((List.finRange 16).flatMap fun j => items (kids j) [hb j]).filter fun x => decide ((x.1.getD 0 0).toNat = i.val)) = items (kids i) [hb i] := by
  rw [List.filter_flatMap]
  have h : ∀ j : Fin 16, ((items (kids j) [hb j]).filter fun x => decide ((x.1.getD 0 0).toNat = i.val)) = if j = i then items (kids i) [hb i] else [] := by
    intro j
    have hj : ∀ x ∈ items (kids j) [hb j], (x.1.getD 0 0).toNat = j.val := by
      intro x hx
      rw [items_pl, List.mem_map] at hx
      obtain ⟨y, _, rfl⟩ := hx
      have := j.isLt
      simp [hb]; omega
    by_cases e : j = i
    · subst e
      rw [if_pos rfl, List.filter_eq_self]
      intro x hx
      rw [decide_eq_true_eq]; exact hj x hx
    · rw [if_neg e, List.filter_eq_nil_iff]
      intro x hx
      simp only [decide_eq_true_eq, hj x hx]
      exact fun h => e (Fin.ext h)
  simp only [h]
  have h2 : ∀ l : List (Fin 16), l.Nodup → (l.flatMap fun j => if j = i then items (kids i) [hb i] else []) = if i ∈ l then items (kids i) [hb i] else [] := by
    intro l
    induction l with
    | nil => intro _; rfl
    | cons a l ih =>
      intro hn
      rw [List.nodup_cons] at hn
      rw [List.flatMap_cons, ih hn.2]
      by_cases e : a = i
      · subst e; rw [if_pos rfl, if_neg hn.1]; simp
      · rw [if_neg e]
        simp [show ¬ i = a from fun h => e h.symm]
  rw [h2 _ (List.nodup_finRange 16), if_pos (List.mem_finRange i)]
end Trie
end Go.Proofs.YtcjafcbekegmlaaGreatDoor

namespace Go.Proofs.YtcjafcbekegmlaaGreatDoor
set_option linter.unusedVariables false
open Go.RowKit Go.Instr
attribute [local go_sem] ba_get ByteArray.mk_append_mk
def behindV : Value := .string ⟨#[98, 101, 104, 105, 110, 100]⟩
theorem reads_pre {w : World} {B n m : Nat} {A : Option Addr} {xs ys : List Value} (h : Reads w B 1 A (n + m) (xs ++ ys)) (hx : xs.length = n) : Reads w B 1 A n xs := by
  refine ⟨by omega, fun h0 => ?_⟩
  obtain ⟨a, e, hb, hc⟩ := h.2 (by omega)
  refine ⟨a, e, hb, fun j u hu => hc j u ?_⟩
  have := (List.getElem?_eq_some_iff.1 hu).1
  rw [List.getElem?_append_left this]
  exact hu
def LendEnd (w : World) (l : List (List UInt8)) (e : Ending) (w' : World) : Prop :=
  ∃ g c, e = .returned (.slice (some ⟨g, 0, none⟩) l.length c) ∧ l.length + 1 ≤ c ∧ Reads w' w'.heap.size 1 (some ⟨g, 0, none⟩) (l.length + 1) (strv l ++ [behindV]) ∧ Below w.heap.size w w'
set_option maxRecDepth 100000 in
theorem book_Lend (w : World) (A : Option Addr) (c : Nat) (l : List (List UInt8)) (HR : Reads w w.heap.size 1 A l.length (strv l)) (hn : l.length ≤ 100000) :
    Calls Tryz.prog 13 #[.slice A l.length c] w (LendEnd w l) := by
  have HP : Hid (∀ g c w', l.length + 1 ≤ c → Reads w' w'.heap.size 1 (some ⟨g, 0, none⟩) (l.length + 1) (strv l ++ [behindV]) → Below w.heap.size w w' → LendEnd w l (.returned (.slice (some ⟨g, 0, none⟩) l.length c)) w') := Lib.hid (fun g c w' h1 h2 h3 => ⟨g, c, rfl, h1, h2, h3⟩)
  generalize LendEnd w l = P at HP ⊢
  have HL : Hid (strv l = strv l) := Lib.hid rfl
  have hlen := strv_length l
  have hone0 := strv_one l
  have hone : ∀ u ∈ [behindV], u.oneCell' = true := by intro u hu; rw [List.mem_singleton] at hu; subst hu; rfl
  generalize strv l = SV at *
  have hi0 : (0 : Int) ≤ l.length := by omega
  have hi1 : (0 : Int) ≤ 1 := by omega
  obtain ⟨i0, hi0', hz0, hz1, hz2⟩ := info_parts info_str
  go_enter Tryz.func13, Tryz.ntmps13
  go_upto_region 2 with fail
  go_upto_region 3 with (at_builtin; refine wpList_append_any w rfl _ _ 23 rfl w.heap.size 9 i0 _ 1 16 Tryz.underlying23 hi0' hz0 hz1 hz2 rfl (by decide) (.slice none 0 0) 0 [] rfl (World.ownsRow_nil _ _ _ _) w.heap.size A l.length c SV rfl HR hone0 (by simp only [maxLen]; omega) (by omega) (Nat.le_refl _) ?_; intro v3 w3 own3 hg3 _; rw [Nat.zero_add, List.nil_append] at own3; obtain ⟨A3, c3, rfl, _, _, _⟩ := own_form own3; have O3 := Lib.hid own3; have B3 : Hid (Below w.heap.size w w3) := Lib.hid ((Below.refl _ _).grown hg3 (Nat.le_refl _) (by intro k e; cases e)); clear own3 hg3)
  have b3 := B3.out
  have o3 := O3.out
  go_upto_region 4 with (at_builtin; refine wpList_append_new w3 9 [behindV] rfl _ _ 23 rfl w.heap.size 1 16 _ info_str Tryz.underlying23 rfl (by decide) (.slice A3 l.length c3) l.length SV rfl o3 1 1 rfl rfl hone (by simp only [maxLen]; omega) (by omega) w.heap.size w b3 (Nat.le_refl _) b3.size ?_; intro v4 w4 own4 hb4 _ _ _; have O4 := Lib.hid (And.intro own4 hb4); clear own4 hb4)
  obtain ⟨own4, hb4⟩ := O4.out
  rcases own4.2 with ⟨rfl, h0⟩ | ⟨g, cap, cur, rfl, _, _, hcap, _⟩
  · omega
  have hr := Reads.of_own own4
  have hB := Lib.hid hb4
  have hR := Lib.hid hr
  have hC := Lib.hid hcap
  have hc1 : (l.length : Int) ≤ cap := by omega
  clear own4 hb4 hr O4 o3 b3 O3 B3 hcap
  go_wp2_with fail
  exact HP.out _ _ _ hC.out hR.out hB.out
set_option maxRecDepth 100000 in
theorem book_Kept (w : World) (A : Option Addr) (g c d : Nat) (l : List (List UInt8)) (HO : Reads w w.heap.size 1 (some ⟨g, 0, none⟩) (l.length + 1) (strv l ++ [behindV])) (hc : l.length + 1 ≤ c) (HR : Reads w w.heap.size 1 A l.length (strv l)) (hn : l.length ≤ 100000) :
    Calls Tryz.prog 17 #[.slice (some ⟨g, 0, none⟩) l.length c, .slice A l.length d] w (Ret w (.bool true)) := by
  have HP : Hid (∀ w', Below w.heap.size w w' → Ret w (.bool true) (.returned (.bool true)) w') := Lib.hid (fun w' h => ⟨rfl, h⟩)
  generalize Ret w (.bool true) = P at HP ⊢
  have HSm := Lib.hid (book_SameTexts (some ⟨g, 0, none⟩) A l.length l.length c d l l w (reads_pre HO (strv_length l)) HR (by omega) (by omega))
  rw [decide_eq_true rfl] at HSm
  have hcell : w.cell? ⟨g, l.length, none⟩ = some behindV ∧ g < w.heap.size := by
    obtain ⟨a, e, hb, hc⟩ := HO.2 (by omega)
    injection e with e
    subst e
    have := hc l.length behindV (by rw [List.getElem?_append_right (by rw [strv_length]; exact Nat.le_refl _), strv_length, Nat.sub_self]; rfl)
    rw [show (Addr.mk g 0 none).add l.length = ⟨g, l.length, none⟩ by simp only [Addr.add, Nat.zero_add]; split <;> simp_all] at this
    exact ⟨this, hb⟩
  have HCl := Lib.hid hcell
  have hi0 : (0 : Int) ≤ l.length := by omega
  have hi1 : (0 : Int) ≤ l.length + 1 := by omega
  have hi2 : (l.length : Int) + 1 ≤ c := by omega
  have hi3 : (l.length : Int) < l.length + 1 := by omega
  clear hcell HO HR hc
  go_enter Tryz.func17, Tryz.ntmps17
  go_wp2_with fail
  refine HSm.out.mono ?_
  rintro e w2 ⟨rfl, hb2⟩
  have c2 : w2.cell? ⟨g, l.length, none⟩ = some behindV := (hb2.cell (p := ⟨g, l.length, none⟩) HCl.out.2).trans HCl.out.1
  have B2 := Lib.hid hb2
  unfold behindV at c2
  clear hb2
  go_wp2_with fail
  exact HP.out _ B2.out
end Go.Proofs.YtcjafcbekegmlaaGreatDoor
