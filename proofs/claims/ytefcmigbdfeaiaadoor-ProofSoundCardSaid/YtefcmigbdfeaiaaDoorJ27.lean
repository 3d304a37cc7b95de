import Derived.Test.YtefcmigbdfeaiaaDoorJ26
import Derived.Deep.Slices
import Derived.Deep.Fields
import Derived.ChangeSame
import Derived.Test.YtefcmigbdfeaiaaDoorJ22
import Derived.Test.YtefcmigbdfeaiaaDoorJ09
import Derived.Test.YtefcmigbdfeaiaaDoorJ13
import Derived.Test.YtefcmigbdfeaiaaDoorJ20
set_option linter.unusedSimpArgs false
set_option linter.unusedVariables false
/- A slice of items, of texts, of receipts as an argument: opened to its cells. No conditions. -/
namespace Go.Proofs.YtefcmigbdfeaiaaDoor
set_option linter.unusedVariables false
open Go.RowKit Go.Instr Go.ChangeShapes Go.WideShapes Go.Deep

section
variable {H : Type} {enc : TypeId × Value → H} {P : Program} {w : World} {base : Nat} {spare : Nat → Bool} {held : Bool}
theorem open_slice_fields {t e : TypeId} {fs : Array Field} {fuel : Nat} {cs : List Value} {x : DataW H × List MemPlace} (ht : P.underlying t = some (.slice e)) (he : P.underlying e = some (.struct fs))
    (hone : oneCellFields P fs = true) (hC : P.cellsOf e = fs.size) (h : DataW.trod enc P w base spare held fuel t cs = some x) :
    (cs = [.slice none 0 0] ∧ x = (.nil, [])) ∨
    ∃ (a : Addr) (len cap m : Nat) (D : Nat → DataW H) (Pl : Nat → List MemPlace), cs = [.slice (some a) len cap] ∧ base ≤ a.block ∧ len ≤ cap ∧ cap ≤ maxLen ∧ m = (if spare a.block then cap else len) ∧
      x = (.slice ((List.range len).map D) ((List.range (m - len)).map fun j => D (len + j)), MemPlace.row a (m * fs.size) ++ (List.range m).flatMap Pl) ∧
      ∀ i, i < m → ∃ (ys : List (DataW H × List MemPlace)) (n : Nat), D i = .agg (ys.map (·.1)) ∧ Pl i = ys.flatMap (·.2) ∧ ys.length = fs.size ∧
        ∀ (j : Nat) (f : Field), fs[j]? = some f → ∃ (v : Value) (y : DataW H × List MemPlace), w.cell? (a.add (i * fs.size + j)) = some v ∧ ys[j]? = some y ∧ DataW.trod enc P w base spare held n f.type [v] = some y := by
  rcases open_slice ht h with h0 | ⟨a, len, cap, m, n, D, Pl, hcs, hb, hl, hm, hmm, hx, hi⟩
  · exact .inl h0
  · refine .inr ⟨a, len, cap, m, D, Pl, hcs, hb, hl, hm, hmm, by rw [hC] at hx; exact hx, fun i him => ?_⟩
    obtain ⟨cs', hc, ht'⟩ := hi i him
    rw [hC] at hc
    obtain ⟨ys, n', hn', hy, hlen, hyl, hf⟩ := DataW.trod_struct he ht'
    obtain ⟨_, hcl, hat⟩ := World.cells?_some hc
    simp only [Prod.mk.injEq] at hy
    refine ⟨ys, n', hy.1, hy.2, hyl, fun j f hj => ?_⟩
    obtain ⟨ho, hk⟩ := hone_of hone j f hj
    have hjl : j < fs.size := (Array.getElem?_eq_some_iff.1 hj).1
    have hcell := hat j hjl
    have hv : cs'[j]? = some (cs'[j]'(by omega)) := List.getElem?_eq_getElem (by omega)
    have h1 := hf j f hj
    rw [ho, hk] at h1
    have hone' : (cs'.drop j).take 1 = [cs'[j]'(by omega)] := by
      rw [List.drop_eq_getElem_cons (by omega)]
      rfl
    rw [hone'] at h1
    have hys : ys[j]? = some (ys[j]'(by omega)) := List.getElem?_eq_getElem (by omega)
    refine ⟨_, _, ?_, hys, h1.trans hys⟩
    rw [← Go.Deep.add_add, hcell, hv]
end

theorem list_of {α : Type} (P : Nat → α → Prop) : ∀ (n : Nat), (∀ i, i < n → ∃ s, P i s) → ∃ L : List α, L.length = n ∧ ∀ i s, L[i]? = some s → P i s
  | 0, _ => ⟨[], rfl, fun i s h => by simp at h⟩
  | n + 1, each => by
    obtain ⟨L, hL, hc⟩ := list_of P n (fun i hi => each i (by omega))
    obtain ⟨s, hs⟩ := each n (by omega)
    refine ⟨L ++ [s], by simp [hL], fun i s' h => ?_⟩
    by_cases hin : i < L.length
    · rw [List.getElem?_append_left hin] at h
      exact hc i s' h
    · have hl2 := (List.getElem?_eq_some_iff.1 h).1
      rw [List.length_append, List.length_singleton] at hl2
      have ei : i = n := by omega
      subst ei
      rw [List.getElem?_append_right (by omega), hL, Nat.sub_self] at h
      injection h with h
      subst h
      exact hs
theorem row_reads {W : World} {a : Addr} {n sz : Nat} {xs : List Value} (hl : xs.length = n * sz) (hs : 0 < sz) (h : ∀ j u, xs[j]? = some u → W.cell? (a.add j) = some u) : Reads W W.heap.size sz (some a) n xs := by
  refine ⟨hl, fun hn => ⟨a, rfl, ?_, h⟩⟩
  have hp : 0 < xs.length := by rw [hl]; exact Nat.mul_pos hn hs
  have h0 : xs[0]? = some (xs[0]'hp) := List.getElem?_eq_getElem hp
  have := World.block_lt_of_cell? _ _ (h 0 _ h0)
  rwa [block_of_add] at this
theorem open_texts {H : Type} {enc : TypeId × Value → H} {W : World} {fuel : Nat} {A : Option Addr} {n c : Nat} {x : DataW H × List MemPlace}
    (h : DataW.trod enc Tryd.prog W 0 (fun _ => true) true fuel 36 [.slice A n c] = some x) :
    ∃ L : List (List UInt8), L.length = n ∧ Reads W W.heap.size 1 A n (strv L) ∧ n ≤ maxLen ∧ n ≤ c := by
  rcases open_slice Tryd.underlying36 h with ⟨e, _⟩ | ⟨a, len, cap, m, k, D, Pl, e, hb, hl, hcap, hm, _, hi⟩
  · injection e with e _
    injection e with e1 e2 e3
    subst e1
    subst e2
    exact ⟨[], rfl, Reads.none_, by simp only [maxLen]; omega, Nat.zero_le _⟩
  · injection e with e _
    injection e with e1 e2 e3
    subst e1
    subst e2
    have hmn : n ≤ m := by rw [hm]; simp only [if_true]; omega
    have hC : Tryd.prog.cellsOf 9 = 1 := by kernel_rfl
    have each : ∀ i, i < n → ∃ s : List UInt8, W.cell? (a.add i) = some (.string ⟨s.toArray⟩) := fun i hin => by
      obtain ⟨cs', h1, h2⟩ := hi i (by omega)
      rw [hC] at h1
      obtain ⟨_, hlen, hat⟩ := World.cells?_some h1
      obtain ⟨v, rfl⟩ : ∃ v, cs' = [v] := by
        match cs', hlen with
        | [v], _ => exact ⟨v, rfl⟩
      obtain ⟨s, e0, _⟩ := DataW.trod_string Tryd.underlying9 h2
      injection e0 with e0
      subst e0
      have := hat 0 (by omega)
      rw [Nat.mul_one] at this
      refine ⟨s.data.toList, ?_⟩
      rw [show (a.add i).add 0 = a.add i from by rw [Go.Deep.add_add, Nat.add_zero]] at this
      exact this
    obtain ⟨L, hL, hc⟩ := list_of (fun i (s : List UInt8) => W.cell? (a.add i) = some (.string ⟨s.toArray⟩)) n each
    refine ⟨L, hL, row_reads (by rw [strv_length, hL]; omega) (by omega) (fun j u hu => ?_), by omega, by omega⟩
    have hj : j < L.length := by have := (List.getElem?_eq_some_iff.1 hu).1; rwa [strv_length] at this
    rw [strv_at hj] at hu
    have hu' := Option.some.inj hu
    subst hu'
    exact hc j _ (List.getElem?_eq_getElem hj)
theorem open_items {H : Type} {enc : TypeId × Value → H} {W : World} {fuel : Nat} {A : Option Addr} {n c : Nat} {x : DataW H × List MemPlace}
    (h : DataW.trod enc Tryd.prog W 0 (fun _ => true) true fuel 22 [.slice A n c] = some x) :
    ∃ L : List (List UInt8 × List UInt8), L.length = n ∧ Reads W W.heap.size 2 A n (icells L) ∧ n ≤ maxLen ∧ n ≤ c ∧ ∀ x ∈ L, x.1.length ≤ 9223372036854775807 ∧ x.2.length ≤ 9223372036854775807 := by
  rcases open_slice_fields Tryd.underlying22 Tryd.underlying26 (by kernel_rfl) (by kernel_rfl) h with ⟨e, _⟩ | ⟨a, len, cap, m, D, Pl, e, hb, hl, hcap, hm, _, hi⟩
  · injection e with e _
    injection e with e1 e2 e3
    subst e1
    subst e2
    exact ⟨[], rfl, Reads.none_, by simp only [maxLen]; omega, Nat.zero_le _, fun x hx => by cases hx⟩
  · injection e with e _
    injection e with e1 e2 e3
    subst e1
    subst e2
    have hmn : n ≤ m := by rw [hm]; simp only [if_true]; omega
    have each : ∀ i, i < n → ∃ s : List UInt8 × List UInt8, W.cell? (a.add (i * 2)) = some (.string ⟨s.1.toArray⟩) ∧ W.cell? (a.add (i * 2 + 1)) = some (.string ⟨s.2.toArray⟩) ∧ s.1.length ≤ 9223372036854775807 ∧ s.2.length ≤ 9223372036854775807 := fun i hin => by
      obtain ⟨ys, k, _, _, hyl, hf⟩ := hi i (by omega)
      obtain ⟨v0, y0, c0, _, t0⟩ := hf 0 _ rfl
      obtain ⟨v1, y1, c1, _, t1⟩ := hf 1 _ rfl
      obtain ⟨s0, e0, _, z0⟩ := DataW.trod_string Tryd.underlying9 t0
      obtain ⟨s1, e1, _, z1⟩ := DataW.trod_string Tryd.underlying9 t1
      injection e0 with e0; injection e1 with e1
      subst e0; subst e1
      refine ⟨(s0.data.toList, s1.data.toList), c0, c1, ?_, ?_⟩
      · show s0.data.toList.length ≤ 9223372036854775807; simp only [maxLen] at z0; have e : s0.data.toList.length = s0.size := Array.length_toList; omega
      · show s1.data.toList.length ≤ 9223372036854775807; simp only [maxLen] at z1; have e : s1.data.toList.length = s1.size := Array.length_toList; omega
    obtain ⟨L, hL, hc⟩ := list_of (fun i (s : List UInt8 × List UInt8) => W.cell? (a.add (i * 2)) = some (.string ⟨s.1.toArray⟩) ∧ W.cell? (a.add (i * 2 + 1)) = some (.string ⟨s.2.toArray⟩) ∧ s.1.length ≤ 9223372036854775807 ∧ s.2.length ≤ 9223372036854775807) n each
    refine ⟨L, hL, row_reads (by rw [icells_length, hL]; omega) (by omega) (fun j u hu => ?_), by omega, by omega, fun x hx => by
      obtain ⟨i, hi2, rfl⟩ := List.getElem_of_mem hx
      exact (hc i _ (List.getElem?_eq_getElem hi2)).2.2⟩
    have hj : j < 2 * L.length := by have := (List.getElem?_eq_some_iff.1 hu).1; rwa [icells_length] at this
    have hx : L[j / 2]? = some (L[j / 2]'(by omega)) := List.getElem?_eq_getElem (by omega)
    obtain ⟨k0, k1, _, _⟩ := hc (j / 2) _ hx
    obtain ⟨i0, i1⟩ := icells_at (l := L) (i := j / 2) (by omega)
    rcases Nat.mod_two_eq_zero_or_one j with hm2 | hm2
    · rw [show 2 * (j / 2) = j by omega, hu] at i0
      rw [show j / 2 * 2 = j by omega] at k0
      rw [k0, i0]
    · rw [show 2 * (j / 2) + 1 = j by omega, hu] at i1
      rw [show j / 2 * 2 + 1 = j by omega] at k1
      rw [k1, i1]
end Go.Proofs.YtefcmigbdfeaiaaDoor

/- The document's layer 1 (nibble): Pack, Unpack. No conditions. -/
namespace Go.Proofs.YtefcmigbdfeaiaaDoor
set_option linter.unusedVariables false
open Go.RowKit
attribute [local go_sem] ba_get ByteArray.mk_append_mk ByteArray.extract_mk

theorem packs_key_even (l : List UInt8) (leaf : Bool) (hf : Nib.fit l = true) (hp : l.length % 2 = 0) :
    Nib.key ((if leaf then 2 else 0) :: 0 :: l) = (Nib.packed l leaf, 0) := by
  unfold Nib.key
  have h1 : Nib.fit ((if leaf then 2 else 0) :: 0 :: l) = true := by unfold Nib.fit at hf ⊢; cases leaf <;> simpa using hf
  rw [if_pos h1, if_neg (by simp; omega), Nib.packed_even hp, Nib.joined_cons]
  cases leaf <;> rfl
theorem packs_key_odd (a : UInt8) (r : List UInt8) (leaf : Bool) (hf : Nib.fit (a :: r) = true) (hp : (a :: r).length % 2 = 1) :
    Nib.key ((if leaf then 3 else 1) :: a :: r) = (Nib.packed (a :: r) leaf, 0) := by
  unfold Nib.key
  have h1 : Nib.fit ((if leaf then 3 else 1) :: a :: r) = true := by unfold Nib.fit at hf ⊢; cases leaf <;> simpa using hf
  have hp' : (r.length + 1) % 2 = 1 := by simpa using hp
  rw [if_pos h1, if_neg (by simp; omega), Nib.packed_odd hp, Nib.joined_cons]
  cases leaf <;> rfl

set_option maxHeartbeats 400000 in
theorem refnib_Pack (s : List UInt8) (leaf : Bool) (w : World) (hs : s.length ≤ 1000000) :
    Calls Tryd.prog 131 #[.string ⟨s.toArray⟩, .bool leaf] w fun e w' => e = .returned (.tuple #[.string ⟨(Nib.pack s leaf).1.toArray⟩, .int .i64 (Nib.pack s leaf).2]) ∧ Below w.heap.size w w' := by
  by_cases hf : Nib.fit s = true
  · have e1 : Nib.pack s leaf = (Nib.packed s leaf, 0) := by unfold Nib.pack; rw [if_pos hf]
    rw [e1]
    by_cases hp : s.length % 2 = 1
    · obtain ⟨a, r, rfl⟩ : ∃ a r, s = a :: r := by
        cases s with
        | nil => simp at hp
        | cons a r => exact ⟨a, r, rfl⟩
      have HK := Lib.hid (packs_key_odd a r leaf hf hp)
      have HF := Lib.hid hf
      have hp' : ((r.length : Int) + 1) % 2 = 1 := by simp at hp; omega
      have HP := Lib.hid hp'
      have hq1 : (((r.length : Int) + 1) % 2 == 1) = true := by rw [beq_iff_eq]; exact hp'
      have hs' : r.length ≤ 1000000 := by simp at hs; omega
      have hs2 : (a :: r).length ≤ 1048576 := by simp; omega
      clear hf hp e1 hs
      cases leaf
      · go_enter Tryd.func131, Tryd.ntmps131
        go_wp2_with fail
        refine (refnib_Fit (a :: r) _ hs2).mono ?_
        rintro e w1 ⟨rfl, rfl⟩
        rw [HF.out]
        have hw : IntKind.u8.wrap (((r.length : Int) + 1) % 2) = 1 := by rw [HP.out]; rfl
        have hc1 := fun W n h => conv1s W n h 1 (by omega) (by omega)
        have hc2 := fun W n h => conv2s W n h 1 0 (by omega) (by omega) (by omega) (by omega)
        clear hp'
        go_wp2_with fail
        refine (refnib_Key (1 :: a :: r) _ (by simp; omega)).mono ?_
        rintro e w1 ⟨rfl, hb1⟩
        have hk := HK.out
        simp only [Bool.false_eq_true, if_false, if_true] at hk
        rw [hk]
        go_wp2
        go_ret2
        exact ⟨rfl, Below.nxt (by go_grown) hb1⟩
      · go_enter Tryd.func131, Tryd.ntmps131
        go_wp2_with fail
        refine (refnib_Fit (a :: r) _ hs2).mono ?_
        rintro e w1 ⟨rfl, rfl⟩
        rw [HF.out]
        have hw : IntKind.u8.wrap (((r.length : Int) + 1) % 2) = 1 := by rw [HP.out]; rfl
        have hc1 := fun W n h => conv1s W n h 3 (by omega) (by omega)
        have hc2 := fun W n h => conv2s W n h 3 0 (by omega) (by omega) (by omega) (by omega)
        clear hp'
        go_wp2_with fail
        refine (refnib_Key (3 :: a :: r) _ (by simp; omega)).mono ?_
        rintro e w1 ⟨rfl, hb1⟩
        have hk := HK.out
        simp only [Bool.false_eq_true, if_false, if_true] at hk
        rw [hk]
        go_wp2
        go_ret2
        exact ⟨rfl, Below.nxt (by go_grown) hb1⟩
    · have HK := Lib.hid (packs_key_even s leaf hf (by omega))
      have HF := Lib.hid hf
      have hp' : (s.length : Int) % 2 = 0 := by omega
      have HP := Lib.hid hp'
      have hq1 : ((s.length : Int) % 2 == 1) = false := by rw [beq_eq_false_iff_ne]; omega
      have hs2 : s.length ≤ 1048576 := by omega
      clear hf hp e1
      cases leaf
      · go_enter Tryd.func131, Tryd.ntmps131
        go_wp2_with fail
        refine (refnib_Fit s _ hs2).mono ?_
        rintro e w1 ⟨rfl, rfl⟩
        rw [HF.out]
        have hw : IntKind.u8.wrap ((s.length : Int) % 2) = 0 := by rw [HP.out]; rfl
        have hc1 := fun W n h => conv1s W n h 0 (by omega) (by omega)
        have hc2 := fun W n h => conv2s W n h 0 0 (by omega) (by omega) (by omega) (by omega)
        clear hp'
        go_wp2_with fail
        refine (refnib_Key (0 :: 0 :: s) _ (by simp; omega)).mono ?_
        rintro e w1 ⟨rfl, hb1⟩
        have hk := HK.out
        simp only [Bool.false_eq_true, if_false, if_true] at hk
        rw [hk]
        go_wp2
        go_ret2
        exact ⟨rfl, Below.nxt (by go_grown) hb1⟩
      · go_enter Tryd.func131, Tryd.ntmps131
        go_wp2_with fail
        refine (refnib_Fit s _ hs2).mono ?_
        rintro e w1 ⟨rfl, rfl⟩
        rw [HF.out]
        have hw : IntKind.u8.wrap ((s.length : Int) % 2) = 0 := by rw [HP.out]; rfl
        have hc1 := fun W n h => conv1s W n h 2 (by omega) (by omega)
        have hc2 := fun W n h => conv2s W n h 2 0 (by omega) (by omega) (by omega) (by omega)
        clear hp'
        go_wp2_with fail
        refine (refnib_Key (2 :: 0 :: s) _ (by simp; omega)).mono ?_
        rintro e w1 ⟨rfl, hb1⟩
        have hk := HK.out
        simp only [Bool.false_eq_true, if_false, if_true] at hk
        rw [hk]
        go_wp2
        go_ret2
        exact ⟨rfl, Below.nxt (by go_grown) hb1⟩
  · have e1 : Nib.pack s leaf = ([], 3) := by unfold Nib.pack; rw [if_neg hf]
    rw [e1]
    have HF := Lib.hid (show Nib.fit s = false by simpa using hf)
    clear hf e1
    go_enter Tryd.func131, Tryd.ntmps131
    go_wp2_with fail
    refine (refnib_Fit s _ (by omega)).mono ?_
    rintro e w1 ⟨rfl, rfl⟩
    rw [HF.out]
    go_wp2
    go_ret2
    exact ⟨rfl, Below.refl _ _⟩
end Go.Proofs.YtefcmigbdfeaiaaDoor

/- The document's layer 8 (node): Kids. No conditions. -/
namespace Go.Proofs.YtefcmigbdfeaiaaDoor
set_option linter.unusedVariables false
open Go.RowKit Go.Instr
attribute [local go_sem] ba_get ByteArray.mk_append_mk
theorem strv_getD {K : List (List UInt8)} {i : Nat} (h : i < K.length) : (strv K)[i]? = some (.string ⟨(K.getD i []).toArray⟩) := by
  rw [strv_at h, List.getD_eq_getElem?_getD, List.getElem?_eq_getElem h]; rfl
set_option maxRecDepth 100000 in
set_option maxHeartbeats 1000000 in
theorem refkids_loop (w w0 : World) (kk : Nat) (p v : List UInt8) (K : List (List UInt8)) (hK : K.length = 16) (F : Hid (Live w w0 [(w.heap.size, 91, (nodeV kk p v K).toArray)]))
    (Q : Exit → Act → World → Prop)
    (hQ : ∀ (s0 s1 s2 s4 s5 s6 s7 s8 s9 s10 s11 s12 s13 s14 s15 s16 s17 s18 s19 s20 s21 : Value) (A : Option Addr) (c n : Nat) (w2 : World), n = (kidsW K).length → w2.ownsRow w.heap.size 9 1 (.slice A n c) n (strv (kidsW K)) → Below w.heap.size w w2 → Q (.exit 0) { tmps := #[s0, s1, s2, .slice A n c, s4, s5, s6, s7, s8, s9, s10, s11, s12, s13, s14, s15, s16, s17, s18, s19, s20, s21], defers := [] } w2)
    (s0 s2 s5 s6 s7 s8 s9 s10 s11 s12 s13 s14 s15 s16 s17 s18 s19 s20 s21 : Value) :
    Code.wp Tryd.prog (.loop (loopAt Tryd.f144 0)) Q { tmps := #[s0, .pointer (some ⟨w.heap.size, 0, none⟩), s2, .slice none 0 0, .int .i64 0, s5, s6, s7, s8, s9, s10, s11, s12, s13, s14, s15, s16, s17, s18, s19, s20, s21], defers := [] } w0 := by
  have HQ := Lib.hid hQ
  clear hQ
  refine wp_loop_ghost_k (fun k a wr => ∀ Φ : Act → Prop, (∀ (s0 s2 s5 s6 s7 s8 s9 s10 s11 s12 s13 s14 s15 s16 s17 s18 s19 s20 s21 : Value) (i n c : Nat) (A : Option Addr), (i + k = 16 ∧ n = (kidsW (K.take i)).length ∧ n ≤ i ∧ wr.ownsRow w.heap.size 9 1 (.slice A n c) n (strv (kidsW (K.take i))) ∧ Live w wr [(w.heap.size, 91, (nodeV kk p v K).toArray)]) → Φ { tmps := #[s0, .pointer (some ⟨w.heap.size, 0, none⟩), s2, .slice A n c, .int .i64 i, s5, s6, s7, s8, s9, s10, s11, s12, s13, s14, s15, s16, s17, s18, s19, s20, s21], defers := [] }) → Φ a) (16) ?_ ?_
  · refine fun Φ hΦ => hΦ _ _ _ _ _ _ _ _ _ _ _ _ _ _ _ _ _ _ _ (0) (0) (0) (none) ?_
    exact ⟨by omega, by simp [kidsW], by omega, by simpa [kidsW, strv] using World.ownsRow_nil _ _ _ _, F.out⟩
  · intro k1 a1 wr1 hI1 J1 K1 hJ1 hK1
    refine hI1 (fun a => Code.wp _ _ _ a _) ?_
    clear hI1 a1
    intro s0 s1 s2 s3 s4 s5 s6 s7 s8 s9 s10 s11 s12 s13 s14 s15 s16 s17 s18 i n c A hrel
    show Code.wp _ _ _ _ _
    clear F
    conv => arg 2; whnf
    obtain ⟨h1, h2, h3, own, hF⟩ := hrel
    have F := Lib.hid hF
    have hb := hF.b
    clear hF
    by_cases hi : i < 16
    · have hi1 : (i : Int) < 16 := by omega
      obtain ⟨_, _, _, RK, _⟩ := NodeAt.of (C := []) (by rw [List.append_nil]; exact F.out.blk 0 rfl)
      have ec : wr1.cell? ⟨w.heap.size, 3 + i, none⟩ = some (.string ⟨(K.getD i []).toArray⟩) := by
        refine RK i _ ?_
        rw [strv_at (show i < K.length by omega), List.getD_eq_getElem?_getD, List.getElem?_eq_getElem (show i < K.length by omega)]
        rfl
      have hks := kidsW_snoc K i (by omega)
      have hg : K.getD i [] = K[i]'(by omega) := by rw [List.getD_eq_getElem?_getD, List.getElem?_eq_getElem (show i < K.length by omega)]; rfl
      rw [← hg] at hks
      generalize K.getD i [] = s at *
      clear hg RK
      have HI := Lib.hid (And.intro h1 (And.intro h2 h3))
      have HK := Lib.hid hks
      have hn16 : n ≤ 16 := by omega
      generalize kidsW (K.take i) = D at *
      cases s with
      | nil =>
        have O := Lib.hid own
        clear own h1 h2 h3 hb hks
        go_wp2
        refine Handed.intro (16 - (i + 1)) ?_ (hJ1 _ _ _ (fun Φ hΦ => hΦ _ _ _ _ _ _ _ _ _ _ _ _ _ _ _ _ _ _ _ (i + 1) (n) (c) (A) ?_))
        · have := HI.out.1
          omega
        · rw [HK.out]
          simp only [List.isEmpty_nil, if_true, List.append_nil]
          exact ⟨by have := HI.out.1; omega, HI.out.2.1, by have := HI.out.2.2; omega, O.out, F.out⟩
      | cons a t =>
        have ne1 : ((a :: t).toArray = #[]) = False := by simp
        have hone : ∀ u ∈ [Value.string ⟨(a :: t).toArray⟩], u.oneCell' = true := by intro u hu; rw [List.mem_singleton] at hu; subst hu; rfl
        clear h1 h2 h3 hks
        have se : (a :: t).isEmpty = false := rfl
        generalize hs : (a :: t) = s at *
        go_wp2_with (at_builtin; refine wpList_append_new wr1 9 [.string ⟨s.toArray⟩] rfl _ _ 36 rfl w.heap.size 1 16 _ info_str Tryd.underlying36 rfl (by decide) (.slice A n c) n (strv D) rfl own 1 1 rfl rfl hone (by simp only [maxLen]; omega) (by omega) w.heap.size w hb (Nat.le_refl _) hb.size ?_; intro v3 w3 own3 hb3 hg3 _ _; obtain ⟨A3, c3, rfl, _, _, _⟩ := own_form own3; have F := Live.hp F own (Nat.le_refl _) (by simp) hg3; have O3 := Lib.hid own3; clear own3 hg3)
        refine Handed.intro (16 - (i + 1)) ?_ (hJ1 _ _ _ (fun Φ hΦ => hΦ _ _ _ _ _ _ _ _ _ _ _ _ _ _ _ _ _ _ _ (i + 1) (n + 1) (c3) (A3) ?_))
        · have := HI.out.1
          omega
        · rw [HK.out, se]
          simp only [Bool.false_eq_true, if_false]
          refine ⟨by have := HI.out.1; omega, by rw [List.length_append, ← HI.out.2.1]; rfl, by have := HI.out.2.2; omega, ?_, F.out⟩
          rw [show strv (D ++ [s]) = strv D ++ [.string ⟨s.toArray⟩] by simp [strv]]
          exact O3.out
    · have e16 : i = 16 := by omega
      subst e16
      rw [List.take_of_length_le (by omega)] at h2 own
      have O := Lib.hid (And.intro own hb)
      clear own hb
      go_wp2
      exact HQ.out _ _ _ _ _ _ _ _ _ _ _ _ _ _ _ _ _ _ _ _ _ _ _ _ _ h2 O.out.1 O.out.2
set_option maxRecDepth 100000 in
theorem ref08_Kids (w : World) (k : Nat) (p v : List UInt8) (K : List (List UInt8)) (hK : K.length = 16) :
    Calls Tryd.prog 144 #[.agg (nodeV k p v K).toArray] w (KidsEnd w K) := by
  have HP : Hid (∀ A c n w', n = (kidsW K).length → w'.ownsRow w.heap.size 9 1 (.slice A n c) n (strv (kidsW K)) → Below w.heap.size w w' → KidsEnd w K (.returned (.slice A n c)) w') := Lib.hid (fun A c n w' g1 g2 g3 => ⟨A, c, n, rfl, g1, g2, g3⟩)
  generalize KidsEnd w K = P at HP ⊢
  go_enter Tryd.func144, Tryd.ntmps144
  go_upto_region 1 with fail
  have F := Live.ha (Lib.hid (Live.start w)) (nodeV k p v K).toArray 91
  generalize w.alloc (.cells (nodeV k p v K).toArray 91) = W0 at F ⊢
  go_upto_region 3 with fail
  refine refkids_loop w W0 k p v K hK F _ ?_ _ _ _ _ _ _ _ _ _ _ _ _ _ _ _ _ _ _ _
  intro s0 s1 s2 s4 s5 s6 s7 s8 s9 s10 s11 s12 s13 s14 s15 s16 s17 s18 s19 s20 s21 A c n w2 g1 g2 g3
  go_wp2
  exact HP.out _ _ _ _ g1 g2 g3
end Go.Proofs.YtefcmigbdfeaiaaDoor
