/- A slice of steps as an argument: opened to its cells. No conditions. -/
import Derived.Test.YtojpijpajdiiiaaOrcFill
import Derived.Deep.Slices
import Derived.Deep.Fields
import Derived.ChangeSame
namespace Go.Proofs.Ytojpijpajdiiiaa
set_option linter.unusedVariables false
open Go.RowKit Go.Instr Go.ChangeShapes Go.WideShapes Go.Deep

section
variable {H : Type} {enc : TypeId × Value → H} {P : Program} {w : World} {base : Nat} {spare : Nat → Bool} {held : Bool}
theorem open_slice_fields {t e : TypeId} {fs : Array Field} {fuel : Nat} {cs : List Value} {x : DataW H × List MemPlace} (ht : P.underlying t = some (.slice e)) (he : P.underlying e = some (.struct fs))
    (hone : oneCellFields P fs = true) (hC : P.cellsOf e = fs.size) (h : DataW.trod enc P w base spare held fuel t cs = some x) :
    (cs = [.slice none 0 0] ∧ x = (.nil, [])) ∨
    ∃ (a : Addr) (len cap m : Nat) (D : Nat → DataW H) (Pl : Nat → List MemPlace), cs = [.slice (some a) len cap] ∧ base ≤ a.block ∧ len ≤ cap ∧ cap ≤ maxLen ∧ m = (if spare a.block then cap else len) ∧
      x = (.slice ((List.range len).map D) ((List.range (m - len)).map fun j => D (len + j)), MemPlace.row a (m * fs.size) ++ (List.range m).flatMap Pl) ∧
      ∀ i, i < m → ∃ (ys : List (DataW H × List MemPlace)) (n : Nat), D i = .agg (ys.map (·.1)) ∧ Pl i = ys.flatMap (·.2) ∧ ys.length = fs.size ∧
        ∀ (j : Nat) (f : Field), fs[j]? = some f → ∃ (v : Value) (y : DataW H × List MemPlace), w.cell? (a.add (i * fs.size + j)) = some v ∧ ys[j]? = some y ∧ DataW.trod enc P w base spare held n f.type [v] = some y := by
  rcases open_slice ht h with h0 | ⟨a, len, cap, m, n, D, Pl, hcs, hb, hl, hm, hmm, hx, hi⟩
  · exact .inl h0
  · refine .inr ⟨a, len, cap, m, D, Pl, hcs, hb, hl, hm, hmm, by rw [hC] at hx; exact hx, fun i him => ?_⟩
    obtain ⟨cs', hc, ht'⟩ := hi i him
    rw [hC] at hc
    obtain ⟨ys, n', hn', hy, hlen, hyl, hf⟩ := DataW.trod_struct he ht'
    obtain ⟨_, hcl, hat⟩ := World.cells?_some hc
    simp only [Prod.mk.injEq] at hy
    refine ⟨ys, n', hy.1, hy.2, hyl, fun j f hj => ?_⟩
    obtain ⟨ho, hk⟩ := hone_of hone j f hj
    have hjl : j < fs.size := (Array.getElem?_eq_some_iff.1 hj).1
    have hcell := hat j hjl
    have hv : cs'[j]? = some (cs'[j]'(by omega)) := List.getElem?_eq_getElem (by omega)
    have h1 := hf j f hj
    rw [ho, hk] at h1
    have hone' : (cs'.drop j).take 1 = [cs'[j]'(by omega)] := by
      rw [List.drop_eq_getElem_cons (by omega)]
      rfl
    rw [hone'] at h1
    have hys : ys[j]? = some (ys[j]'(by omega)) := List.getElem?_eq_getElem (by omega)
    refine ⟨_, _, ?_, hys, h1.trans hys⟩
    rw [← Go.Deep.add_add, hcell, hv]
end

theorem list_of {α : Type} (P : Nat → α → Prop) : ∀ (n : Nat), (∀ i, i < n → ∃ s, P i s) → ∃ L : List α, L.length = n ∧ ∀ i s, L[i]? = some s → P i s
  | 0, _ => ⟨[], rfl, fun i s h => by simp at h⟩
  | n + 1, each => by
    obtain ⟨L, hL, hc⟩ := list_of P n (fun i hi => each i (by omega))
    obtain ⟨s, hs⟩ := each n (by omega)
    refine ⟨L ++ [s], by simp [hL], fun i s' h => ?_⟩
    by_cases hin : i < L.length
    · rw [List.getElem?_append_left hin] at h
      exact hc i s' h
    · have hl2 := (List.getElem?_eq_some_iff.1 h).1
      rw [List.length_append, List.length_singleton] at hl2
      have ei : i = n := by omega
      subst ei
      rw [List.getElem?_append_right (by omega), hL, Nat.sub_self] at h
      injection h with h
      subst h
      exact hs
theorem open_steps {H : Type} {enc : TypeId × Value → H} {W : World} {fuel : Nat} {A : Option Addr} {n c : Nat} {x : DataW H × List MemPlace}
    (h : DataW.trod enc Try.prog W 0 (fun _ => true) true fuel 22 [.slice A n c] = some x) :
    ∃ L : List Stp, L.length = n ∧ Reads W W.heap.size 4 A n (steps L) ∧ n ≤ maxLen := by
  rcases open_slice_fields Try.underlying22 Try.underlying27 (by kernel_rfl) (by kernel_rfl) h with ⟨e, _⟩ | ⟨a, len, cap, m, D, Pl, e, hb, hl, hcap, hm, _, hi⟩
  · injection e with e _
    injection e with e1 e2 e3
    subst e1
    subst e2
    exact ⟨[], rfl, Reads.none_, by simp only [maxLen]; omega⟩
  · injection e with e _
    injection e with e1 e2 e3
    subst e1
    subst e2
    have hmn : n ≤ m := by rw [hm]; simp only [if_true]; omega
    have each : ∀ i, i < n → ∃ s : Stp, ∀ j u, (stepv s)[j]? = some u → W.cell? (a.add (i * 4 + j)) = some u := fun i hin => by
      obtain ⟨ys, k, _, _, hyl, hf⟩ := hi i (by omega)
      obtain ⟨v0, y0, c0, _, t0⟩ := hf 0 _ rfl
      obtain ⟨v1, y1, c1, _, t1⟩ := hf 1 _ rfl
      obtain ⟨v2, y2, c2, _, t2⟩ := hf 2 _ rfl
      obtain ⟨v3, y3, c3, _, t3⟩ := hf 3 _ rfl
      obtain ⟨s0, e0, _⟩ := DataW.trod_string Try.underlying9 t0
      obtain ⟨s1, e1, _⟩ := DataW.trod_string Try.underlying9 t1
      obtain ⟨b2, e2, _⟩ := DataW.trod_bool Try.underlying4 t2
      obtain ⟨b3, e3, _⟩ := DataW.trod_bool Try.underlying4 t3
      injection e0 with e0; injection e1 with e1; injection e2 with e2; injection e3 with e3
      subst e0; subst e1; subst e2; subst e3
      refine ⟨⟨s0.data.toList, s1.data.toList, b2, b3⟩, fun j u hu => ?_⟩
      match j, hu with
      | 0, hu => injection hu with hu; subst hu; exact c0
      | 1, hu => injection hu with hu; subst hu; exact c1
      | 2, hu => injection hu with hu; subst hu; exact c2
      | 3, hu => injection hu with hu; subst hu; exact c3
    have := list_of (fun i s => ∀ j u, (stepv s)[j]? = some u → W.cell? (a.add (i * 4 + j)) = some u) n each
    obtain ⟨L, hL, hc⟩ := this
    have hcell : ∀ j u, (steps L)[j]? = some u → W.cell? (a.add j) = some u := fun j u hu => by
      have hj : j < L.length * 4 := by have := (List.getElem?_eq_some_iff.1 hu).1; rwa [steps_length] at this
      have hx : L[j / 4]? = some (L[j / 4]'(by omega)) := List.getElem?_eq_getElem (by omega)
      have h4 := steps_at L (j / 4) (j % 4) _ hx (by omega)
      rw [show j / 4 * 4 + j % 4 = j by omega] at h4
      have := hc (j / 4) _ hx (j % 4) u (by rw [← h4, hu])
      rwa [show j / 4 * 4 + j % 4 = j by omega] at this
    refine ⟨L, hL, ⟨by rw [steps_length, hL], fun hn => ⟨a, rfl, ?_, hcell⟩⟩, by omega⟩
    have h0 : (steps L)[0]? = some ((steps L)[0]'(by rw [steps_length]; omega)) := List.getElem?_eq_getElem (by rw [steps_length]; omega)
    have := hcell 0 _ h0
    have := World.block_lt_of_cell? _ _ this
    rwa [block_of_add] at this
end Go.Proofs.Ytojpijpajdiiiaa
