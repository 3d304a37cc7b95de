/- The walks of layer 6 (oracle): all signatures. No conditions. -/
import Derived.Test.YtojpijpajdiiiaaOrc6
import Derived.Sort.OwnSorted
namespace Go.Proofs.Ytojpijpajdiiiaa
set_option linter.unusedVariables false
open Go.RowKit Go.Instr
attribute [local go_sem] ba_get ByteArray.mk_append_mk add_zero_addr

theorem flat_srows (l : List Sg) : (Sort.flatK srow 3 l.toArray).toList = srows l := by
  apply List.ext_getElem?
  intro t
  have hsz : (Sort.flatK srow 3 l.toArray).toList.length = l.length * 3 := by simp
  by_cases ht : t < l.length * 3
  · have h3 : t / 3 < l.length := by omega
    have h1 : (Sort.flatK srow 3 l.toArray).toList[t]? = some ((Sort.flatK srow 3 l.toArray)[t]!) := by
      rw [List.getElem?_eq_getElem (by rw [hsz]; exact ht), Array.getElem_toList, getElem!_pos _ t (by simpa using ht)]
    have hx : l[t / 3]? = some l[t / 3] := List.getElem?_eq_getElem h3
    have h2 := srows_at l (t / 3) (t % 3) _ hx (by omega)
    rw [show t / 3 * 3 + t % 3 = t by omega] at h2
    rw [h1, Sort.get_flatK srow 3 _ t (by simpa using ht), h2]
    have hd : (l.toArray)[t / 3]! = l[t / 3] := by rw [getElem!_pos l.toArray (t / 3) (by simpa using h3)]; simp
    rw [hd]
    have h4 : t % 3 < (srow l[t / 3]).length := by rw [srow_length]; omega
    rw [List.getElem?_eq_getElem h4, getElem!_pos (srow l[t / 3]) (t % 3) h4]
  · rw [List.getElem?_eq_none (by rw [hsz]; omega), List.getElem?_eq_none (by rw [srows_length]; omega)]

theorem holds_own {w : World} {base e g n c : Nat} {l : List Sg} (h : w.ownsRow base e 3 (.slice (some ⟨g, 0, none⟩) n c) n (srows l)) : Sort.HoldsK srow 3 w g 0 l.toArray := by
  intro j hj
  have hl := h.1
  rw [srows_length] at hl
  have hj' : j < l.length * 3 := by simpa using hj
  rw [Nat.zero_add]
  refine ⟨?_, h.frozenAt j⟩
  rw [h.cellAt j (by omega), ← flat_srows l, List.getElem?_eq_getElem (by simpa using hj'), Array.getElem_toList, getElem!_pos _ j hj]
  rfl

theorem own_sorted {w : World} {base e g n c m : Nat} {os : Array Obj} {l l' : List Sg} (h : w.ownsRow base e 3 (.slice (some ⟨g, 0, none⟩) n c) n (srows l)) (hl : l'.length = l.length) :
    (sortWorldK srow 3 w g 0 m l'.toArray os).ownsRow base e 3 (.slice (some ⟨g, 0, none⟩) n c) n (srows l') ∧ w.grownBy (sortWorldK srow 3 w g 0 m l'.toArray os) (some g) := by
  have hn := h.1
  rw [srows_length] at hn
  rcases h.2 with ⟨h', _⟩ | ⟨g', cap', cur, h', hb, hg, hnc, hcm, hcs, htake⟩
  · simp at h'
  · simp only [Value.slice.injEq, Option.some.injEq, Addr.mk.injEq, and_true, true_and] at h'
    obtain ⟨rfl, rfl⟩ := h'
    have hgl : g < w.heap.size := (Array.getElem?_eq_some_iff.1 hg).1
    constructor
    · refine ⟨by rw [srows_length, hl]; exact hn, .inr ⟨g, c, Sort.putCells id 0 (Sort.flatK srow 3 l'.toArray) cur, rfl, hb, ?_, hnc, hcm, by simp [Sort.putCells, hcs], ?_⟩⟩
      · show (Sort.grow (Sort.putRow id (Sort.ahead w m) g 0 (Sort.flatK srow 3 l'.toArray)) os).heap[g]? = _
        rw [Sort.heap_grow_old _ _ (by simpa using hgl)]
        simp [Sort.putRow, Sort.mapBlock, Sort.ahead, Array.getElem?_modify, hg, Sort.onCells]
      · rw [← flat_srows l']
        apply List.ext_getElem?
        intro t
        by_cases ht : t < n * 3
        · rw [List.getElem?_take_of_lt ht]
          have hc3 : n * 3 ≤ c * 3 := Nat.mul_le_mul_right 3 hnc
          have hsz : t < cur.size := by omega
          have hsz2 : t < (Sort.flatK srow 3 l'.toArray).size := by simp; omega
          rw [List.getElem?_eq_getElem (by simpa [Sort.putCells] using hsz), List.getElem?_eq_getElem (by simpa using hsz2)]
          simp only [Array.getElem_toList, Sort.putCells, Array.getElem_mapIdx]
          rw [if_pos ⟨Nat.zero_le _, by omega⟩, Nat.sub_zero, getElem!_pos _ t hsz2]
          rfl
        · rw [List.getElem?_eq_none (by simp; omega), List.getElem?_eq_none (by simp; omega)]
    · refine ⟨rfl, rfl, rfl, by simp [sortWorldK, Sort.putRowK], fun k hk hne => ?_⟩
      show (Sort.grow (Sort.putRow id (Sort.ahead w m) g 0 (Sort.flatK srow 3 l'.toArray)) os).heap[k]? = _
      rw [Sort.heap_grow_old _ _ (by simpa using hk)]
      have : g ≠ k := fun e => hne (by rw [e])
      simp [Sort.putRow, Sort.mapBlock, Sort.ahead, Array.getElem?_modify, this]
end Go.Proofs.Ytojpijpajdiiiaa
