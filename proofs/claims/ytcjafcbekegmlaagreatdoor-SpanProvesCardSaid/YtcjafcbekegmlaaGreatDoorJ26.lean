import Derived.Test.YtcjafcbekegmlaaGreatDoorJ25
import Derived.Test.YtcjafcbekegmlaaGreatDoorJ02
import Derived.Test.YtcjafcbekegmlaaGreatDoorJ15
import Derived.Maps.AppendAt
import Derived.Test.YtcjafcbekegmlaaGreatDoorJ13
import Derived.Test.YtcjafcbekegmlaaGreatDoorJ01
set_option linter.unusedSimpArgs false
set_option linter.unusedVariables false
namespace Go.Proofs.YtcjafcbekegmlaaGreatDoor
set_option linter.unusedVariables false
namespace Trie
theorem mem_itemsW {t : T} (h : Good t) (k v : List UInt8) : (k, v) ∈ itemsW t ↔ look t (Nib.of k) = v ∧ v ≠ [] := by
  rw [itemsW, List.mem_map]
  constructor
  · rintro ⟨x, hx, e⟩
    obtain ⟨q, hq, rfl, hn⟩ := (mem_items t [] x h.wf).1 hx
    injection e with e1 e2
    subst e1
    simp only [List.nil_append] at e2 ⊢
    rw [Nib.of_joined q hq (h.even q hq hn).1, ← e2]
    exact ⟨rfl, hn⟩
  · rintro ⟨e, hn⟩
    subst e
    exact ⟨(Nib.of k, look t (Nib.of k)), (mem_items t [] _ h.wf).2 ⟨Nib.of k, Nib.fit_of k, rfl, hn⟩, by simp [Nib.joined_of]⟩
theorem item_code {t : T} (h : Good t) {k v : List UInt8} (hx : (k, v) ∈ itemsW t) : putCode k v = 0 := by
  obtain ⟨rfl, hn⟩ := (mem_itemsW h k v).1 hx
  obtain ⟨s1, s2⟩ := h.small _ (Nib.fit_of k) hn
  rw [Nib.of_length] at s1
  have hk : k ≠ [] := fun e => (h.even _ (Nib.fit_of k) hn).2 (by rw [e]; rfl)
  have h1 : keyedW k = true := by simp [keyedW, hk]; omega
  simp only [putCode, h1, if_true]
  rw [if_neg]
  simp [hn]
  omega
end Trie
end Go.Proofs.YtcjafcbekegmlaaGreatDoor

namespace Go.Proofs.YtcjafcbekegmlaaGreatDoor
set_option linter.unusedVariables false
namespace Trie
abbrev KV := List UInt8 × List UInt8
def rises (l : List KV) : Prop := l.Pairwise fun x y => Op.bytesLess x.1 y.1 = true
theorem rises_itemsW {t : T} (h : Good t) : rises (itemsW t) := by
  rw [rises, itemsW, List.pairwise_map]
  refine (sorted_items t [] h.wf).imp_of_mem ?_
  intro x y hx hy hlt
  obtain ⟨q, hq, rfl, hqn⟩ := (mem_items t [] x h.wf).1 hx
  obtain ⟨r, hr, rfl, hrn⟩ := (mem_items t [] y h.wf).1 hy
  simp only [List.nil_append] at hlt ⊢
  rw [← Nib.blt_of, Nib.of_joined q hq (h.even q hq hqn).1, Nib.of_joined r hr (h.even r hr hrn).1]
  exact hlt
theorem rises_ext : ∀ (a b : List KV), rises a → rises b → (∀ x, x ∈ a ↔ x ∈ b) → a = b
  | [], [], _, _, _ => rfl
  | [], y :: b, _, _, h => by have := (h y).2 (by simp); simp at this
  | x :: a, [], _, _, h => by have := (h x).1 (by simp); simp at this
  | x :: a, y :: b, ha, hb, h => by
    obtain ⟨ha1, ha2⟩ := List.pairwise_cons.1 ha
    obtain ⟨hb1, hb2⟩ := List.pairwise_cons.1 hb
    have hxy : x = y := by
      rcases List.mem_cons.1 ((h x).1 (by simp)) with e | hx
      · exact e
      rcases List.mem_cons.1 ((h y).2 (by simp)) with e | hy
      · exact e.symm
      have h1 := bl_trans _ _ _ (hb1 x hx) (ha1 y hy)
      rw [Nib.blt_irrefl] at h1; cases h1
    subst hxy
    congr 1
    refine rises_ext a b ha2 hb2 fun z => ⟨fun hz => ?_, fun hz => ?_⟩
    · rcases List.mem_cons.1 ((h z).1 (by simp [hz])) with e | hz2
      · subst e; have h1 := ha1 z hz; rw [Nib.blt_irrefl] at h1; cases h1
      · exact hz2
    · rcases List.mem_cons.1 ((h z).2 (by simp [hz])) with e | hz2
      · subst e; have h1 := hb1 z hz; rw [Nib.blt_irrefl] at h1; cases h1
      · exact hz2
def atI (k : List UInt8) : List KV → Nat × Bool
  | [] => (0, false)
  | x :: l => if Op.bytesLess x.1 k = true then ((atI k l).1 + 1, (atI k l).2) else (0, decide (x.1 = k))
theorem atI_le (k : List UInt8) : ∀ l, (atI k l).1 ≤ l.length ∧ ((atI k l).2 = true → (atI k l).1 < l.length)
  | [] => by simp [atI]
  | x :: l => by
    have ih := atI_le k l
    unfold atI
    split
    · simp only [List.length_cons]
      exact ⟨by omega, fun h => by have := ih.2 h; omega⟩
    · simp
theorem atI_spec (k : List UInt8) : ∀ (l : List KV), rises l → ∃ X Y, l = X ++ Y ∧ X.length = (atI k l).1 ∧ (∀ x ∈ X, Op.bytesLess x.1 k = true) ∧ ((atI k l).2 = true → ∃ y Y', Y = y :: Y' ∧ y.1 = k) ∧ ((atI k l).2 = false → ∀ y ∈ Y, Op.bytesLess k y.1 = true)
  | [], _ => ⟨[], [], rfl, rfl, by simp, by simp [atI], by simp⟩
  | x :: l, h => by
    obtain ⟨h1, h2⟩ := List.pairwise_cons.1 h
    unfold atI
    by_cases hk : Op.bytesLess x.1 k = true
    · rw [if_pos hk]
      obtain ⟨X, Y, e, hX, hX2, hT, hF⟩ := atI_spec k l h2
      refine ⟨x :: X, Y, by rw [e]; rfl, by rw [List.length_cons, hX], ?_, hT, hF⟩
      intro y hy
      rcases List.mem_cons.1 hy with rfl | hy
      · exact hk
      · exact hX2 y hy
    · rw [if_neg hk]
      refine ⟨[], x :: l, rfl, rfl, by simp, fun hd => ⟨x, l, rfl, of_decide_eq_true hd⟩, fun hd => ?_⟩
      have hne : x.1 ≠ k := of_decide_eq_false hd
      have hlt : Op.bytesLess k x.1 = true := by
        cases h3 : Op.bytesLess k x.1 with
        | true => rfl
        | false => exact absurd (bl_tri _ _ (by simpa using hk) h3) hne
      intro y hy
      rcases List.mem_cons.1 hy with rfl | hy
      · exact hlt
      · exact bl_trans _ _ _ hlt (h1 y hy)
theorem atI_step (k : List UInt8) (l : List KV) (i : Nat) (hi : i < l.length) (h : atI k l = (i + (atI k (l.drop i)).1, (atI k (l.drop i)).2)) :
    (Op.bytesLess l[i].1 k = true → atI k l = (i + 1 + (atI k (l.drop (i + 1))).1, (atI k (l.drop (i + 1))).2)) ∧ (Op.bytesLess l[i].1 k = false → atI k l = (i, decide (l[i].1 = k))) := by
  rw [List.drop_eq_getElem_cons hi] at h
  refine ⟨fun h1 => ?_, fun h1 => ?_⟩
  · rw [h]
    simp only [atI, if_pos h1]
    rw [show i + ((atI k (l.drop (i + 1))).1 + 1) = i + 1 + (atI k (l.drop (i + 1))).1 by omega]
  · rw [h]
    simp only [atI, if_neg (show ¬ Op.bytesLess l[i].1 k = true by simp [h1]), Nat.add_zero]
def rput (l : List KV) (k v : List UInt8) : List KV × Nat :=
  if keyedW k then
    (if v.isEmpty || decide (32 < v.length) then ([], 2) else (l.take (atI k l).1 ++ [(k, v)] ++ l.drop ((atI k l).1 + if (atI k l).2 then 1 else 0), 0))
  else ([], 1)
theorem cut_spec {l : List KV} (h : rises l) (k : List UInt8) : ∃ X Z, l.take (atI k l).1 = X ∧ l.drop ((atI k l).1 + if (atI k l).2 then 1 else 0) = Z ∧ rises (X ++ Z) ∧ (∀ x ∈ X, Op.bytesLess x.1 k = true) ∧ (∀ z ∈ Z, Op.bytesLess k z.1 = true) ∧ ∀ x, (x ∈ l ∧ x.1 ≠ k) ↔ (x ∈ X ∨ x ∈ Z) := by
  obtain ⟨X, Y, e, hX, hX2, hT, hF⟩ := atI_spec k l h
  have hs := h
  rw [e] at hs
  obtain ⟨sX, sY, sXY⟩ := List.pairwise_append.1 hs
  have e1 : l.take (atI k l).1 = X := by rw [← hX, e, List.take_left]
  have irr : ∀ x : KV, (Op.bytesLess x.1 k = true ∨ Op.bytesLess k x.1 = true) → x.1 ≠ k := fun x hx hk => by
    rw [hk, Nib.blt_irrefl] at hx; simp at hx
  cases ht : (atI k l).2 with
  | true =>
    obtain ⟨y, Y', rfl, hy⟩ := hT ht
    obtain ⟨y1, y2⟩ := List.pairwise_cons.1 sY
    have e2 : l.drop ((atI k l).1 + 1) = Y' := by rw [← hX, e, List.drop_append]; simp
    have hY : ∀ z ∈ Y', Op.bytesLess k z.1 = true := fun z hz => by rw [← hy]; exact y1 z hz
    refine ⟨X, Y', e1, by rw [if_pos rfl]; exact e2, List.pairwise_append.2 ⟨sX, y2, fun a ha b hb => sXY a ha b (by simp [hb])⟩, hX2, hY, fun x => ⟨?_, ?_⟩⟩
    · rintro ⟨hx, hne⟩
      rw [e, List.mem_append, List.mem_cons] at hx
      rcases hx with hx | rfl | hx
      · exact .inl hx
      · exact absurd hy hne
      · exact .inr hx
    · rintro (hx | hx)
      · exact ⟨by rw [e]; simp [hx], irr x (.inl (hX2 x hx))⟩
      · exact ⟨by rw [e]; simp [hx], irr x (.inr (hY x hx))⟩
  | false =>
    have e2 : l.drop ((atI k l).1 + 0) = Y := by rw [← hX, e, Nat.add_zero, List.drop_left]
    refine ⟨X, Y, e1, by rw [if_neg (by simp)]; exact e2, by rw [← e]; exact h, hX2, hF ht, fun x => ⟨?_, ?_⟩⟩
    · rintro ⟨hx, _⟩
      rw [e, List.mem_append] at hx
      exact hx
    · rintro (hx | hx)
      · exact ⟨by rw [e]; simp [hx], irr x (.inl (hX2 x hx))⟩
      · exact ⟨by rw [e]; simp [hx], irr x (.inr (hF ht x hx))⟩
theorem rput_put {t : T} (h : Good t) (k v : List UInt8) : (rput (itemsW t) k v).2 = putCode k v ∧ (putCode k v = 0 → (rput (itemsW t) k v).1 = itemsW (put t (Nib.of k) v)) := by
  unfold rput putCode
  by_cases hk : keyedW k
  · rw [if_pos hk, if_pos hk]
    by_cases hv : (v.isEmpty || decide (32 < v.length)) = true
    · rw [if_pos hv, if_pos hv]
      exact ⟨rfl, fun e => by cases e⟩
    · rw [if_neg hv, if_neg hv]
      simp at hv
      refine ⟨rfl, fun _ => ?_⟩
      obtain ⟨X, Z, e1, e2, hr, hX, hZ, hm⟩ := cut_spec (rises_itemsW h) k
      rw [e1, e2]
      have hg := h.put hk hv.1 hv.2
      refine rises_ext _ _ ?_ (rises_itemsW hg) fun x => ?_
      · obtain ⟨r1, r2, r3⟩ := List.pairwise_append.1 hr
        rw [List.append_assoc]
        refine List.pairwise_append.2 ⟨r1, List.pairwise_cons.2 ⟨fun z hz => hZ z hz, r2⟩, fun a ha b hb => ?_⟩
        rcases List.mem_cons.1 hb with rfl | hb
        · exact hX a ha
        · exact r3 a ha b hb
      · obtain ⟨xk, xv⟩ := x
        rw [mem_itemsW hg, (put_spec t _ v h.wf (Nib.fit_of k) hv.1).2.1 _ (Nib.fit_of xk)]
        have h1 := hm (xk, xv)
        rw [mem_itemsW h] at h1
        simp only [List.mem_append, List.mem_singleton, Prod.mk.injEq]
        by_cases e : xk = k
        · subst e
          rw [if_pos rfl]
          have h2 : ¬ ((xk, xv) ∈ X ∨ (xk, xv) ∈ Z) := fun h3 => (h1.2 h3).2 rfl
          constructor
          · rintro ((hx | hx) | hx)
            · exact absurd (.inl hx) h2
            · exact ⟨hx.2.symm, by rw [hx.2]; exact hv.1⟩
            · exact absurd (.inr hx) h2
          · rintro ⟨e, _⟩
            exact .inl (.inr ⟨rfl, e.symm⟩)
        · rw [if_neg (fun h3 => e (Nib.of_inj h3))]
          constructor
          · rintro ((hx | hx) | hx)
            · exact (h1.2 (.inl hx)).1
            · exact absurd hx.1 e
            · exact (h1.2 (.inr hx)).1
          · intro hx
            rcases h1.1 ⟨hx, e⟩ with h3 | h3
            · exact .inl (.inl h3)
            · exact .inr h3
  · rw [if_neg hk, if_neg hk]
    exact ⟨rfl, fun e => by cases e⟩
end Trie
end Go.Proofs.YtcjafcbekegmlaaGreatDoor

namespace Go.Proofs.YtcjafcbekegmlaaGreatDoor
set_option linter.unusedVariables false
open Go.RowKit Go.Instr Go.ChangeMaps
attribute [local go_sem] ba_get ByteArray.mk_append_mk
theorem KnotP.grown {w w1 : World} {k : Nat} {t : Trie.T} {x : Value} (h : KnotP w t x) (hg : w.grownBy w1 (some k)) (hk : ∀ cs, ¬ Blk w k 110 cs) : KnotP w1 t x := by
  induction h with
  | nil => exact .nil
  | knot t b ps h1 h2 h3 _ ih => exact .knot t b ps h1 h2 (h3.grown hg (fun e => by injection e with e; subst e; exact hk _ h3)) ih
theorem BMap.no_blk {w : World} {b : Nat} {D : List Trie.KV} (h : BMap w b D) (t : TypeId) (cs : Array Value) : ¬ Blk w b t cs := by
  obtain ⟨vs, ⟨E, cl, h1, _⟩, _⟩ := h.ex
  intro h2
  unfold Blk at h2
  rw [h2] at h1
  cases h1
theorem TrieP.grown {w w1 : World} {b : Nat} {D : List Trie.KV} {t : Trie.T} {v : Value} (h : TrieP w t v) (hm : BMap w b D) (hg : w.grownBy w1 (some b)) : TrieP w1 t v := by
  obtain ⟨h1, g, x, h2, h3, h4⟩ := h
  exact ⟨h1, g, x, h2, h3.grown hg (fun e => by injection e with e; subst e; exact hm.no_blk _ _ h3), h4.grown hg (fun cs => hm.no_blk _ cs)⟩
theorem BMap.tbl {w w1 : World} {b : Nat} {D : List Trie.KV} (h : BMap w b D) (hT : Tbl w) (hg : w.grownBy w1 (some b)) : Tbl w1 := by
  refine hT.grown hg ?_
  obtain ⟨vs, hm, _⟩ := h.ex
  refine Nat.pos_of_ne_zero fun e => ?_
  subst e
  have := hT 0 (by omega)
  rw [hm.no_cell _ rfl] at this
  cases this
theorem Reads.off {w w1 : World} {b B n : Nat} {D : List Trie.KV} {A : Option Addr} {xs : List Value} (hr : Reads w B 1 A n xs) (hB : B ≤ w.heap.size) (h : BMap w b D) (hg : w.grownBy w1 (some b)) : Reads w1 B 1 A n xs := by
  obtain ⟨vs, hm, _⟩ := h.ex
  exact hr.off_map hm hB hg
end Go.Proofs.YtcjafcbekegmlaaGreatDoor

namespace Go.Proofs.YtcjafcbekegmlaaGreatDoor
set_option linter.unusedVariables false
namespace Trie
def itemLd (long m : Nat) : Nat × Nat := if long = 0 ∨ long % 2 = 1 then (m, 4) else if 1024 < m + 1 then (m + 1, 2) else (m + 1, 0)
def kidAt (n : Nd) (pl : List UInt8) (i : Nat) : List UInt8 := if n.1 = 2 then pl ++ n.2.1 else pl ++ [UInt8.ofNat i]
def manyLd (n : Nd) (pl : List UInt8) (m : Nat) : Nat × Nat := if n.2.2.1 = [] then (m, 0) else itemLd (pl.length + n.2.1.length) m
end Trie
end Go.Proofs.YtcjafcbekegmlaaGreatDoor
