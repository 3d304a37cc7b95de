import Derived.Test.YtaplecncnkkigaaDoorJ27
import Derived.Test.YtaplecncnkkigaaDoorJ29
/- Plain laws: the document's lists of items and the trie say the same. No program in sight. -/
namespace Go.Proofs.YtaplecncnkkigaaDoor
set_option linter.unusedVariables false

namespace Trie
abbrev KV := List UInt8 × List UInt8
def rises (l : List KV) : Prop := l.Pairwise fun x y => Op.bytesLess x.1 y.1 = true
theorem rises_itemsW {t : T} (h : Good t) : rises (itemsW t) := by
  rw [rises, itemsW, List.pairwise_map]
  refine (sorted_items t [] h.wf).imp_of_mem ?_
  intro x y hx hy hlt
  obtain ⟨q, hq, rfl, hqn⟩ := (mem_items t [] x h.wf).1 hx
  obtain ⟨r, hr, rfl, hrn⟩ := (mem_items t [] y h.wf).1 hy
  simp only [List.nil_append] at hlt ⊢
  rw [← Nib.blt_of, Nib.of_joined q hq (h.even q hq hqn).1, Nib.of_joined r hr (h.even r hr hrn).1]
  exact hlt
theorem rises_ext : ∀ (a b : List KV), rises a → rises b → (∀ x, x ∈ a ↔ x ∈ b) → a = b
  | [], [], _, _, _ => rfl
  | [], y :: b, _, _, h => by have := (h y).2 (by simp); simp at this
  | x :: a, [], _, _, h => by have := (h x).1 (by simp); simp at this
  | x :: a, y :: b, ha, hb, h => by
    obtain ⟨ha1, ha2⟩ := List.pairwise_cons.1 ha
    obtain ⟨hb1, hb2⟩ := List.pairwise_cons.1 hb
    have hxy : x = y := by
      rcases List.mem_cons.1 ((h x).1 (by simp)) with e | hx
      · exact e
      rcases List.mem_cons.1 ((h y).2 (by simp)) with e | hy
      · exact e.symm
      have h1 := bl_trans _ _ _ (hb1 x hx) (ha1 y hy)
      rw [Nib.blt_irrefl] at h1; cases h1
    subst hxy
    congr 1
    refine rises_ext a b ha2 hb2 fun z => ⟨fun hz => ?_, fun hz => ?_⟩
    · rcases List.mem_cons.1 ((h z).1 (by simp [hz])) with e | hz2
      · subst e; have h1 := ha1 z hz; rw [Nib.blt_irrefl] at h1; cases h1
      · exact hz2
    · rcases List.mem_cons.1 ((h z).2 (by simp [hz])) with e | hz2
      · subst e; have h1 := hb1 z hz; rw [Nib.blt_irrefl] at h1; cases h1
      · exact hz2
/-- the place of a key among items, or of the first one behind it; whether it is there -/
def atI (k : List UInt8) : List KV → Nat × Bool
  | [] => (0, false)
  | x :: l => if Op.bytesLess x.1 k = true then ((atI k l).1 + 1, (atI k l).2) else (0, decide (x.1 = k))
theorem atI_le (k : List UInt8) : ∀ l, (atI k l).1 ≤ l.length ∧ ((atI k l).2 = true → (atI k l).1 < l.length)
  | [] => by simp [atI]
  | x :: l => by
    have ih := atI_le k l
    unfold atI
    split
    · simp only [List.length_cons]
      exact ⟨by omega, fun h => by have := ih.2 h; omega⟩
    · simp
theorem atI_spec (k : List UInt8) : ∀ (l : List KV), rises l → ∃ X Y, l = X ++ Y ∧ X.length = (atI k l).1 ∧ (∀ x ∈ X, Op.bytesLess x.1 k = true) ∧ ((atI k l).2 = true → ∃ y Y', Y = y :: Y' ∧ y.1 = k) ∧ ((atI k l).2 = false → ∀ y ∈ Y, Op.bytesLess k y.1 = true)
  | [], _ => ⟨[], [], rfl, rfl, by simp, by simp [atI], by simp⟩
  | x :: l, h => by
    obtain ⟨h1, h2⟩ := List.pairwise_cons.1 h
    unfold atI
    by_cases hk : Op.bytesLess x.1 k = true
    · rw [if_pos hk]
      obtain ⟨X, Y, e, hX, hX2, hT, hF⟩ := atI_spec k l h2
      refine ⟨x :: X, Y, by rw [e]; rfl, by rw [List.length_cons, hX], ?_, hT, hF⟩
      intro y hy
      rcases List.mem_cons.1 hy with rfl | hy
      · exact hk
      · exact hX2 y hy
    · rw [if_neg hk]
      refine ⟨[], x :: l, rfl, rfl, by simp, fun hd => ⟨x, l, rfl, of_decide_eq_true hd⟩, fun hd => ?_⟩
      have hne : x.1 ≠ k := of_decide_eq_false hd
      have hlt : Op.bytesLess k x.1 = true := by
        cases h3 : Op.bytesLess k x.1 with
        | true => rfl
        | false => exact absurd (bl_tri _ _ (by simpa using hk) h3) hne
      intro y hy
      rcases List.mem_cons.1 hy with rfl | hy
      · exact hlt
      · exact bl_trans _ _ _ hlt (h1 y hy)
theorem atI_step (k : List UInt8) (l : List KV) (i : Nat) (hi : i < l.length) (h : atI k l = (i + (atI k (l.drop i)).1, (atI k (l.drop i)).2)) :
    (Op.bytesLess l[i].1 k = true → atI k l = (i + 1 + (atI k (l.drop (i + 1))).1, (atI k (l.drop (i + 1))).2)) ∧ (Op.bytesLess l[i].1 k = false → atI k l = (i, decide (l[i].1 = k))) := by
  rw [List.drop_eq_getElem_cons hi] at h
  refine ⟨fun h1 => ?_, fun h1 => ?_⟩
  · rw [h]
    simp only [atI, if_pos h1]
    rw [show i + ((atI k (l.drop (i + 1))).1 + 1) = i + 1 + (atI k (l.drop (i + 1))).1 by omega]
  · rw [h]
    simp only [atI, if_neg (show ¬ Op.bytesLess l[i].1 k = true by simp [h1]), Nat.add_zero]

def rput (l : List KV) (k v : List UInt8) : List KV × Nat :=
  if keyedW k then
    (if v.isEmpty || decide (32 < v.length) then ([], 2) else (l.take (atI k l).1 ++ [(k, v)] ++ l.drop ((atI k l).1 + if (atI k l).2 then 1 else 0), 0))
  else ([], 1)
def rget (l : List KV) (k : List UInt8) : List UInt8 × Nat :=
  if keyedW k then (if (atI k l).2 then ((l[(atI k l).1]?.getD ([], [])).2, 0) else ([], 5)) else ([], 1)
def rdel (l : List KV) (k : List UInt8) : List KV × Nat :=
  if (rget l k).2 = 0 then (l.take (atI k l).1 ++ l.drop ((atI k l).1 + 1), 0) else ([], (rget l k).2)
theorem atI_mem {l : List KV} (h : rises l) (k : List UInt8) : ((atI k l).2 = true → (k, (l[(atI k l).1]?.getD ([], [])).2) ∈ l) ∧ ((atI k l).2 = false → ∀ x ∈ l, x.1 ≠ k) := by
  obtain ⟨X, Y, e, hX, hX2, hT, hF⟩ := atI_spec k l h
  refine ⟨fun ht => ?_, fun ht x hx hk => ?_⟩
  · obtain ⟨y, Y', rfl, hy⟩ := hT ht
    rw [← hX]
    have e1 : l[X.length]? = some y := by rw [e]; simp
    rw [e1, Option.getD_some, e, ← hy]
    simp
  · rw [e, List.mem_append] at hx
    have : Op.bytesLess x.1 k = true ∨ Op.bytesLess k x.1 = true := hx.imp (hX2 x) (hF ht x)
    rw [hk, Nib.blt_irrefl] at this
    simp at this
theorem rises_one {l : List KV} (h : rises l) {k a b : List UInt8} (ha : (k, a) ∈ l) (hb : (k, b) ∈ l) : a = b := by
  induction l with
  | nil => cases ha
  | cons x l ih =>
    obtain ⟨h1, h2⟩ := List.pairwise_cons.1 h
    rcases List.mem_cons.1 ha with rfl | ha'
    · rcases List.mem_cons.1 hb with e | hb'
      · injection e with _ e; exact e.symm
      · have := h1 _ hb'; rw [Nib.blt_irrefl] at this; cases this
    · rcases List.mem_cons.1 hb with rfl | hb'
      · have := h1 _ ha'; rw [Nib.blt_irrefl] at this; cases this
      · exact ih h2 ha' hb'
theorem rget_getW {t : T} (h : Good t) (k : List UInt8) : rget (itemsW t) k = getW t k := by
  unfold rget getW
  have hm := atI_mem (rises_itemsW h) k
  by_cases hk : keyedW k
  · rw [if_pos hk, if_pos hk]
    cases ht : (atI k (itemsW t)).2 with
    | true =>
      obtain ⟨e1, e2⟩ := (mem_itemsW h _ _).1 (hm.1 ht)
      rw [if_pos rfl, e1, if_neg (by simpa using e2)]
    | false =>
      have hl : look t (Nib.of k) = [] := by
        by_cases hl : look t (Nib.of k) = []
        · exact hl
        · exact absurd rfl (hm.2 ht _ ((mem_itemsW h k _).2 ⟨rfl, hl⟩))
      rw [if_neg (by simp), if_pos (by rw [hl]; rfl)]
  · rw [if_neg hk, if_neg hk]
theorem cut_spec {l : List KV} (h : rises l) (k : List UInt8) : ∃ X Z, l.take (atI k l).1 = X ∧ l.drop ((atI k l).1 + if (atI k l).2 then 1 else 0) = Z ∧ rises (X ++ Z) ∧ (∀ x ∈ X, Op.bytesLess x.1 k = true) ∧ (∀ z ∈ Z, Op.bytesLess k z.1 = true) ∧ ∀ x, (x ∈ l ∧ x.1 ≠ k) ↔ (x ∈ X ∨ x ∈ Z) := by
  obtain ⟨X, Y, e, hX, hX2, hT, hF⟩ := atI_spec k l h
  have hs := h
  rw [e] at hs
  obtain ⟨sX, sY, sXY⟩ := List.pairwise_append.1 hs
  have e1 : l.take (atI k l).1 = X := by rw [← hX, e, List.take_left]
  have irr : ∀ x : KV, (Op.bytesLess x.1 k = true ∨ Op.bytesLess k x.1 = true) → x.1 ≠ k := fun x hx hk => by
    rw [hk, Nib.blt_irrefl] at hx; simp at hx
  cases ht : (atI k l).2 with
  | true =>
    obtain ⟨y, Y', rfl, hy⟩ := hT ht
    obtain ⟨y1, y2⟩ := List.pairwise_cons.1 sY
    have e2 : l.drop ((atI k l).1 + 1) = Y' := by rw [← hX, e, List.drop_append]; simp
    have hY : ∀ z ∈ Y', Op.bytesLess k z.1 = true := fun z hz => by rw [← hy]; exact y1 z hz
    refine ⟨X, Y', e1, by rw [if_pos rfl]; exact e2, List.pairwise_append.2 ⟨sX, y2, fun a ha b hb => sXY a ha b (by simp [hb])⟩, hX2, hY, fun x => ⟨?_, ?_⟩⟩
    · rintro ⟨hx, hne⟩
      rw [e, List.mem_append, List.mem_cons] at hx
      rcases hx with hx | rfl | hx
      · exact .inl hx
      · exact absurd hy hne
      · exact .inr hx
    · rintro (hx | hx)
      · exact ⟨by rw [e]; simp [hx], irr x (.inl (hX2 x hx))⟩
      · exact ⟨by rw [e]; simp [hx], irr x (.inr (hY x hx))⟩
  | false =>
    have e2 : l.drop ((atI k l).1 + 0) = Y := by rw [← hX, e, Nat.add_zero, List.drop_left]
    refine ⟨X, Y, e1, by rw [if_neg (by simp)]; exact e2, by rw [← e]; exact h, hX2, hF ht, fun x => ⟨?_, ?_⟩⟩
    · rintro ⟨hx, _⟩
      rw [e, List.mem_append] at hx
      exact hx
    · rintro (hx | hx)
      · exact ⟨by rw [e]; simp [hx], irr x (.inl (hX2 x hx))⟩
      · exact ⟨by rw [e]; simp [hx], irr x (.inr (hF ht x hx))⟩
theorem rput_put {t : T} (h : Good t) (k v : List UInt8) : (rput (itemsW t) k v).2 = putCode k v ∧ (putCode k v = 0 → (rput (itemsW t) k v).1 = itemsW (put t (Nib.of k) v)) := by
  unfold rput putCode
  by_cases hk : keyedW k
  · rw [if_pos hk, if_pos hk]
    by_cases hv : (v.isEmpty || decide (32 < v.length)) = true
    · rw [if_pos hv, if_pos hv]
      exact ⟨rfl, fun e => by cases e⟩
    · rw [if_neg hv, if_neg hv]
      simp at hv
      refine ⟨rfl, fun _ => ?_⟩
      obtain ⟨X, Z, e1, e2, hr, hX, hZ, hm⟩ := cut_spec (rises_itemsW h) k
      rw [e1, e2]
      have hg := h.put hk hv.1 hv.2
      refine rises_ext _ _ ?_ (rises_itemsW hg) fun x => ?_
      · obtain ⟨r1, r2, r3⟩ := List.pairwise_append.1 hr
        rw [List.append_assoc]
        refine List.pairwise_append.2 ⟨r1, List.pairwise_cons.2 ⟨fun z hz => hZ z hz, r2⟩, fun a ha b hb => ?_⟩
        rcases List.mem_cons.1 hb with rfl | hb
        · exact hX a ha
        · exact r3 a ha b hb
      · obtain ⟨xk, xv⟩ := x
        rw [mem_itemsW hg, (put_spec t _ v h.wf (Nib.fit_of k) hv.1).2.1 _ (Nib.fit_of xk)]
        have h1 := hm (xk, xv)
        rw [mem_itemsW h] at h1
        simp only [List.mem_append, List.mem_singleton, Prod.mk.injEq]
        by_cases e : xk = k
        · subst e
          rw [if_pos rfl]
          have h2 : ¬ ((xk, xv) ∈ X ∨ (xk, xv) ∈ Z) := fun h3 => (h1.2 h3).2 rfl
          constructor
          · rintro ((hx | hx) | hx)
            · exact absurd (.inl hx) h2
            · exact ⟨hx.2.symm, by rw [hx.2]; exact hv.1⟩
            · exact absurd (.inr hx) h2
          · rintro ⟨e, _⟩
            exact .inl (.inr ⟨rfl, e.symm⟩)
        · rw [if_neg (fun h3 => e (Nib.of_inj h3))]
          constructor
          · rintro ((hx | hx) | hx)
            · exact (h1.2 (.inl hx)).1
            · exact absurd hx.1 e
            · exact (h1.2 (.inr hx)).1
          · intro hx
            rcases h1.1 ⟨hx, e⟩ with h3 | h3
            · exact .inl (.inl h3)
            · exact .inr h3
  · rw [if_neg hk, if_neg hk]
    exact ⟨rfl, fun e => by cases e⟩
theorem rdel_del {t : T} (h : Good t) (k : List UInt8) : (rdel (itemsW t) k).2 = (getW t k).2 ∧ ((getW t k).2 = 0 → (rdel (itemsW t) k).1 = itemsW (del t (Nib.of k))) := by
  unfold rdel
  rw [rget_getW h]
  by_cases hg : (getW t k).2 = 0
  · rw [if_pos hg]
    refine ⟨hg.symm, fun _ => ?_⟩
    obtain ⟨_, hl⟩ := getW_code hg
    obtain ⟨X, Z, e1, e2, hr, hX, hZ, hm⟩ := cut_spec (rises_itemsW h) k
    have ht : (atI k (itemsW t)).2 = true := by
      cases ht : (atI k (itemsW t)).2 with
      | true => rfl
      | false => exact absurd rfl ((atI_mem (rises_itemsW h) k).2 ht _ ((mem_itemsW h k _).2 ⟨rfl, hl⟩))
    rw [ht, if_pos rfl] at e2
    rw [e1, e2]
    have hgd := h.del hl
    refine rises_ext _ _ hr (rises_itemsW hgd) fun x => ?_
    obtain ⟨xk, xv⟩ := x
    rw [mem_itemsW hgd, (del_spec t _ h.wf (Nib.fit_of k) hl).2.1 _ (Nib.fit_of xk), List.mem_append, ← hm, mem_itemsW h]
    by_cases e : xk = k
    · subst e
      rw [if_pos rfl]
      constructor
      · rintro ⟨_, h2⟩; exact absurd rfl h2
      · rintro ⟨e, h2⟩; exact absurd e.symm h2
    · rw [if_neg (fun h3 => e (Nib.of_inj h3))]
      simp [e]
  · rw [if_neg hg]
    exact ⟨rfl, fun e => absurd e hg⟩
theorem rput_len (l : List KV) (k v : List UInt8) : (rput l k v).1.length ≤ l.length + 1 := by
  unfold rput
  split
  · split
    · simp
    · simp only [List.length_append, List.length_take, List.length_drop, List.length_cons, List.length_nil]
      split <;> omega
  · simp
end Trie
end Go.Proofs.YtaplecncnkkigaaDoor

/- The document's lists of items (package pharosref10): Keyed, At, Get, walked. No conditions. -/
namespace Go.Proofs.YtaplecncnkkigaaDoor
set_option linter.unusedVariables false
open Go.RowKit Go.Instr
attribute [local go_sem] ba_get ByteArray.mk_append_mk

theorem item_cells {w : World} {B : Nat} {A : Option Addr} {l : List Trie.KV} (h : Reads w B 2 A l.length (icells l)) {i : Nat} (hi : i < l.length) :
    ∃ ad off, A = some ⟨ad, off, none⟩ ∧ ad < B ∧ ∀ w', Below B w w' → w'.cell? ⟨ad, off + i * 2, none⟩ = some (.string ⟨l[i].1.toArray⟩) ∧ w'.cell? ⟨ad, off + i * 2 + 1, none⟩ = some (.string ⟨l[i].2.toArray⟩) := by
  obtain ⟨ad, off, rfl, hbl, hcell⟩ := h.form (by omega) (by omega)
  have ic := icells_at hi
  have hil := icells_length l
  have e0 : (icells l)[2 * i]'(by omega) = .string ⟨l[i].1.toArray⟩ := by
    have := ic.1; rw [List.getElem?_eq_getElem (by omega)] at this; exact Option.some.inj this
  have e1 : (icells l)[2 * i + 1]'(by omega) = .string ⟨l[i].2.toArray⟩ := by
    have := ic.2; rw [List.getElem?_eq_getElem (by omega)] at this; exact Option.some.inj this
  refine ⟨ad, off, rfl, hbl, fun w' hb => ⟨?_, ?_⟩⟩
  · have q0 := hcell (2 * i) (by omega)
    rw [e0] at q0
    rw [show i * 2 = 2 * i by omega]
    exact (hb.cell (p := ⟨ad, off + 2 * i, none⟩) hbl).trans q0
  · have q1 := hcell (2 * i + 1) (by omega)
    rw [e1] at q1
    rw [show off + i * 2 + 1 = off + (2 * i + 1) by omega]
    exact (hb.cell (p := ⟨ad, off + (2 * i + 1), none⟩) hbl).trans q1

theorem ref10_Keyed (key : List UInt8) (hl : key.length ≤ 9223372036854775000) (w : World) :
    Calls Tryd.prog 64 #[.string ⟨key.toArray⟩] w fun e w' => e = .returned (.bool (Trie.keyedW key)) ∧ w = w' := by
  by_cases h0 : key = []
  · subst h0
    go_enter Tryd.func64, Tryd.ntmps64
    go_wp2
    go_ret
    exact ⟨rfl, rfl⟩
  · have h1 : 1 ≤ key.length := List.length_pos_iff.2 h0
    have hR : Hid (Trie.keyedW key = decide ((key.length : Int) ≤ 8)) := Lib.hid (by
      rw [Trie.keyedW, Bool.eq_iff_iff]; simp [h0]; omega)
    have h2 : (1 : Int) ≤ key.length := by omega
    by_cases h8 : key.length ≤ 8
    · have h3 : (key.length : Int) ≤ 8 := by omega
      have hR2 := Lib.hid (hR.out.trans (decide_eq_true h3))
      clear h0 hR
      go_enter Tryd.func64, Tryd.ntmps64
      go_wp2
      go_ret
      exact ⟨ret_bool hR2.out.symm, rfl⟩
    · have h3 : ((key.length : Int) ≤ 8) = False := by simp; omega
      have hR2 := Lib.hid (hR.out.trans (decide_eq_false (by simp [h3])))
      clear h0 hR
      go_enter Tryd.func64, Tryd.ntmps64
      go_wp2
      go_ret
      exact ⟨ret_bool hR2.out.symm, rfl⟩

def AtIEnd (w : World) (l : List Trie.KV) (key : List UInt8) (e : Ending) (w' : World) : Prop := e = .returned (.tuple #[.int .i64 ((Trie.atI key l).1 : Nat), .bool (Trie.atI key l).2]) ∧ Below w.heap.size w w'
set_option maxHeartbeats 1000000 in
theorem ref10_At (w : World) (A : Option Addr) (c : Nat) (l : List Trie.KV) (HR : Reads w w.heap.size 2 A l.length (icells l)) (hl : l.length ≤ 2000) (key : List UInt8) :
    Calls Tryd.prog 65 #[.slice A l.length c, .string ⟨key.toArray⟩] w (AtIEnd w l key) := by
  have HE : Hid (∀ i b, Trie.atI key l = (i, b) → ∀ w', Below w.heap.size w w' → AtIEnd w l key (.returned (.tuple #[.int .i64 (i : Nat), .bool b])) w') := Lib.hid (by
    intro i b e w' hb
    unfold AtIEnd
    rw [e]
    exact ⟨rfl, hb⟩)
  generalize AtIEnd w l key = P at HE ⊢
  have HRR := Lib.hid HR
  clear HR
  go_enter Tryd.func65, Tryd.ntmps65
  go_wp2
  refine wp_loop_ghost_k (fun k a wr => ∀ Φ : Act → Prop, (∀ (s2 s3 s4 s5 s7 s8 s9 s10 s11 s12 s13 s14 s15 s16 s17 s18 s19 s20 s21 s22 s23 s24 s25 s26 s27 s28 s29 : Value) (i : Nat), (i + k = l.length ∧ Trie.atI key l = (i + (Trie.atI key (l.drop i)).1, (Trie.atI key (l.drop i)).2) ∧ Below w.heap.size w wr) → Φ { tmps := #[.slice A l.length c, .string ⟨key.toArray⟩, s2, s3, s4, s5, .int .i64 i, s7, s8, s9, s10, s11, s12, s13, s14, s15, s16, s17, s18, s19, s20, s21, s22, s23, s24, s25, s26, s27, s28, s29], defers := [] }) → Φ a) (l.length) ?_ ?_
  · refine fun Φ hΦ => hΦ _ _ _ _ _ _ _ _ _ _ _ _ _ _ _ _ _ _ _ _ _ _ _ _ _ _ _ (0) ?_
    exact ⟨by omega, by simp, by go_grown⟩
  · intro k1 a1 wr1 hI1 J1 K1 hJ1 hK1
    refine hI1 (fun a => Code.wp _ _ _ a _) ?_
    clear hI1 a1
    intro s0 s1 s2 s3 s4 s5 s6 s7 s8 s9 s10 s11 s12 s13 s14 s15 s16 s17 s18 s19 s20 s21 s22 s23 s24 s25 s26 i hrel
    show Code.wp _ _ _ _ _
    obtain ⟨h1, h2, hb⟩ := hrel
    by_cases hi : i < l.length
    · obtain ⟨ad, off, rfl, hbl, hcell⟩ := item_cells HRR.out hi
      obtain ⟨q0, q1⟩ := hcell _ hb
      obtain ⟨s1, s2⟩ := Trie.atI_step key l i hi h2
      have hi1 : (i : Int) < l.length := by omega
      have hi0 : (0 : Int) ≤ i := by omega
      have HI := Lib.hid h1
      have HB := Lib.hid hb
      clear hcell h2 h1 hb
      generalize l[i] = x at *
      obtain ⟨xk, xv⟩ := x
      simp only at q0 q1 s1 s2
      cases e3 : Op.bytesLess xk key with
      | true =>
        have T := Lib.hid (s1 e3)
        clear s1 s2
        have e4 := bl_asymm _ _ e3
        have e5 : (xk == key) = false := by
          simp only [beq_eq_false_iff_ne, ne_eq]; intro e; subst e; rw [bl_irrefl] at e3; cases e3
        go_wp2
        refine Handed.intro (l.length - (i + 1)) ?_ (hJ1 _ _ _ (fun Φ hΦ => hΦ _ _ _ _ _ _ _ _ _ _ _ _ _ _ _ _ _ _ _ _ _ _ _ _ _ _ _ (i + 1) ?_))
        · have := HI.out
          omega
        · have := HI.out
          exact ⟨by omega, T.out, HB.out⟩
      | false =>
        have T := Lib.hid (HE.out i _ (s2 e3))
        clear s1 s2 HE
        by_cases e4 : xk = key
        · subst e4
          rw [decide_eq_true rfl] at T
          go_wp2
          go_quiet (fail)
          go_wp2
          exact T.out _ (below_drewN HB.out _)
        · have e5 : (xk == key) = false := by simp [e4]
          have e6 := bl_gt e3 (fun e => e4 e.symm)
          rw [decide_eq_false e4] at T
          clear e4
          go_wp2
          go_quiet (fail)
          go_wp2
          exact T.out _ (below_drewN HB.out _)
    · have hi2 : ((i : Int) < l.length) = False := by simp; omega
      have e : l.drop i = [] := List.drop_eq_nil_of_le (by omega)
      rw [e] at h2
      have e3 : i = l.length := by omega
      have T := Lib.hid (HE.out l.length false (by rw [h2, e3]; rfl))
      have HB := Lib.hid hb
      clear h2 e HE hb
      go_wp2
      exact T.out _ HB.out
end Go.Proofs.YtaplecncnkkigaaDoor
