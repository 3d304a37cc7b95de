import Derived.Test.YtcjafcbekegmlaaDoorJ08
import Derived.Test.YtcjafcbekegmlaaDoorJ12
import Derived.Test.YtcjafcbekegmlaaDoorJ01
import Derived.Deep.MidRow
import Derived.BigFrame
set_option linter.unusedSimpArgs false
set_option linter.unusedVariables false
namespace Go.Proofs.YtcjafcbekegmlaaDoor
set_option linter.unusedVariables false
open Go.RowKit Go.Instr
attribute [local go_sem] ba_get ByteArray.mk_append_mk
theorem Rdr.grown {w w' : World} {g : Nat} {s : List UInt8 × Nat} {row : Option Nat} (h : Rdr w g s) (hg : w.grownBy w' row) (hne : some g ≠ row) : Rdr w' g s := by
  obtain ⟨all, a, h1, h2⟩ := h
  exact ⟨all, a, Blk.grown h1 hg hne, h2⟩
set_option maxHeartbeats 1000000 in
theorem code_RBytes (w : World) (g : Nat) (s : List UInt8 × Nat) (h : Rdr w g s) (n : Nat) (hn : n ≤ 1000) :
    Calls Tryd.prog 62 #[.pointer (some ⟨g, 0, none⟩), .int .i64 (n : Int)] w (RdrEnd w g (.string ⟨(bytesS s n).1.toArray⟩) (bytesS s n).2) := by
  obtain ⟨rest, c⟩ := s
  obtain ⟨all, a, hB, ha, hl, hr⟩ := h
  simp only at hB hr
  subst hr
  have HP : Hid (∀ (t : List UInt8) s' w', bytesS (all.drop a, c) n = (t, s') → Rdr w' g s' → w.grownBy w' (some g) → RdrEnd w g (.string ⟨(bytesS (all.drop a, c) n).1.toArray⟩) (bytesS (all.drop a, c) n).2 (.returned (.string ⟨t.toArray⟩)) w') := Lib.hid (fun n s' w' e h1 h2 => by rw [e]; exact ⟨rfl, h1, h2⟩)
  have HX : Hid (bytesS (all.drop a, c) n = if c ≠ 0 then ([], (all.drop a, c)) else if n ≤ (all.drop a).length then ((all.drop a).take n, ((all.drop a).drop n, 0)) else ([], (all.drop a, 20))) := Lib.hid rfl
  generalize RdrEnd w g (.string ⟨(bytesS (all.drop a, c) n).1.toArray⟩) (bytesS (all.drop a, c) n).2 = P at HP ⊢
  generalize bytesS (all.drop a, c) n = X at *
  obtain ⟨c0, c1, c2, f1, f2⟩ := hB.cells
  have HB := Lib.hid hB
  have HL := Lib.hid (And.intro ha hl)
  have hn0 : ((n : Int) < 0) = False := by simp
  by_cases hc : c = 0
  · subst hc
    have HT := Lib.hid (code_take w g all a 0 hB hl ha n (by omega))
    by_cases hle : n ≤ (all.drop a).length
    · have HE : Hid (X = ((all.drop a).take n, ((all.drop a).drop n, 0))) := Lib.hid (by rw [HX.out, if_neg (by simp), if_pos hle])
      rw [if_pos hle, if_pos hle, decide_eq_true hle] at HT
      have hle2 : n ≤ all.length - a := by rw [List.length_drop] at hle; exact hle
      have HA : Hid (a + n ≤ all.length) := Lib.hid (by omega)
      clear hB ha hl hle HX hle2
      generalize (all.drop a).take n = t at *
      go_enter Tryd.func62, Tryd.ntmps62
      go_wp2_with fail
      refine HT.out.mono ?_
      rintro e w1 ⟨rfl, h1, h2⟩
      have HF := Lib.hid (HP.out t _ w1 HE.out ⟨all, a + n, h1, HA.out, HL.out.2, by rw [List.drop_drop]⟩ h2)
      clear h1 h2
      go_wp2_with fail
      exact HF.out
    · have HE : Hid (X = ([], (all.drop a, 20))) := Lib.hid (by rw [HX.out, if_neg (by simp), if_neg hle])
      rw [if_neg hle, if_neg hle, decide_eq_false hle] at HT
      clear hB ha hl hle HX
      go_enter Tryd.func62, Tryd.ntmps62
      go_wp2_with fail
      refine HT.out.mono ?_
      rintro e w1 ⟨rfl, h1, h2⟩
      have HR := Lib.hid (code_refused w1 g all a 0 h1 a 20)
      rw [if_pos rfl, if_pos rfl] at HR
      obtain ⟨d0, d1, d2, _, _⟩ := h1.cells
      have HG := Lib.hid h2
      clear h1 h2
      go_wp2_with fail
      refine HR.out.mono ?_
      rintro e w2 ⟨rfl, h5, h6⟩
      have HF := Lib.hid (HP.out [] _ w2 HE.out ⟨all, a, h5, HL.out.1, HL.out.2, rfl⟩ (HG.out.trans h6))
      clear h5 h6
      go_wp2_with fail
      exact HF.out
  · have HE : Hid (X = ([], (all.drop a, c))) := Lib.hid (by rw [HX.out, if_pos hc])
    have hm1 : ((c : Int) != 0) = true := by simp; exact hc
    clear hB ha hl hc HX
    go_enter Tryd.func62, Tryd.ntmps62
    go_wp2_with fail
    exact HP.out [] _ _ HE.out ⟨all, a, HB.out, HL.out.1, HL.out.2, rfl⟩ (World.grownBy.refl _ _)
end Go.Proofs.YtcjafcbekegmlaaDoor

namespace Go.Proofs.YtcjafcbekegmlaaDoor
set_option linter.unusedVariables false
open Go.RowKit
attribute [local go_sem] ba_get ByteArray.mk_append_mk
structure Live (w W : World) (L : List (Nat × Nat × Array Value)) : Prop where
  b : Below w.heap.size w W
  l : ∀ x ∈ L, w.heap.size ≤ x.1 ∧ Blk W x.1 x.2.1 x.2.2
  d : L.Pairwise fun x y => x.1 ≠ y.1
section
variable {w W W' : World} {L : List (Nat × Nat × Array Value)} {i g t : Nat} {cs cs' : Array Value}
theorem Live.start (w : World) : Live w w [] := ⟨Below.refl _ _, by simp, List.Pairwise.nil⟩
theorem Live.blk (h : Live w W L) (i : Nat) (hi : L[i]? = some (g, t, cs)) : Blk W g t cs := (h.l _ (List.mem_of_getElem? hi)).2
theorem Live.own (h : Live w W L) (i : Nat) (hi : L[i]? = some (g, t, cs)) : w.heap.size ≤ g := (h.l _ (List.mem_of_getElem? hi)).1
theorem Live.lt (h : Live w W L) (i : Nat) (hi : L[i]? = some (g, t, cs)) : g < W.heap.size := (h.blk i hi).lt
theorem Live.cell (h : Live w W L) (i k : Nat) {v : Value} (hi : L[i]? = some (g, t, cs)) (hk : cs[k]? = some v) : W.cell? ⟨g, k, none⟩ = some v := ((h.blk i hi).cell k).trans hk
theorem Live.frozen (h : Live w W L) (i k : Nat) (hi : L[i]? = some (g, t, cs)) : W.frozen? ⟨g, k, none⟩ = false := (h.blk i hi).frozen k
theorem Live.below (h : Live w W L) (hb : Below W.heap.size W W') : Live w W' L :=
  ⟨h.b.trans (hb.mono h.b.size), fun x hx => ⟨(h.l x hx).1, (h.l x hx).2.below hb (h.l x hx).2.lt⟩, h.d⟩
theorem Live.alloc (h : Live w W L) (cs : Array Value) (t : Nat) : Live w (W.alloc (.cells cs t)) ((W.heap.size, t, cs) :: L) :=
  ⟨h.b.alloc h.b.size _, by
    intro x hx
    rcases List.mem_cons.1 hx with rfl | hx
    · exact ⟨h.b.size, Blk.new _ _ _⟩
    · exact ⟨(h.l x hx).1, (h.l x hx).2.alloc _⟩, by
    refine List.pairwise_cons.2 ⟨fun x hx e => ?_, h.d⟩
    have := (h.l x hx).2.lt
    have e' : W.heap.size = x.1 := e
    omega⟩
theorem Live.drop (h : Live w W L) (k : Nat) : Live w W (L.drop k) :=
  ⟨h.b, fun x hx => h.l x (List.mem_of_mem_drop hx), h.d.sublist (List.drop_sublist _ _)⟩
theorem pairwise_set_ {L : List (Nat × Nat × Array Value)} (d : L.Pairwise fun x y => x.1 ≠ y.1) (i : Nat) (hi : L[i]? = some (g, t, cs)) : (L.set i (g, t, cs')).Pairwise fun x y => x.1 ≠ y.1 := by
  have e : (L.set i (g, t, cs')).map (·.1) = L.map (·.1) := by
    rw [List.map_set]
    apply List.ext_getElem?
    intro j
    rw [List.getElem?_set]
    split
    · rename_i hj
      subst hj
      obtain ⟨hl, he⟩ := List.getElem?_eq_some_iff.1 hi
      simp [hl, he]
    · rfl
  have h1 : (L.map (·.1)).Pairwise (· ≠ ·) := List.pairwise_map.2 d
  rw [← e] at h1
  exact List.pairwise_map.1 h1
theorem Live.grown (h : Live w W L) (i : Nat) (hi : L[i]? = some (g, t, cs)) (hg : W.grownBy W' (some g)) (hb : Blk W' g t cs') : Live w W' (L.set i (g, t, cs')) := by
  have hgo := h.own i hi
  refine ⟨h.b.grown hg h.b.size (fun k e => by injection e with e; subst e; exact hgo), fun x hx => ?_, pairwise_set_ h.d i hi⟩
  obtain ⟨j, hj⟩ := List.getElem?_of_mem hx
  rw [List.getElem?_set] at hj
  split at hj
  · rename_i e
    split at hj
    · injection hj with hj
      subst hj
      exact ⟨hgo, hb⟩
    · cases hj
  · rename_i e
    have hxL := List.mem_of_getElem? hj
    refine ⟨(h.l x hxL).1, (h.l x hxL).2.grown hg ?_⟩
    intro e2
    injection e2 with e2
    have hp := h.d
    rw [List.pairwise_iff_getElem] at hp
    obtain ⟨h1, h2⟩ := List.getElem?_eq_some_iff.1 hi
    obtain ⟨h3, h4⟩ := List.getElem?_eq_some_iff.1 hj
    rcases Nat.lt_or_gt_of_ne e with hlt | hlt
    · have := hp i j h1 h3 hlt
      rw [h2, h4] at this
      exact this e2.symm
    · have := hp j i h3 h1 hlt
      rw [h2, h4] at this
      exact this e2
theorem Live.apart (h : Live w W L) {row : Option Nat} (hg : W.grownBy W' row) (hr : ∀ k, row = some k → w.heap.size ≤ k ∧ ∀ x ∈ L, x.1 ≠ k) : Live w W' L :=
  ⟨h.b.grown hg h.b.size (fun k e => (hr k e).1), fun x hx => ⟨(h.l x hx).1, (h.l x hx).2.grown hg (fun e => (hr _ e.symm).2 x hx rfl)⟩, h.d⟩
theorem Live.set (h : Live w W L) (i k : Nat) (u : Value) (hi : L[i]? = some (g, t, cs)) : Live w (W.setCell ⟨g, k, none⟩ u) (L.set i (g, t, cs.setIfInBounds k u)) :=
  h.grown i hi ⟨rfl, rfl, rfl, by simp [World.setCell], fun j hj hne => Below.heap_setCell _ _ _ _ (fun e => hne (by rw [e]))⟩ ((h.blk i hi).set_ k u)
theorem Live.push {base e size n : Nat} {v : Value} {xs : List Value} (h : Live w W L) (own : W.ownsRow base e size v n xs) (hbase : w.heap.size ≤ base) (hne : ∀ x ∈ L, e ≠ x.2.1) (hg : W.grownBy W' v.ownBlock) : Live w W' L :=
  h.apart hg fun k hk => ⟨Nat.le_trans hbase (own.lt k hk).1, fun x hx he => own_blk_ne own (h.l x hx).2 (hne x hx) (by rw [he]; exact hk)⟩
theorem Live.hp {base e size n : Nat} {v : Value} {xs : List Value} (h : Hid (Live w W L)) (own : W.ownsRow base e size v n xs) (hbase : w.heap.size ≤ base) (hne : ∀ x ∈ L, e ≠ x.2.1) (hg : W.grownBy W' v.ownBlock) : Hid (Live w W' L) := Lib.hid (h.out.push own hbase hne hg)
theorem Live.hb (h : Hid (Live w W L)) (hb : Below W.heap.size W W') : Hid (Live w W' L) := Lib.hid (h.out.below hb)
theorem Live.ha (h : Hid (Live w W L)) (cs : Array Value) (t : Nat) : Hid (Live w (W.alloc (.cells cs t)) ((W.heap.size, t, cs) :: L)) := Lib.hid (h.out.alloc cs t)
theorem Live.hs (h : Hid (Live w W L)) (i k : Nat) (u : Value) (hi : L[i]? = some (g, t, cs)) : Hid (Live w (W.setCell ⟨g, k, none⟩ u) (L.set i (g, t, cs.setIfInBounds k u))) := Lib.hid (h.out.set i k u hi)
theorem Live.hg (h : Hid (Live w W L)) (i : Nat) (hi : L[i]? = some (g, t, cs)) (hg : W.grownBy W' (some g)) (hb : Blk W' g t cs') : Hid (Live w W' (L.set i (g, t, cs'))) := Lib.hid (h.out.grown i hi hg hb)
theorem Live.drew (h : Live w W L) (n : Nat) : Live w (W.drewN n) L := ⟨⟨h.b.os, h.b.tape, h.b.output, h.b.size, h.b.block⟩, h.l, h.d⟩
end
open Go.Instr
def Ret (w : World) (v : Value) (e : Ending) (w' : World) : Prop := e = .returned v ∧ Below w.heap.size w w'
end Go.Proofs.YtcjafcbekegmlaaDoor

namespace Go.Proofs.YtcjafcbekegmlaaDoor
set_option linter.unusedVariables false
open Go.RowKit
theorem Blk.setAll {g : Nat} {t : TypeId} : ∀ (vs A B R : List Value) (w : World), B.length = vs.length → Blk w g t (A ++ (B ++ R)).toArray → Blk (w.setCells g A.length vs) g t (A ++ (vs ++ R)).toArray
  | [], A, B, R, w, h, hb => by
    have : B = [] := List.eq_nil_of_length_eq_zero h
    subst this
    exact hb
  | v :: r, A, [], R, w, h, hb => by simp at h
  | v :: r, A, b :: B, R, w, h, hb => by
    have h1 := hb.set_ A.length v
    rw [List.setIfInBounds_toArray, List.set_append_right _ _ (Nat.le_refl _), Nat.sub_self] at h1
    simp only [List.cons_append, List.set_cons_zero] at h1
    have h2 := Blk.setAll r (A ++ [v]) B R (w.setCell ⟨g, A.length, none⟩ v) (by simpa using h) (by simpa using h1)
    rw [List.length_append] at h2
    simpa [World.setCells] using h2
theorem grown_setAll {g : Nat} {a : World} : ∀ (vs : List Value) (o : Nat) (w : World), a.grownBy w (some g) → a.grownBy (w.setCells g o vs) (some g)
  | [], _, _, h => h
  | v :: r, o, w, h => grown_setAll r (o + 1) _ ⟨h.os, h.tape, h.output, by simpa [World.setCell] using h.size, fun j hj hne => (Below.heap_setCell _ _ _ _ (fun e => hne (by rw [e]))).trans (h.block j hj hne)⟩
section
variable {w W : World} {L : List (Nat × Nat × Array Value)} {g t : Nat} {cs : Array Value}
theorem Live.hall (h : Hid (Live w W L)) (i : Nat) (vs : List Value) (hi : L[i]? = some (g, t, cs)) (hl : cs.size = vs.length) : Hid (Live w (W.setCells g 0 vs) (L.set i (g, t, vs.toArray))) := by
  refine Lib.hid (h.out.grown i hi (grown_setAll vs 0 W (World.grownBy.refl _ _)) ?_)
  have hb := h.out.blk i hi
  have := Blk.setAll vs [] cs.toList [] W (by rw [← hl]; exact Array.length_toList) (by simpa using hb)
  simpa using this
theorem Live.there (h : Live w W L) (i : Nat) (n : Nat) (hi : L[i]? = some (g, t, cs)) (hn : n ≤ cs.size) : W.there g 0 n := fun j hj => by
  rw [Nat.zero_add]
  refine ⟨?_, h.frozen i j hi⟩
  rw [(h.blk i hi).cell, Array.getElem?_eq_getElem (by omega)]; rfl
end
theorem at_op {P : Program} {ops : Array Oper} {Q : Exit → Act → World → Prop} {rest : List Oper} {a : Act} {w : World} (n : Tmp) {op : Op} {t : TypeId} {p : String} {af : Array Edge} {g : Option (Nat × Bool)}
    (h : wpList P ops Q (⟨some n, op, t, p, af, g⟩ :: rest) a w) : wpList P ops Q (⟨some n, op, t, p, af, g⟩ :: rest) a w := h
end Go.Proofs.YtcjafcbekegmlaaDoor

namespace Go.Proofs.YtcjafcbekegmlaaDoor
set_option linter.unusedVariables false
open Go.RowKit Go.Instr
attribute [local go_sem] ba_get ByteArray.mk_append_mk
theorem nodeV_put (k : Nat) (p v : List UInt8) (K : List (List UInt8)) (i : Nat) (s : List UInt8) (hi : i < K.length) : (nodeV k p v K).toArray.setIfInBounds (3 + i) (.string ⟨s.toArray⟩) = (nodeV k p v (K.set i s)).toArray := by
  rw [List.setIfInBounds_toArray, show 3 + i = i + 1 + 1 + 1 by omega]
  unfold nodeV
  rw [List.set_cons_succ, List.set_cons_succ, List.set_cons_succ]
  unfold strv
  rw [List.map_set]
def pad (D : List (List UInt8)) : List (List UInt8) := D ++ List.replicate (16 - D.length) []
theorem pad_set (D : List (List UInt8)) (s : List UInt8) (h : D.length < 16) : (pad D).set D.length s = pad (D ++ [s]) := by
  unfold pad
  rw [List.set_append_right _ _ (Nat.le_refl _), Nat.sub_self, List.length_append, List.length_singleton]
  obtain ⟨m, hm⟩ : ∃ m, 16 - D.length = m + 1 := ⟨15 - D.length, by omega⟩
  rw [hm, List.replicate_succ, List.set_cons_zero, show 16 - (D.length + 1) = m by omega]
  simp
theorem pad_len (D : List (List UInt8)) (h : D.length ≤ 16) : (pad D).length = 16 := by unfold pad; simp; omega
theorem pad_nil_set (D : List (List UInt8)) (h : D.length < 16) : pad (D ++ [[]]) = pad D := by
  rw [← pad_set D [] h]
  unfold pad
  rw [List.set_append_right _ _ (Nat.le_refl _), Nat.sub_self]
  obtain ⟨m, hm⟩ : ∃ m, 16 - D.length = m + 1 := ⟨15 - D.length, by omega⟩
  rw [hm, List.replicate_succ, List.set_cons_zero]
theorem pad_full {D : List (List UInt8)} (h : D.length = 16) : pad D = D := by unfold pad; rw [h]; simp
theorem Rdr.below' {w w' : World} {g : Nat} {s : List UInt8 × Nat} (h : Rdr w g s) (hb : Below w.heap.size w w') : Rdr w' g s := by
  obtain ⟨all, a, h1, h2⟩ := h
  exact ⟨all, a, Blk.below h1 hb (Blk.lt h1), h2⟩
structure RdNd (w0 w : World) (g nb : Nat) (s : List UInt8 × Nat) (n : Nd) : Prop where
  rd : Rdr w g s
  nd : Blk w nb 70 (nodeV n.1 n.2.1 n.2.2.1 n.2.2.2).toArray
  ne : g ≠ nb
  g0 : w0.heap.size ≤ g
  n0 : w0.heap.size ≤ nb
  b : Below w0.heap.size w0 w
theorem RdNd.read {w0 w w' : World} {g nb : Nat} {s s' : List UInt8 × Nat} {n : Nd} (h : RdNd w0 w g nb s n) (hr : Rdr w' g s') (hg : w.grownBy w' (some g)) : RdNd w0 w' g nb s' n :=
  ⟨hr, h.nd.grown hg (fun e => h.ne (by injection e with e; exact e.symm)), h.ne, h.g0, h.n0, h.b.grown hg h.b.size (fun k e => by injection e with e; subst e; exact h.g0)⟩
theorem RdNd.below {w0 w w' : World} {g nb : Nat} {s : List UInt8 × Nat} {n : Nd} (h : RdNd w0 w g nb s n) (hb : Below w.heap.size w w') : RdNd w0 w' g nb s n :=
  ⟨h.rd.below' hb, h.nd.below hb h.nd.lt, h.ne, h.g0, h.n0, h.b.nxt hb⟩
theorem RdNd.drew {w0 w : World} {g nb : Nat} {s : List UInt8 × Nat} {n : Nd} (h : RdNd w0 w g nb s n) : RdNd w0 w.drew g nb s n := ⟨h.rd, h.nd, h.ne, h.g0, h.n0, h.b.drew⟩
theorem RdNd.drewN {w0 w : World} {g nb : Nat} {s : List UInt8 × Nat} {n : Nd} (h : RdNd w0 w g nb s n) (m : Nat) : RdNd w0 (w.drewN m) g nb s n := ⟨h.rd, h.nd, h.ne, h.g0, h.n0, below_drewN h.b m⟩
theorem RdNd.write {w0 w : World} {g nb : Nat} {s : List UInt8 × Nat} {n m : Nd} (h : RdNd w0 w g nb s n) (i : Nat) (u : Value) (hm : (nodeV n.1 n.2.1 n.2.2.1 n.2.2.2).toArray.setIfInBounds i u = (nodeV m.1 m.2.1 m.2.2.1 m.2.2.2).toArray) : RdNd w0 (w.setCell ⟨nb, i, none⟩ u) g nb s m := by
  refine ⟨h.rd.grown (row := some nb) ?_ (fun e => h.ne (by injection e)), ?_, h.ne, h.g0, h.n0, h.b.setCell h.n0 _⟩
  · exact ⟨rfl, rfl, rfl, by simp [World.setCell], fun j hj hne => Below.heap_setCell _ _ _ _ (fun e => hne (by rw [e]))⟩
  · have := h.nd.set_ i u
    rwa [hm] at this
def RdNdEnd (w0 : World) (g nb : Nat) (v : Value) (s : List UInt8 × Nat) (n : Nd) (e : Ending) (w' : World) : Prop := e = .returned v ∧ RdNd w0 w' g nb s n
theorem wpList_load_want {P : Program} {ops : Array Oper} {rest : List Oper} {op : Oper} {a : Act} {w : World} {Q : Exit → Act → World → Prop} (hw : Region.wanted op (yielded ops a.tmps) = true) (ty : TypeId) (x : Operand) (ho : op.op = .load ty x)
    (b o : Nat) (hx : a.eval x = .pointer (some ⟨b, o, none⟩)) (cs : List Value) (d : TypeDesc) (hc : w.rangeAt b o cs)
    (hu : P.underlying ty = some d) (hd : d.isRow = true) (hi : (P.info? ty).map (·.size) = some cs.length)
    (h : wpList P ops Q rest (a.put op.dst (.agg cs.toArray)) w) : wpList P ops Q (op :: rest) a w :=
  Go.BigFrame.wpList_want hw fun _ hK => wp_load_mid ty x ho b o hx cs d hc hu hd hi (hK _ _ h)
theorem at_put {P : Program} {ops : Array Oper} {Q : Exit → Act → World → Prop} {rest : List Oper} {a : Act} {w : World} (n : Tmp) {ty : TypeId} {x : Operand} {t : TypeId} {p : String} {af : Array Edge} {g : Option (Nat × Bool)}
    (h : wpList P ops Q (⟨none, .store ty x (.tmp n), t, p, af, g⟩ :: rest) a w) : wpList P ops Q (⟨none, .store ty x (.tmp n), t, p, af, g⟩ :: rest) a w := h
end Go.Proofs.YtcjafcbekegmlaaDoor
