import Derived.Test.YtefcmigbdfeaiaaDoorJ16
import Derived.Deep.MidRow
import Derived.Test.YtefcmigbdfeaiaaDoorJ15
import Derived.BigFrame
import Derived.Test.YtefcmigbdfeaiaaDoorJ01
set_option linter.unusedSimpArgs false
set_option linter.unusedVariables false
namespace Go.Proofs.YtefcmigbdfeaiaaDoor
set_option linter.unusedVariables false
open Go.RowKit
theorem Blk.setAll {g : Nat} {t : TypeId} : ∀ (vs A B R : List Value) (w : World), B.length = vs.length → Blk w g t (A ++ (B ++ R)).toArray → Blk (w.setCells g A.length vs) g t (A ++ (vs ++ R)).toArray
  | [], A, B, R, w, h, hb => by
    have : B = [] := List.eq_nil_of_length_eq_zero h
    subst this
    exact hb
  | v :: r, A, [], R, w, h, hb => by simp at h
  | v :: r, A, b :: B, R, w, h, hb => by
    have h1 := hb.set_ A.length v
    rw [List.setIfInBounds_toArray, List.set_append_right _ _ (Nat.le_refl _), Nat.sub_self] at h1
    simp only [List.cons_append, List.set_cons_zero] at h1
    have h2 := Blk.setAll r (A ++ [v]) B R (w.setCell ⟨g, A.length, none⟩ v) (by simpa using h) (by simpa using h1)
    rw [List.length_append] at h2
    simpa [World.setCells] using h2
theorem grown_setAll {g : Nat} {a : World} : ∀ (vs : List Value) (o : Nat) (w : World), a.grownBy w (some g) → a.grownBy (w.setCells g o vs) (some g)
  | [], _, _, h => h
  | v :: r, o, w, h => grown_setAll r (o + 1) _ ⟨h.os, h.tape, h.output, by simpa [World.setCell] using h.size, fun j hj hne => (Below.heap_setCell _ _ _ _ (fun e => hne (by rw [e]))).trans (h.block j hj hne)⟩
section
variable {w W : World} {L : List (Nat × Nat × Array Value)} {g t : Nat} {cs : Array Value}
theorem Live.hall (h : Hid (Live w W L)) (i : Nat) (vs : List Value) (hi : L[i]? = some (g, t, cs)) (hl : cs.size = vs.length) : Hid (Live w (W.setCells g 0 vs) (L.set i (g, t, vs.toArray))) := by
  refine Lib.hid (h.out.grown i hi (grown_setAll vs 0 W (World.grownBy.refl _ _)) ?_)
  have hb := h.out.blk i hi
  have := Blk.setAll vs [] cs.toList [] W (by rw [← hl]; exact Array.length_toList) (by simpa using hb)
  simpa using this
theorem Live.there (h : Live w W L) (i : Nat) (n : Nat) (hi : L[i]? = some (g, t, cs)) (hn : n ≤ cs.size) : W.there g 0 n := fun j hj => by
  rw [Nat.zero_add]
  refine ⟨?_, h.frozen i j hi⟩
  rw [(h.blk i hi).cell, Array.getElem?_eq_getElem (by omega)]; rfl
end
theorem at_op {P : Program} {ops : Array Oper} {Q : Exit → Act → World → Prop} {rest : List Oper} {a : Act} {w : World} (n : Tmp) {op : Op} {t : TypeId} {p : String} {af : Array Edge} {g : Option (Nat × Bool)}
    (h : wpList P ops Q (⟨some n, op, t, p, af, g⟩ :: rest) a w) : wpList P ops Q (⟨some n, op, t, p, af, g⟩ :: rest) a w := h
end Go.Proofs.YtefcmigbdfeaiaaDoor

namespace Go.Proofs.YtefcmigbdfeaiaaDoor
set_option linter.unusedVariables false
open Go.RowKit Go.Instr
attribute [local go_sem] ba_get ByteArray.mk_append_mk
theorem nodeV_put (k : Nat) (p v : List UInt8) (K : List (List UInt8)) (i : Nat) (s : List UInt8) (hi : i < K.length) : (nodeV k p v K).toArray.setIfInBounds (3 + i) (.string ⟨s.toArray⟩) = (nodeV k p v (K.set i s)).toArray := by
  rw [List.setIfInBounds_toArray, show 3 + i = i + 1 + 1 + 1 by omega]
  unfold nodeV
  rw [List.set_cons_succ, List.set_cons_succ, List.set_cons_succ]
  unfold strv
  rw [List.map_set]
def pad (D : List (List UInt8)) : List (List UInt8) := D ++ List.replicate (16 - D.length) []
theorem pad_set (D : List (List UInt8)) (s : List UInt8) (h : D.length < 16) : (pad D).set D.length s = pad (D ++ [s]) := by
  unfold pad
  rw [List.set_append_right _ _ (Nat.le_refl _), Nat.sub_self, List.length_append, List.length_singleton]
  obtain ⟨m, hm⟩ : ∃ m, 16 - D.length = m + 1 := ⟨15 - D.length, by omega⟩
  rw [hm, List.replicate_succ, List.set_cons_zero, show 16 - (D.length + 1) = m by omega]
  simp
theorem pad_len (D : List (List UInt8)) (h : D.length ≤ 16) : (pad D).length = 16 := by unfold pad; simp; omega
theorem pad_nil_set (D : List (List UInt8)) (h : D.length < 16) : pad (D ++ [[]]) = pad D := by
  rw [← pad_set D [] h]
  unfold pad
  rw [List.set_append_right _ _ (Nat.le_refl _), Nat.sub_self]
  obtain ⟨m, hm⟩ : ∃ m, 16 - D.length = m + 1 := ⟨15 - D.length, by omega⟩
  rw [hm, List.replicate_succ, List.set_cons_zero]
theorem pad_full {D : List (List UInt8)} (h : D.length = 16) : pad D = D := by unfold pad; rw [h]; simp
theorem Rdr.below' {w w' : World} {g : Nat} {s : List UInt8 × Nat} (h : Rdr w g s) (hb : Below w.heap.size w w') : Rdr w' g s := by
  obtain ⟨all, a, h1, h2⟩ := h
  exact ⟨all, a, Blk.below h1 hb (Blk.lt h1), h2⟩
structure RdNd (w0 w : World) (g nb : Nat) (s : List UInt8 × Nat) (n : Nd) : Prop where
  rd : Rdr w g s
  nd : Blk w nb 91 (nodeV n.1 n.2.1 n.2.2.1 n.2.2.2).toArray
  ne : g ≠ nb
  g0 : w0.heap.size ≤ g
  n0 : w0.heap.size ≤ nb
  b : Below w0.heap.size w0 w
theorem RdNd.read {w0 w w' : World} {g nb : Nat} {s s' : List UInt8 × Nat} {n : Nd} (h : RdNd w0 w g nb s n) (hr : Rdr w' g s') (hg : w.grownBy w' (some g)) : RdNd w0 w' g nb s' n :=
  ⟨hr, h.nd.grown hg (fun e => h.ne (by injection e with e; exact e.symm)), h.ne, h.g0, h.n0, h.b.grown hg h.b.size (fun k e => by injection e with e; subst e; exact h.g0)⟩
theorem RdNd.below {w0 w w' : World} {g nb : Nat} {s : List UInt8 × Nat} {n : Nd} (h : RdNd w0 w g nb s n) (hb : Below w.heap.size w w') : RdNd w0 w' g nb s n :=
  ⟨h.rd.below' hb, h.nd.below hb h.nd.lt, h.ne, h.g0, h.n0, h.b.nxt hb⟩
theorem RdNd.drew {w0 w : World} {g nb : Nat} {s : List UInt8 × Nat} {n : Nd} (h : RdNd w0 w g nb s n) : RdNd w0 w.drew g nb s n := ⟨h.rd, h.nd, h.ne, h.g0, h.n0, h.b.drew⟩
theorem RdNd.drewN {w0 w : World} {g nb : Nat} {s : List UInt8 × Nat} {n : Nd} (h : RdNd w0 w g nb s n) (m : Nat) : RdNd w0 (w.drewN m) g nb s n := ⟨h.rd, h.nd, h.ne, h.g0, h.n0, below_drewN h.b m⟩
theorem RdNd.write {w0 w : World} {g nb : Nat} {s : List UInt8 × Nat} {n m : Nd} (h : RdNd w0 w g nb s n) (i : Nat) (u : Value) (hm : (nodeV n.1 n.2.1 n.2.2.1 n.2.2.2).toArray.setIfInBounds i u = (nodeV m.1 m.2.1 m.2.2.1 m.2.2.2).toArray) : RdNd w0 (w.setCell ⟨nb, i, none⟩ u) g nb s m := by
  refine ⟨h.rd.grown (row := some nb) ?_ (fun e => h.ne (by injection e)), ?_, h.ne, h.g0, h.n0, h.b.setCell h.n0 _⟩
  · exact ⟨rfl, rfl, rfl, by simp [World.setCell], fun j hj hne => Below.heap_setCell _ _ _ _ (fun e => hne (by rw [e]))⟩
  · have := h.nd.set_ i u
    rwa [hm] at this
def RdNdEnd (w0 : World) (g nb : Nat) (v : Value) (s : List UInt8 × Nat) (n : Nd) (e : Ending) (w' : World) : Prop := e = .returned v ∧ RdNd w0 w' g nb s n
theorem wpList_load_want {P : Program} {ops : Array Oper} {rest : List Oper} {op : Oper} {a : Act} {w : World} {Q : Exit → Act → World → Prop} (hw : Region.wanted op (yielded ops a.tmps) = true) (ty : TypeId) (x : Operand) (ho : op.op = .load ty x)
    (b o : Nat) (hx : a.eval x = .pointer (some ⟨b, o, none⟩)) (cs : List Value) (d : TypeDesc) (hc : w.rangeAt b o cs)
    (hu : P.underlying ty = some d) (hd : d.isRow = true) (hi : (P.info? ty).map (·.size) = some cs.length)
    (h : wpList P ops Q rest (a.put op.dst (.agg cs.toArray)) w) : wpList P ops Q (op :: rest) a w :=
  Go.BigFrame.wpList_want hw fun _ hK => wp_load_mid ty x ho b o hx cs d hc hu hd hi (hK _ _ h)
theorem at_put {P : Program} {ops : Array Oper} {Q : Exit → Act → World → Prop} {rest : List Oper} {a : Act} {w : World} (n : Tmp) {ty : TypeId} {x : Operand} {t : TypeId} {p : String} {af : Array Edge} {g : Option (Nat × Bool)}
    (h : wpList P ops Q (⟨none, .store ty x (.tmp n), t, p, af, g⟩ :: rest) a w) : wpList P ops Q (⟨none, .store ty x (.tmp n), t, p, af, g⟩ :: rest) a w := h
end Go.Proofs.YtefcmigbdfeaiaaDoor

namespace Go.Proofs.YtefcmigbdfeaiaaDoor
set_option linter.unusedVariables false
open Go.RowKit Go.Instr
attribute [local go_sem] ba_get ByteArray.mk_append_mk
theorem i64_and_one (a : Nat) (ha : a < 9223372036854775808) : bits .and .i64 (a : Int) 1 = ((a % 2 : Nat) : Int) := by
  show IntKind.i64.wrap ((BitVec.ofInt 64 (a : Int) &&& BitVec.ofInt 64 ((1 : Nat) : Int)).toNat : Int) = _
  rw [BitVec.toNat_and, ofInt_i64 a ha, ofInt_i64 1 (by omega), Nat.and_one_is_mod, IntKind.wrap_i64]
  omega
theorem kidsR_step (set : Nat) (sq s : List UInt8 × Nat) (D : List (List UInt8)) (i : Nat) (hi : i < 16) (h : kidsR set 16 sq = (D ++ (kidsR set (16 - i) s).1, (kidsR set (16 - i) s).2)) :
    kidsR set 16 sq = (D ++ [(kidR set (15 - i) s).1] ++ (kidsR set (16 - (i + 1)) (kidR set (15 - i) s).2).1, (kidsR set (16 - (i + 1)) (kidR set (15 - i) s).2).2) := by
  rw [h, show 16 - i = (15 - i) + 1 by omega, show 16 - (i + 1) = 15 - i by omega]
  simp only [kidsR, List.append_assoc, List.singleton_append]
set_option maxRecDepth 100000 in
set_option maxHeartbeats 2000000 in
theorem branch_loop (w0 w : World) (g nb set : Nat) (hset : set < 65536) (sq : List UInt8 × Nat) (b0 : ByteArray) (H0 : Hid (RdNd w0 w g nb sq (3, [], [], zeroK)))
    (Q : Exit → Act → World → Prop)
    (hQ : ∀ (s2 s3 s4 s5 s6 s7 s8 s9 s10 s11 s12 s13 s14 s15 s16 s17 s18 s19 s20 s21 s22 s23 s24 s25 s26 s27 s28 s29 s30 s31 s32 s33 s34 s35 s36 s37 s38 s39 s40 : Value) (w2 : World), RdNd w0 w2 g nb (kidsR set 16 sq).2 (3, [], [], (kidsR set 16 sq).1) → Q (.exit 0) { tmps := #[.pointer (some ⟨g, 0, none⟩), .pointer (some ⟨nb, 0, none⟩), s2, s3, s4, s5, s6, s7, s8, s9, s10, s11, s12, s13, s14, s15, s16, s17, s18, s19, s20, s21, s22, s23, s24, s25, s26, s27, s28, s29, s30, s31, s32, s33, s34, s35, s36, s37, s38, s39, s40], defers := [] } w2)
    (s2 s3 s4 s6 s7 s8 s9 s10 s11 s12 s13 s14 s15 s16 s17 s18 s20 s21 s22 s23 s24 s25 s26 s27 s28 s29 s30 s31 s32 s33 s34 s35 s36 s37 s38 s39 s40 : Value) :
    Code.wp Tryd.prog (.loop (loopAt Tryd.f118 0)) Q { tmps := #[.pointer (some ⟨g, 0, none⟩), .pointer (some ⟨nb, 0, none⟩), s2, s3, s4, .int .i64 (set : Int), s6, s7, s8, s9, s10, s11, s12, s13, s14, s15, s16, s17, s18, .int .i64 0, s20, s21, s22, s23, s24, s25, s26, s27, s28, s29, s30, s31, s32, s33, s34, s35, s36, s37, s38, s39, s40], defers := [] } w := by
  have HQ := Lib.hid hQ
  clear hQ
  refine wp_loop_ghost_k (fun k a wr => ∀ Φ : Act → Prop, (∀ (s2 s3 s4 s6 s7 s8 s9 s10 s11 s12 s13 s14 s15 s16 s17 s18 s20 s21 s22 s23 s24 s25 s26 s27 s28 s29 s30 s31 s32 s33 s34 s35 s36 s37 s38 s39 s40 : Value) (i : Nat) (s : List UInt8 × Nat) (D : List (List UInt8)), (i + k = 16 ∧ D.length = i ∧ RdNd w0 wr g nb s (3, [], [], pad D) ∧ kidsR set 16 sq = (D ++ (kidsR set (16 - i) s).1, (kidsR set (16 - i) s).2)) → Φ { tmps := #[.pointer (some ⟨g, 0, none⟩), .pointer (some ⟨nb, 0, none⟩), s2, s3, s4, .int .i64 (set : Int), s6, s7, s8, s9, s10, s11, s12, s13, s14, s15, s16, s17, s18, .int .i64 (i : Int), s20, s21, s22, s23, s24, s25, s26, s27, s28, s29, s30, s31, s32, s33, s34, s35, s36, s37, s38, s39, s40], defers := [] }) → Φ a) (16) ?_ ?_
  · refine fun Φ hΦ => hΦ _ _ _ _ _ _ _ _ _ _ _ _ _ _ _ _ _ _ _ _ _ _ _ _ _ _ _ _ _ _ _ _ _ _ _ _ _ (0) (sq) ([]) ?_
    exact ⟨rfl, rfl, H0.out, by simp⟩
  · intro k1 a1 wr1 hI1 J1 K1 hJ1 hK1
    refine hI1 (fun a => Code.wp _ _ _ a _) ?_
    clear hI1 a1
    intro s0 s1 s2 s3 s4 s5 s6 s7 s8 s9 s10 s11 s12 s13 s14 s15 s16 s17 s18 s19 s20 s21 s22 s23 s24 s25 s26 s27 s28 s29 s30 s31 s32 s33 s34 s35 s36 i s D hrel
    show Code.wp _ _ _ _ _
    clear H0
    conv => arg 2; whnf
    obtain ⟨h1, h2, h3, h4⟩ := hrel
    by_cases hi : i < 16
    · have hi1 : (i : Int) < 16 := by omega
      have hx16 : set / 2 ^ (15 - i) < 65536 := Nat.lt_of_le_of_lt (Nat.div_le_self _ _) hset
      have hand : bits .and .i64 ((set : Int) / 2 ^ (15 - i)) 1 = ((set / 2 ^ (15 - i) % 2 : Nat) : Int) := by
        rw [← i64_and_one (set / 2 ^ (15 - i)) (by omega)]
        simp
      have hst := kidsR_step set sq s D i hi h4
      have HI := Lib.hid (And.intro h1 h2)
      have HN := Lib.hid h3
      have hm : bitAt set (15 - i) = decide (set / 2 ^ (15 - i) % 2 = 1) := rfl
      have HK : Hid (kidR set (15 - i) s = if bitAt set (15 - i) then bytesS s 32 else ([], s)) := Lib.hid rfl
      have hbit : set / 2 ^ (15 - i) % 2 < 2 := Nat.mod_lt _ (by omega)
      have HS := Lib.hid hst
      clear h4 hst h3 hset
      generalize set / 2 ^ (15 - i) = x at *
      generalize x % 2 = bt at *
      generalize kidR set (15 - i) s = kr at *
      by_cases hb : bt = 1
      · subst hb
        rw [hm, decide_eq_true rfl, if_pos rfl] at HK
        obtain ⟨b, s'⟩ := kr
        have HBy : Hid (∀ W, Rdr W g s → Calls Tryd.prog 117 #[.pointer (some ⟨g, 0, none⟩), .int .i64 32] W (RdrEnd W g (.string ⟨b.toArray⟩) s')) := Lib.hid (fun W hW => by
          have := code_RBytes W g s hW 32 (by omega)
          rw [← HK.out] at this
          exact this)
        have c3 : ∀ W, RdNd w0 W g nb s' (3, [], [], pad D) → W.cell? ⟨nb, 3 + i, none⟩ = some (.string ⟨((pad D).getD i []).toArray⟩) ∧ W.frozen? ⟨nb, 3 + i, none⟩ = false := fun W hW => ⟨by
          have h5 := hW.nd.cell (3 + i)
          rw [h5, List.getElem?_toArray]
          show (nodeV 3 [] [] (pad D))[3 + i]? = _
          rw [show 3 + i = i + 1 + 1 + 1 by omega]
          unfold nodeV
          rw [List.getElem?_cons_succ, List.getElem?_cons_succ, List.getElem?_cons_succ, strv_at (by rw [pad_len D (by omega)]; exact hi), List.getD_eq_getElem?_getD, List.getElem?_eq_getElem (show i < (pad D).length by rw [pad_len D (by omega)]; exact hi), Option.getD_some], hW.nd.frozen (3 + i)⟩
        have HC := Lib.hid c3
        replace hand : bits .and .i64 ((set : Int) / 2 ^ (15 - i)) 1 = 1 := hand
        clear c3 hm HK h1 h2
        go_upto_region 7 with fail
        go_region_held3 (fun _ => True) (first | trivial | go_keep) ((go_at_call 117; refine (HBy.out _ (by first | exact HN.out.rd | exact HN.out.drew.rd)).mono ?_; rintro e w2 ⟨rfl, hr2, hg2⟩; have N2 : Hid (RdNd w0 w2 g nb s' (3, [], [], pad D)) := Lib.hid (by first | exact HN.out.read hr2 hg2 | exact HN.out.drew.read hr2 hg2); obtain ⟨k3, f3⟩ := HC.out _ N2.out; clear hr2 hg2))
        go_wp2
        refine Handed.intro (16 - (i + 1)) ?_ (hJ1 _ _ _ (fun Φ hΦ => hΦ _ _ _ _ _ _ _ _ _ _ _ _ _ _ _ _ _ _ _ _ _ _ _ _ _ _ _ _ _ _ _ _ _ _ _ _ _ (i + 1) (s') (D ++ [b]) ?_))
        · have := HI.out.1; omega
        · have hI := HI.out
          refine ⟨by omega, by rw [List.length_append, hI.2]; rfl, ?_, HS.out⟩
          refine N2.out.write _ _ ?_
          rw [nodeV_put _ _ _ _ _ _ (by rw [pad_len D (by omega)]; omega), ← hI.2, pad_set D b (by omega)]
      · have hb0 : bt = 0 := by omega
        subst hb0
        rw [hm, decide_eq_false (by decide), if_neg (by decide)] at HK
        rw [HK.out] at HS
        replace hand : bits .and .i64 ((set : Int) / 2 ^ (15 - i)) 1 = 0 := hand
        clear hm HK h1 h2 hb
        go_wp2
        refine Handed.intro (16 - (i + 1)) ?_ (hJ1 _ _ _ (fun Φ hΦ => hΦ _ _ _ _ _ _ _ _ _ _ _ _ _ _ _ _ _ _ _ _ _ _ _ _ _ _ _ _ _ _ _ _ _ _ _ _ _ (i + 1) (s) (D ++ [[]]) ?_))
        · have := HI.out.1; omega
        · have hI := HI.out
          refine ⟨by omega, by rw [List.length_append, hI.2]; rfl, ?_, HS.out⟩
          rw [pad_nil_set D (by omega)]
          exact HN.out
    · obtain rfl : i = 16 := by omega
      have e : kidsR set 16 sq = (D, s) := by rw [h4]; simp [kidsR]
      rw [pad_full h2] at h3
      rw [e] at HQ
      have HN := Lib.hid h3
      clear h1 h2 h3 h4 e hi
      go_wp2
      exact HQ.out _ _ _ _ _ _ _ _ _ _ _ _ _ _ _ _ _ _ _ _ _ _ _ _ _ _ _ _ _ _ _ _ _ _ _ _ _ _ _ _ HN.out
end Go.Proofs.YtefcmigbdfeaiaaDoor
