import Derived.Test.YtcjafcbekegmlaaGreatDoorJ13
import Derived.Deep.MidRow
import Derived.BigFrame
import Derived.Test.YtcjafcbekegmlaaGreatDoorJ01
import Derived.Test.YtcjafcbekegmlaaGreatDoorJ10
set_option linter.unusedSimpArgs false
set_option linter.unusedVariables false
namespace Go.Proofs.YtcjafcbekegmlaaGreatDoor
set_option linter.unusedVariables false
open Go.RowKit
theorem Blk.setAll {g : Nat} {t : TypeId} : ∀ (vs A B R : List Value) (w : World), B.length = vs.length → Blk w g t (A ++ (B ++ R)).toArray → Blk (w.setCells g A.length vs) g t (A ++ (vs ++ R)).toArray
  | [], A, B, R, w, h, hb => by
    have : B = [] := List.eq_nil_of_length_eq_zero h
    subst this
    exact hb
  | v :: r, A, [], R, w, h, hb => by simp at h
  | v :: r, A, b :: B, R, w, h, hb => by
    have h1 := hb.set_ A.length v
    rw [List.setIfInBounds_toArray, List.set_append_right _ _ (Nat.le_refl _), Nat.sub_self] at h1
    simp only [List.cons_append, List.set_cons_zero] at h1
    have h2 := Blk.setAll r (A ++ [v]) B R (w.setCell ⟨g, A.length, none⟩ v) (by simpa using h) (by simpa using h1)
    rw [List.length_append] at h2
    simpa [World.setCells] using h2
theorem grown_setAll {g : Nat} {a : World} : ∀ (vs : List Value) (o : Nat) (w : World), a.grownBy w (some g) → a.grownBy (w.setCells g o vs) (some g)
  | [], _, _, h => h
  | v :: r, o, w, h => grown_setAll r (o + 1) _ ⟨h.os, h.tape, h.output, by simpa [World.setCell] using h.size, fun j hj hne => (Below.heap_setCell _ _ _ _ (fun e => hne (by rw [e]))).trans (h.block j hj hne)⟩
section
variable {w W : World} {L : List (Nat × Nat × Array Value)} {g t : Nat} {cs : Array Value}
theorem Live.hall (h : Hid (Live w W L)) (i : Nat) (vs : List Value) (hi : L[i]? = some (g, t, cs)) (hl : cs.size = vs.length) : Hid (Live w (W.setCells g 0 vs) (L.set i (g, t, vs.toArray))) := by
  refine Lib.hid (h.out.grown i hi (grown_setAll vs 0 W (World.grownBy.refl _ _)) ?_)
  have hb := h.out.blk i hi
  have := Blk.setAll vs [] cs.toList [] W (by rw [← hl]; exact Array.length_toList) (by simpa using hb)
  simpa using this
theorem Live.there (h : Live w W L) (i : Nat) (n : Nat) (hi : L[i]? = some (g, t, cs)) (hn : n ≤ cs.size) : W.there g 0 n := fun j hj => by
  rw [Nat.zero_add]
  refine ⟨?_, h.frozen i j hi⟩
  rw [(h.blk i hi).cell, Array.getElem?_eq_getElem (by omega)]; rfl
end
theorem at_op {P : Program} {ops : Array Oper} {Q : Exit → Act → World → Prop} {rest : List Oper} {a : Act} {w : World} (n : Tmp) {op : Op} {t : TypeId} {p : String} {af : Array Edge} {g : Option (Nat × Bool)}
    (h : wpList P ops Q (⟨some n, op, t, p, af, g⟩ :: rest) a w) : wpList P ops Q (⟨some n, op, t, p, af, g⟩ :: rest) a w := h
end Go.Proofs.YtcjafcbekegmlaaGreatDoor

namespace Go.Proofs.YtcjafcbekegmlaaGreatDoor
set_option linter.unusedVariables false
open Go.RowKit Go.Instr
attribute [local go_sem] ba_get ByteArray.mk_append_mk
theorem nodeV_put (k : Nat) (p v : List UInt8) (K : List (List UInt8)) (i : Nat) (s : List UInt8) (hi : i < K.length) : (nodeV k p v K).toArray.setIfInBounds (3 + i) (.string ⟨s.toArray⟩) = (nodeV k p v (K.set i s)).toArray := by
  rw [List.setIfInBounds_toArray, show 3 + i = i + 1 + 1 + 1 by omega]
  unfold nodeV
  rw [List.set_cons_succ, List.set_cons_succ, List.set_cons_succ]
  unfold strv
  rw [List.map_set]
def pad (D : List (List UInt8)) : List (List UInt8) := D ++ List.replicate (16 - D.length) []
theorem pad_set (D : List (List UInt8)) (s : List UInt8) (h : D.length < 16) : (pad D).set D.length s = pad (D ++ [s]) := by
  unfold pad
  rw [List.set_append_right _ _ (Nat.le_refl _), Nat.sub_self, List.length_append, List.length_singleton]
  obtain ⟨m, hm⟩ : ∃ m, 16 - D.length = m + 1 := ⟨15 - D.length, by omega⟩
  rw [hm, List.replicate_succ, List.set_cons_zero, show 16 - (D.length + 1) = m by omega]
  simp
theorem pad_len (D : List (List UInt8)) (h : D.length ≤ 16) : (pad D).length = 16 := by unfold pad; simp; omega
theorem pad_nil_set (D : List (List UInt8)) (h : D.length < 16) : pad (D ++ [[]]) = pad D := by
  rw [← pad_set D [] h]
  unfold pad
  rw [List.set_append_right _ _ (Nat.le_refl _), Nat.sub_self]
  obtain ⟨m, hm⟩ : ∃ m, 16 - D.length = m + 1 := ⟨15 - D.length, by omega⟩
  rw [hm, List.replicate_succ, List.set_cons_zero]
theorem pad_full {D : List (List UInt8)} (h : D.length = 16) : pad D = D := by unfold pad; rw [h]; simp
theorem Rdr.below' {w w' : World} {g : Nat} {s : List UInt8 × Nat} (h : Rdr w g s) (hb : Below w.heap.size w w') : Rdr w' g s := by
  obtain ⟨all, a, h1, h2⟩ := h
  exact ⟨all, a, Blk.below h1 hb (Blk.lt h1), h2⟩
structure RdNd (w0 w : World) (g nb : Nat) (s : List UInt8 × Nat) (n : Nd) : Prop where
  rd : Rdr w g s
  nd : Blk w nb 107 (nodeV n.1 n.2.1 n.2.2.1 n.2.2.2).toArray
  ne : g ≠ nb
  g0 : w0.heap.size ≤ g
  n0 : w0.heap.size ≤ nb
  b : Below w0.heap.size w0 w
theorem RdNd.read {w0 w w' : World} {g nb : Nat} {s s' : List UInt8 × Nat} {n : Nd} (h : RdNd w0 w g nb s n) (hr : Rdr w' g s') (hg : w.grownBy w' (some g)) : RdNd w0 w' g nb s' n :=
  ⟨hr, h.nd.grown hg (fun e => h.ne (by injection e with e; exact e.symm)), h.ne, h.g0, h.n0, h.b.grown hg h.b.size (fun k e => by injection e with e; subst e; exact h.g0)⟩
theorem RdNd.below {w0 w w' : World} {g nb : Nat} {s : List UInt8 × Nat} {n : Nd} (h : RdNd w0 w g nb s n) (hb : Below w.heap.size w w') : RdNd w0 w' g nb s n :=
  ⟨h.rd.below' hb, h.nd.below hb h.nd.lt, h.ne, h.g0, h.n0, h.b.nxt hb⟩
theorem RdNd.drew {w0 w : World} {g nb : Nat} {s : List UInt8 × Nat} {n : Nd} (h : RdNd w0 w g nb s n) : RdNd w0 w.drew g nb s n := ⟨h.rd, h.nd, h.ne, h.g0, h.n0, h.b.drew⟩
theorem RdNd.drewN {w0 w : World} {g nb : Nat} {s : List UInt8 × Nat} {n : Nd} (h : RdNd w0 w g nb s n) (m : Nat) : RdNd w0 (w.drewN m) g nb s n := ⟨h.rd, h.nd, h.ne, h.g0, h.n0, below_drewN h.b m⟩
theorem RdNd.write {w0 w : World} {g nb : Nat} {s : List UInt8 × Nat} {n m : Nd} (h : RdNd w0 w g nb s n) (i : Nat) (u : Value) (hm : (nodeV n.1 n.2.1 n.2.2.1 n.2.2.2).toArray.setIfInBounds i u = (nodeV m.1 m.2.1 m.2.2.1 m.2.2.2).toArray) : RdNd w0 (w.setCell ⟨nb, i, none⟩ u) g nb s m := by
  refine ⟨h.rd.grown (row := some nb) ?_ (fun e => h.ne (by injection e)), ?_, h.ne, h.g0, h.n0, h.b.setCell h.n0 _⟩
  · exact ⟨rfl, rfl, rfl, by simp [World.setCell], fun j hj hne => Below.heap_setCell _ _ _ _ (fun e => hne (by rw [e]))⟩
  · have := h.nd.set_ i u
    rwa [hm] at this
def RdNdEnd (w0 : World) (g nb : Nat) (v : Value) (s : List UInt8 × Nat) (n : Nd) (e : Ending) (w' : World) : Prop := e = .returned v ∧ RdNd w0 w' g nb s n
theorem wpList_load_want {P : Program} {ops : Array Oper} {rest : List Oper} {op : Oper} {a : Act} {w : World} {Q : Exit → Act → World → Prop} (hw : Region.wanted op (yielded ops a.tmps) = true) (ty : TypeId) (x : Operand) (ho : op.op = .load ty x)
    (b o : Nat) (hx : a.eval x = .pointer (some ⟨b, o, none⟩)) (cs : List Value) (d : TypeDesc) (hc : w.rangeAt b o cs)
    (hu : P.underlying ty = some d) (hd : d.isRow = true) (hi : (P.info? ty).map (·.size) = some cs.length)
    (h : wpList P ops Q rest (a.put op.dst (.agg cs.toArray)) w) : wpList P ops Q (op :: rest) a w :=
  Go.BigFrame.wpList_want hw fun _ hK => wp_load_mid ty x ho b o hx cs d hc hu hd hi (hK _ _ h)
theorem at_put {P : Program} {ops : Array Oper} {Q : Exit → Act → World → Prop} {rest : List Oper} {a : Act} {w : World} (n : Tmp) {ty : TypeId} {x : Operand} {t : TypeId} {p : String} {af : Array Edge} {g : Option (Nat × Bool)}
    (h : wpList P ops Q (⟨none, .store ty x (.tmp n), t, p, af, g⟩ :: rest) a w) : wpList P ops Q (⟨none, .store ty x (.tmp n), t, p, af, g⟩ :: rest) a w := h
end Go.Proofs.YtcjafcbekegmlaaGreatDoor

namespace Go.Proofs.YtcjafcbekegmlaaGreatDoor
set_option linter.unusedVariables false
open Go.RowKit Go.Instr
attribute [local go_sem] ba_get ByteArray.mk_append_mk
theorem i64_and_one (a : Nat) (ha : a < 9223372036854775808) : bits .and .i64 (a : Int) 1 = ((a % 2 : Nat) : Int) := by
  show IntKind.i64.wrap ((BitVec.ofInt 64 (a : Int) &&& BitVec.ofInt 64 ((1 : Nat) : Int)).toNat : Int) = _
  rw [BitVec.toNat_and, ofInt_i64 a ha, ofInt_i64 1 (by omega), Nat.and_one_is_mod, IntKind.wrap_i64]
  omega
theorem kidsR_step (set : Nat) (sq s : List UInt8 × Nat) (D : List (List UInt8)) (i : Nat) (hi : i < 16) (h : kidsR set 16 sq = (D ++ (kidsR set (16 - i) s).1, (kidsR set (16 - i) s).2)) :
    kidsR set 16 sq = (D ++ [(kidR set (15 - i) s).1] ++ (kidsR set (16 - (i + 1)) (kidR set (15 - i) s).2).1, (kidsR set (16 - (i + 1)) (kidR set (15 - i) s).2).2) := by
  rw [h, show 16 - i = (15 - i) + 1 by omega, show 16 - (i + 1) = 15 - i by omega]
  simp only [kidsR, List.append_assoc, List.singleton_append]
set_option maxRecDepth 100000 in
set_option maxHeartbeats 2000000 in
theorem branch_loop (w0 w : World) (g nb set : Nat) (hset : set < 65536) (sq : List UInt8 × Nat) (b0 : ByteArray) (H0 : Hid (RdNd w0 w g nb sq (3, [], [], zeroK)))
    (Q : Exit → Act → World → Prop)
    (hQ : ∀ (s2 s3 s4 s5 s6 s7 s8 s9 s10 s11 s12 s13 s14 s15 s16 s17 s18 s19 s20 s21 s22 s23 s24 s25 s26 s27 s28 s29 s30 s31 s32 s33 s34 s35 s36 s37 s38 s39 s40 : Value) (w2 : World), RdNd w0 w2 g nb (kidsR set 16 sq).2 (3, [], [], (kidsR set 16 sq).1) → Q (.exit 0) { tmps := #[.pointer (some ⟨g, 0, none⟩), .pointer (some ⟨nb, 0, none⟩), s2, s3, s4, s5, s6, s7, s8, s9, s10, s11, s12, s13, s14, s15, s16, s17, s18, s19, s20, s21, s22, s23, s24, s25, s26, s27, s28, s29, s30, s31, s32, s33, s34, s35, s36, s37, s38, s39, s40], defers := [] } w2)
    (s2 s3 s4 s6 s7 s8 s9 s10 s11 s12 s13 s14 s15 s16 s17 s18 s20 s21 s22 s23 s24 s25 s26 s27 s28 s29 s30 s31 s32 s33 s34 s35 s36 s37 s38 s39 s40 : Value) :
    Code.wp Tryz.prog (.loop (loopAt Tryz.f124 0)) Q { tmps := #[.pointer (some ⟨g, 0, none⟩), .pointer (some ⟨nb, 0, none⟩), s2, s3, s4, .int .i64 (set : Int), s6, s7, s8, s9, s10, s11, s12, s13, s14, s15, s16, s17, s18, .int .i64 0, s20, s21, s22, s23, s24, s25, s26, s27, s28, s29, s30, s31, s32, s33, s34, s35, s36, s37, s38, s39, s40], defers := [] } w := by
  have HQ := Lib.hid hQ
  clear hQ
  refine wp_loop_ghost_k (fun k a wr => ∀ Φ : Act → Prop, (∀ (s2 s3 s4 s6 s7 s8 s9 s10 s11 s12 s13 s14 s15 s16 s17 s18 s20 s21 s22 s23 s24 s25 s26 s27 s28 s29 s30 s31 s32 s33 s34 s35 s36 s37 s38 s39 s40 : Value) (i : Nat) (s : List UInt8 × Nat) (D : List (List UInt8)), (i + k = 16 ∧ D.length = i ∧ RdNd w0 wr g nb s (3, [], [], pad D) ∧ kidsR set 16 sq = (D ++ (kidsR set (16 - i) s).1, (kidsR set (16 - i) s).2)) → Φ { tmps := #[.pointer (some ⟨g, 0, none⟩), .pointer (some ⟨nb, 0, none⟩), s2, s3, s4, .int .i64 (set : Int), s6, s7, s8, s9, s10, s11, s12, s13, s14, s15, s16, s17, s18, .int .i64 (i : Int), s20, s21, s22, s23, s24, s25, s26, s27, s28, s29, s30, s31, s32, s33, s34, s35, s36, s37, s38, s39, s40], defers := [] }) → Φ a) (16) ?_ ?_
  · refine fun Φ hΦ => hΦ _ _ _ _ _ _ _ _ _ _ _ _ _ _ _ _ _ _ _ _ _ _ _ _ _ _ _ _ _ _ _ _ _ _ _ _ _ (0) (sq) ([]) ?_
    exact ⟨rfl, rfl, H0.out, by simp⟩
  · intro k1 a1 wr1 hI1 J1 K1 hJ1 hK1
    refine hI1 (fun a => Code.wp _ _ _ a _) ?_
    clear hI1 a1
    intro s0 s1 s2 s3 s4 s5 s6 s7 s8 s9 s10 s11 s12 s13 s14 s15 s16 s17 s18 s19 s20 s21 s22 s23 s24 s25 s26 s27 s28 s29 s30 s31 s32 s33 s34 s35 s36 i s D hrel
    show Code.wp _ _ _ _ _
    clear H0
    conv => arg 2; whnf
    obtain ⟨h1, h2, h3, h4⟩ := hrel
    by_cases hi : i < 16
    · have hi1 : (i : Int) < 16 := by omega
      have hx16 : set / 2 ^ (15 - i) < 65536 := Nat.lt_of_le_of_lt (Nat.div_le_self _ _) hset
      have hand : bits .and .i64 ((set : Int) / 2 ^ (15 - i)) 1 = ((set / 2 ^ (15 - i) % 2 : Nat) : Int) := by
        rw [← i64_and_one (set / 2 ^ (15 - i)) (by omega)]
        simp
      have hst := kidsR_step set sq s D i hi h4
      have HI := Lib.hid (And.intro h1 h2)
      have HN := Lib.hid h3
      have hm : bitAt set (15 - i) = decide (set / 2 ^ (15 - i) % 2 = 1) := rfl
      have HK : Hid (kidR set (15 - i) s = if bitAt set (15 - i) then bytesS s 32 else ([], s)) := Lib.hid rfl
      have hbit : set / 2 ^ (15 - i) % 2 < 2 := Nat.mod_lt _ (by omega)
      have HS := Lib.hid hst
      clear h4 hst h3 hset
      generalize set / 2 ^ (15 - i) = x at *
      generalize x % 2 = bt at *
      generalize kidR set (15 - i) s = kr at *
      by_cases hb : bt = 1
      · subst hb
        rw [hm, decide_eq_true rfl, if_pos rfl] at HK
        obtain ⟨b, s'⟩ := kr
        have HBy : Hid (∀ W, Rdr W g s → Calls Tryz.prog 123 #[.pointer (some ⟨g, 0, none⟩), .int .i64 32] W (RdrEnd W g (.string ⟨b.toArray⟩) s')) := Lib.hid (fun W hW => by
          have := code_RBytes W g s hW 32 (by omega)
          rw [← HK.out] at this
          exact this)
        have c3 : ∀ W, RdNd w0 W g nb s' (3, [], [], pad D) → W.cell? ⟨nb, 3 + i, none⟩ = some (.string ⟨((pad D).getD i []).toArray⟩) ∧ W.frozen? ⟨nb, 3 + i, none⟩ = false := fun W hW => ⟨by
          have h5 := hW.nd.cell (3 + i)
          rw [h5, List.getElem?_toArray]
          show (nodeV 3 [] [] (pad D))[3 + i]? = _
          rw [show 3 + i = i + 1 + 1 + 1 by omega]
          unfold nodeV
          rw [List.getElem?_cons_succ, List.getElem?_cons_succ, List.getElem?_cons_succ, strv_at (by rw [pad_len D (by omega)]; exact hi), List.getD_eq_getElem?_getD, List.getElem?_eq_getElem (show i < (pad D).length by rw [pad_len D (by omega)]; exact hi), Option.getD_some], hW.nd.frozen (3 + i)⟩
        have HC := Lib.hid c3
        replace hand : bits .and .i64 ((set : Int) / 2 ^ (15 - i)) 1 = 1 := hand
        clear c3 hm HK h1 h2
        go_upto_region 7 with fail
        go_region_held3 (fun _ => True) (first | trivial | go_keep) ((go_at_call 123; refine (HBy.out _ (by first | exact HN.out.rd | exact HN.out.drew.rd)).mono ?_; rintro e w2 ⟨rfl, hr2, hg2⟩; have N2 : Hid (RdNd w0 w2 g nb s' (3, [], [], pad D)) := Lib.hid (by first | exact HN.out.read hr2 hg2 | exact HN.out.drew.read hr2 hg2); obtain ⟨k3, f3⟩ := HC.out _ N2.out; clear hr2 hg2))
        go_wp2
        refine Handed.intro (16 - (i + 1)) ?_ (hJ1 _ _ _ (fun Φ hΦ => hΦ _ _ _ _ _ _ _ _ _ _ _ _ _ _ _ _ _ _ _ _ _ _ _ _ _ _ _ _ _ _ _ _ _ _ _ _ _ (i + 1) (s') (D ++ [b]) ?_))
        · have := HI.out.1; omega
        · have hI := HI.out
          refine ⟨by omega, by rw [List.length_append, hI.2]; rfl, ?_, HS.out⟩
          refine N2.out.write _ _ ?_
          rw [nodeV_put _ _ _ _ _ _ (by rw [pad_len D (by omega)]; omega), ← hI.2, pad_set D b (by omega)]
      · have hb0 : bt = 0 := by omega
        subst hb0
        rw [hm, decide_eq_false (by decide), if_neg (by decide)] at HK
        rw [HK.out] at HS
        replace hand : bits .and .i64 ((set : Int) / 2 ^ (15 - i)) 1 = 0 := hand
        clear hm HK h1 h2 hb
        go_wp2
        refine Handed.intro (16 - (i + 1)) ?_ (hJ1 _ _ _ (fun Φ hΦ => hΦ _ _ _ _ _ _ _ _ _ _ _ _ _ _ _ _ _ _ _ _ _ _ _ _ _ _ _ _ _ _ _ _ _ _ _ _ _ (i + 1) (s) (D ++ [[]]) ?_))
        · have := HI.out.1; omega
        · have hI := HI.out
          refine ⟨by omega, by rw [List.length_append, hI.2]; rfl, ?_, HS.out⟩
          rw [pad_nil_set D (by omega)]
          exact HN.out
    · obtain rfl : i = 16 := by omega
      have e : kidsR set 16 sq = (D, s) := by rw [h4]; simp [kidsR]
      rw [pad_full h2] at h3
      rw [e] at HQ
      have HN := Lib.hid h3
      clear h1 h2 h3 h4 e hi
      go_wp2
      exact HQ.out _ _ _ _ _ _ _ _ _ _ _ _ _ _ _ _ _ _ _ _ _ _ _ _ _ _ _ _ _ _ _ _ _ _ _ _ _ _ _ _ HN.out
end Go.Proofs.YtcjafcbekegmlaaGreatDoor

namespace Go.Proofs.YtcjafcbekegmlaaGreatDoor
set_option linter.unusedVariables false
open Go.RowKit Go.Instr
attribute [local go_sem] ba_get ByteArray.mk_append_mk
theorem bytesS_len (s : List UInt8 × Nat) (n : Nat) : (bytesS s n).1 = [] ∨ (bytesS s n).1.length = n := by
  unfold bytesS
  split
  · exact .inl rfl
  · split
    · right; rw [List.length_take]; omega
    · exact .inl rfl
theorem txtS_most (s : List UInt8 × Nat) (m : Nat) : (txtS s m).1.length ≤ m := by
  unfold txtS
  split
  · exact Nat.zero_le _
  · split
    · rename_i h
      exact (txtT_back (s := s.1) (t := (txtT s.1 m).1) (r := (txtT s.1 m).2.1) (by rw [← h])).2
    · exact Nat.zero_le _
theorem RdNd.at0 {w0 w : World} {g nb : Nat} {s : List UInt8 × Nat} {n : Nd} (h : RdNd w0 w g nb s n) : w.cell? ⟨nb, 0, none⟩ = some (.int .i64 (n.1 : Int)) ∧ w.cell? ⟨nb, 1, none⟩ = some (.string ⟨n.2.1.toArray⟩) ∧ w.cell? ⟨nb, 2, none⟩ = some (.string ⟨n.2.2.1.toArray⟩) :=
  ⟨h.nd.cell 0, h.nd.cell 1, h.nd.cell 2⟩
set_option maxRecDepth 100000 in
set_option maxHeartbeats 2000000 in
theorem node_branch (w0 w : World) (g nb : Nat) (s : List UInt8 × Nat) (H : RdNd w0 w g nb s (3, [], [], zeroK)) :
    Calls Tryz.prog 124 #[.pointer (some ⟨g, 0, none⟩), .pointer (some ⟨nb, 0, none⟩)] w (RdNdEnd w0 g nb (.tuple #[]) (brR s).2 (3, [], (brR s).1.1, (brR s).1.2)) := by
  have HP : Hid (∀ w' st v K, brR s = ((v, K), st) → RdNd w0 w' g nb st (3, [], v, K) → RdNdEnd w0 g nb (.tuple #[]) (brR s).2 (3, [], (brR s).1.1, (brR s).1.2) (.returned (.tuple #[])) w') := Lib.hid (fun w' st v K e h => ⟨rfl, by rw [e]; exact h⟩)
  have HX : Hid (brR s = if (bytesS s 2).1 = [] then (([], zeroK), (bytesS s 2).2)
  else (((txtS (kidsR (set2 (bytesS s 2).1) 16 (bytesS s 2).2).2 32).1, (kidsR (set2 (bytesS s 2).1) 16 (bytesS s 2).2).1), (txtS (kidsR (set2 (bytesS s 2).1) 16 (bytesS s 2).2).2 32).2)) := Lib.hid rfl
  generalize RdNdEnd w0 g nb (.tuple #[]) (brR s).2 (3, [], (brR s).1.1, (brR s).1.2) = P at HP ⊢
  generalize brR s = X at *
  have HBy := Lib.hid (code_RBytes w g s H.rd 2 (by omega))
  have HN := Lib.hid H
  have hlen := bytesS_len s 2
  clear H
  generalize bytesS s 2 = br at *
  obtain ⟨bits, s1⟩ := br
  simp only at HX HBy hlen
  by_cases hb : bits = []
  · subst hb
    have HE : Hid (X = (([], zeroK), s1)) := Lib.hid (by rw [HX.out, if_pos rfl])
    clear HX hlen
    go_enter Tryz.func124, Tryz.ntmps124
    go_wp2_with fail
    refine HBy.out.mono ?_
    rintro e w1 ⟨rfl, h1, h2⟩
    have HF := Lib.hid (HP.out w1 s1 [] zeroK HE.out (HN.out.read h1 h2))
    clear h1 h2
    go_wp2_with fail
    go_end0
    exact HF.out
  · rw [if_neg hb] at HX
    obtain ⟨x, y, rfl⟩ := two_of_len (hlen.resolve_left hb)
    have hx := x.toNat_lt
    have hy := y.toNat_lt
    have hset : set2 [x, y] = x.toNat * 256 + y.toNat := rfl
    rw [hset] at HX
    have hor := i64_or_byte x.toNat y.toNat hy (by omega)
    have hlt : x.toNat * 256 + y.toNat < 65536 := by omega
    have HL := Lib.hid hlt
    clear hset hlen hb
    generalize x.toNat * 256 + y.toNat = set at *
    go_enter Tryz.func124, Tryz.ntmps124
    go_wp2_with fail
    refine HBy.out.mono ?_
    rintro e w1 ⟨rfl, h1, h2⟩
    have N1 := Lib.hid (HN.out.read h1 h2)
    clear h1 h2 hlt
    go_wp2_with fail
    go_quiet (fail)
    go_wp2_with fail
    refine branch_loop w0 _ g nb set HL.out s1 ⟨#[]⟩ (Lib.hid (N1.out.drewN _)) _ ?_ _ _ _ _ _ _ _ _ _ _ _ _ _ _ _ _ _ _ _ _ _ _ _ _ _ _ _ _ _ _ _ _ _ _ _ _ _
    clear hor N1
    intro s2 s3 s4 s5 s6 s7 s8 s9 s10 s11 s12 s13 s14 s15 s16 s17 s18 s19 s20 s21 s22 s23 s24 s25 s26 s27 s28 s29 s30 s31 s32 s33 s34 s35 s36 s37 s38 s39 s40 w2 h2
    generalize kidsR set 16 s1 = kr at *
    obtain ⟨K, s3⟩ := kr
    simp only at HX h2
    have HT := Lib.hid (code_RText w2 g s3 h2.rd 32 (by omega))
    have N2 := Lib.hid h2
    generalize txtS s3 32 = tr at *
    obtain ⟨v, s4⟩ := tr
    simp only at HX HT
    clear h2
    go_wp2_with fail
    refine HT.out.mono ?_
    rintro e w3 ⟨rfl, h3, h4⟩
    have N3 := Lib.hid (N2.out.read h3 h4)
    have k2 : w3.cell? ⟨nb, 2, none⟩ = some (.string ⟨#[]⟩) := N3.out.at0.2.2
    have f2 : w3.frozen? ⟨nb, 2, none⟩ = false := N3.out.nd.frozen 2
    clear h3 h4
    go_wp2_with fail
    go_end0
    exact HP.out _ s4 v K HX.out (N3.out.write 2 _ rfl)
theorem otR_eq (most k : Nat) (s : List UInt8 × Nat) : otR most k s = if k = 1 then (((Nib.unpack (txtS s most).1).1, (txtS (txtS s most).2 32).1, zeroK), (txtS (txtS s most).2 32).2, decide ((Nib.unpack (txtS s most).1).2.2 = 0) && (Nib.unpack (txtS s most).1).2.1)
  else (((Nib.unpack (txtS s most).1).1, [], (bytesS (txtS s most).2 32).1 :: List.replicate 15 []), (bytesS (txtS s most).2 32).2, decide ((Nib.unpack (txtS s most).1).2.2 = 0) && !(Nib.unpack (txtS s most).1).2.1) := rfl
set_option maxRecDepth 100000 in
set_option maxHeartbeats 2000000 in
theorem node_other (w0 w : World) (g nb k : Nat) (s : List UInt8 × Nat) (H : RdNd w0 w g nb s (k, [], [], zeroK)) :
    Calls Tryz.prog 125 #[.pointer (some ⟨g, 0, none⟩), .pointer (some ⟨nb, 0, none⟩)] w (RdNdEnd w0 g nb (.bool (otR 16 k s).2.2) (otR 16 k s).2.1 (k, (otR 16 k s).1)) := by
  have HP : Hid (∀ w' st n b, otR 16 k s = (n, st, b) → RdNd w0 w' g nb st (k, n) → RdNdEnd w0 g nb (.bool (otR 16 k s).2.2) (otR 16 k s).2.1 (k, (otR 16 k s).1) (.returned (.bool b)) w') := Lib.hid (fun w' st v K e h => by rw [e]; exact ⟨rfl, h⟩)
  have HX := Lib.hid (otR_eq 16 k s)
  generalize RdNdEnd w0 g nb (.bool (otR 16 k s).2.2) (otR 16 k s).2.1 (k, (otR 16 k s).1) = P at HP ⊢
  generalize otR 16 k s = X at *
  have HT := Lib.hid (code_RText w g s H.rd 16 (by omega))
  have hl := txtS_most s 16
  have HN := Lib.hid H
  clear H
  generalize txtS s 16 = tr at *
  obtain ⟨t, s1⟩ := tr
  simp only at HX HT hl
  have HU := Lib.hid (fun W => nib_Unpack t W (by omega))
  clear hl
  generalize Nib.unpack t = u at *
  obtain ⟨p, leaf, ec⟩ := u
  simp only at HX HU
  by_cases hk : k = 1
  · subst hk
    rw [if_pos rfl] at HX
    go_enter Tryz.func125, Tryz.ntmps125
    go_wp2_with fail
    refine HT.out.mono ?_
    rintro e w1 ⟨rfl, h1, h2⟩
    have N1 := Lib.hid (HN.out.read h1 h2)
    clear h1 h2
    go_wp2_with fail
    refine (HU.out _).mono ?_
    rintro e w2 ⟨rfl, hb2⟩
    have N2 : Hid (RdNd w0 w2 g nb s1 (1, [], [], zeroK)) := Lib.hid (N1.out.below hb2)
    have k1 : w2.cell? ⟨nb, 1, none⟩ = some (.string ⟨#[]⟩) := N2.out.at0.2.1
    have f1 : w2.frozen? ⟨nb, 1, none⟩ = false := N2.out.nd.frozen 1
    have k0 : w2.cell? ⟨nb, 0, none⟩ = some (.int .i64 1) := N2.out.at0.1
    clear hb2
    go_upto_region 3 with fail
    have N3 : Hid (RdNd w0 (w2.setCell ⟨nb, 1, none⟩ (.string ⟨p.toArray⟩)) g nb s1 (1, p, [], zeroK)) := Lib.hid (N2.out.write 1 _ rfl)
    generalize w2.setCell ⟨nb, 1, none⟩ (.string ⟨p.toArray⟩) = W3 at *
    clear k0 k1 f1
    have k0 : W3.cell? ⟨nb, 0, none⟩ = some (.int .i64 1) := N3.out.at0.1
    have HV := Lib.hid (code_RText W3 g s1 N3.out.rd 32 (by omega))
    generalize txtS s1 32 = vr at *
    obtain ⟨v, s2⟩ := vr
    simp only at HX HV
    go_wp2_with fail
    refine HV.out.mono ?_
    rintro e w4 ⟨rfl, h3, h4⟩
    have N4 := Lib.hid (N3.out.read h3 h4)
    clear k0 h3 h4
    have k0 : w4.cell? ⟨nb, 0, none⟩ = some (.int .i64 1) := N4.out.at0.1
    have k2 : w4.cell? ⟨nb, 2, none⟩ = some (.string ⟨#[]⟩) := N4.out.at0.2.2
    have f2 : w4.frozen? ⟨nb, 2, none⟩ = false := N4.out.nd.frozen 2
    by_cases he : ec = 0
    · subst he
      cases leaf with
      | true =>
        go_wp2_with fail
        exact HP.out _ s2 _ _ HX.out (N4.out.write 2 _ rfl)
      | false =>
        go_wp2_with fail
        exact HP.out _ s2 _ _ HX.out (N4.out.write 2 _ rfl)
    · have hee : ((ec : Int) == 0) = false := by simp; exact he
      rw [decide_eq_false he] at HX
      clear he
      go_wp2_with fail
      exact HP.out _ s2 _ _ HX.out (N4.out.write 2 _ rfl)
  · rw [if_neg hk] at HX
    have hkI : ((k : Int) == 1) = false := by simp; omega
    go_enter Tryz.func125, Tryz.ntmps125
    go_wp2_with fail
    refine HT.out.mono ?_
    rintro e w1 ⟨rfl, h1, h2⟩
    have N1 := Lib.hid (HN.out.read h1 h2)
    clear h1 h2
    go_wp2_with fail
    refine (HU.out _).mono ?_
    rintro e w2 ⟨rfl, hb2⟩
    have N2 : Hid (RdNd w0 w2 g nb s1 (k, [], [], zeroK)) := Lib.hid (N1.out.below hb2)
    have k1 : w2.cell? ⟨nb, 1, none⟩ = some (.string ⟨#[]⟩) := N2.out.at0.2.1
    have f1 : w2.frozen? ⟨nb, 1, none⟩ = false := N2.out.nd.frozen 1
    have k0 : w2.cell? ⟨nb, 0, none⟩ = some (.int .i64 (k : Int)) := N2.out.at0.1
    clear hb2
    go_upto_region 3 with fail
    have N3 : Hid (RdNd w0 (w2.setCell ⟨nb, 1, none⟩ (.string ⟨p.toArray⟩)) g nb s1 (k, p, [], zeroK)) := Lib.hid (N2.out.write 1 _ rfl)
    generalize w2.setCell ⟨nb, 1, none⟩ (.string ⟨p.toArray⟩) = W3 at *
    clear k0 k1 f1
    have k0 : W3.cell? ⟨nb, 0, none⟩ = some (.int .i64 (k : Int)) := N3.out.at0.1
    have HV := Lib.hid (fun W (hW : Rdr W g s1) => code_RBytes W g s1 hW 32 (by omega))
    generalize bytesS s1 32 = vr at *
    obtain ⟨v, s2⟩ := vr
    simp only at HX HV
    go_upto_region 5 with fail
    clear k0
    go_region_held3 (fun _ => True) (first | trivial | go_keep) ((go_at_call 123; refine (HV.out _ (by first | exact N3.out.rd | exact N3.out.drew.rd)).mono ?_; rintro e w4 ⟨rfl, hr2, hg2⟩; have N4 : Hid (RdNd w0 w4 g nb s2 (k, p, [], zeroK)) := Lib.hid (by first | exact N3.out.read hr2 hg2 | exact N3.out.drew.read hr2 hg2); have k3 : w4.cell? ⟨nb, 3, none⟩ = some (.string ⟨#[]⟩) := N4.out.nd.cell 3; have f3 : w4.frozen? ⟨nb, 3, none⟩ = false := N4.out.nd.frozen 3; have k0 : w4.cell? ⟨nb, 0, none⟩ = some (.int .i64 (k : Int)) := N4.out.at0.1; clear hr2 hg2))
    by_cases he : ec = 0
    · subst he
      cases leaf with
      | true =>
        go_wp2_with fail
        exact HP.out _ s2 _ _ HX.out (N4.out.write 3 _ rfl)
      | false =>
        go_wp2_with fail
        exact HP.out _ s2 _ _ HX.out (N4.out.write 3 _ rfl)
    · have hee : ((ec : Int) == 0) = false := by simp; exact he
      rw [decide_eq_false he] at HX
      clear he
      go_wp2_with fail
      exact HP.out _ s2 _ _ HX.out (N4.out.write 3 _ rfl)
end Go.Proofs.YtcjafcbekegmlaaGreatDoor
