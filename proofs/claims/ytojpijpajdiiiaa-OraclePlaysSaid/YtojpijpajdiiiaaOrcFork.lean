/- The walks of layer 6 (oracle): Fork. No conditions. -/
import Derived.Test.YtojpijpajdiiiaaOrc4
import Derived.Test.YtojpijpajdiiiaaLoops
import Derived.Laws.CopyRow
import Derived.Laws.CopyOwn
namespace Go.Proofs.Ytojpijpajdiiiaa
set_option linter.unusedVariables false
open Go.RowKit Go.Instr
attribute [local go_sem] ba_get ByteArray.mk_append_mk add_zero_addr

/-- a whole row copied over a new one of its size -/
theorem run_copy_rows {P : Program} (w : World) (dT sT ty elem : TypeId) (size : Nat) (hu : P.underlying dT = some (.slice elem)) (hs : (P.info? elem).map (·.size) = some size)
    (g n dCap sCap : Nat) (A : Option Addr) (cur : Array Value) (t : TypeId) (cs : List Value) (hg : w.heap[g]? = some (.cells cur t (0, 0))) (hcur : cur.size = n * size)
    (B : Nat) (HR : Reads w B size A n cs) (h1 : ∀ v ∈ cs, v.oneCell' = true) :
    (Builtin.copy_ #[dT, sT] ty #[.slice (some ⟨g, 0, none⟩) n dCap, .slice A n sCap]).run P w = .ok (goInt n) (w.setRow g cs.toArray) := by
  have hl := HR.1
  cases hq : P.info? elem with
  | none => simp [hq] at hs
  | some i =>
    have hi : i.size = size := by simpa [hq] using hs
    cases A with
    | some a =>
      have hsrc : ∀ j v, cs[j]? = some v → w.cell? (a.add j) = some v := by
        intro j v hv
        rcases Nat.eq_zero_or_pos n with h0 | h0
        · subst h0
          have : cs = [] := List.eq_nil_of_length_eq_zero (by simpa using hl)
          subst this
          simp at hv
        · obtain ⟨a', e, _, hc⟩ := HR.2 h0
          injection e with e
          subst e
          exact hc j v hv
      have hld := run_loadCells_list (P := P) w a cs hsrc
      have hst := run_storeCells_at P g 0 t cs 0 cur w hg (by simp; omega) h1
      have e2 : cur.toList.drop (n * size) = [] := List.drop_eq_nil_of_le (by simp; omega)
      simp [Builtin.copy_, run_underlying hu, Builtin.lenOf, Builtin.firstCells, sizeOf, typeInfo, hq, hi, ← hl, hld, hst]
      rw [hl, e2]
      simp
    | none =>
      have h0 : n = 0 := by
        rcases Nat.eq_zero_or_pos n with h0 | h0
        · exact h0
        · obtain ⟨a', e, _⟩ := HR.2 h0
          cases e
      subst h0
      have : cs = [] := List.eq_nil_of_length_eq_zero (by simpa using hl)
      subst this
      have e : w.setRow g #[] = w := by
        have : cur = #[] := Array.eq_empty_of_size_eq_zero (by omega)
        subst this
        exact setRow_self w g _ t (0, 0) hg
      simp [Builtin.copy_, run_underlying hu, Builtin.lenOf, Builtin.firstCells, sizeOf, typeInfo, hq, storeCells, e]

theorem step_copy_rows {P : Program} {ops : Array Oper} {o : Oper} {a : Act} {w : World} {K : Act → World → Prop} {Q : Exit → Act → World → Prop} {E : Prop} (hgd : o.guard = none) (d s : Operand) (dT sT : TypeId)
    (ho : o.op = .call { callee := .builtin .copy, args := #[d, s], argTypes := #[dT, sT] }) (elem : TypeId) (size : Nat) (hu : P.underlying dT = some (.slice elem)) (hsz : (P.info? elem).map (·.size) = some size)
    (g n dCap sCap : Nat) (A : Option Addr) (hd : a.eval d = .slice (some ⟨g, 0, none⟩) n dCap) (hs : a.eval s = .slice A n sCap) (cur : Array Value) (t : TypeId) (cs : List Value) (hg : w.heap[g]? = some (.cells cur t (0, 0))) (hcur : cur.size = n * size)
    (B : Nat) (HR : Reads w B size A n cs) (h1 : ∀ v ∈ cs, v.oneCell' = true)
    (h : ∀ w', Hid (w' = w.setRow g cs.toArray) → K (a.put o.dst (goInt n)) w') :
    if Region.wanted o (yielded ops a.tmps) = true then Oper.wp P o a w K Q else E := by
  have hw : Region.wanted o (yielded ops a.tmps) = true := by simp [Region.wanted, hgd]
  rw [if_pos hw]
  have hrun := run_copy_rows (P := P) w dT sT o.type elem size hu hsz g n dCap sCap A cur t cs hg hcur B HR h1
  unfold Oper.wp
  simp [execOp, ho, resolve, invoke, builtin, hd, hs, hrun, Result.andThen]
  exact h _ (Lib.hid rfl)

theorem tab_store' {w : World} {mb : Nat} {l : List Sg} (hm : Hid (MapIs w sk mb (smap l 0))) (n : Nat) (hn : l.length = n) (x : Sg) (hx : atRow (x.1, x.2.1) l = none) :
    ∃ w', (mapUpdate 44 (.map (some mb)) (sk (x.1, x.2.1)) (.int .i64 (n : Int))).run Try.prog w = .ok () w' ∧ Hid (MapIs w' sk mb (smap (l ++ [x]) 0)) ∧ Hid (w.grownBy w' (some mb)) := by
  subst hn
  exact tab_store hm x.1 x.2.1 x.2.2 hx

/-- the fork, made so far: its rows are there, its map has the first i keys -/
structure Forked (w0 : World) (mb : Nat) (l : List Sg) (i : Nat) (w : World) : Prop where
  blk : Blk w (mb + 1) 46 #[.map (some mb), .slice (some ⟨mb + 2, 0, none⟩) l.length l.length]
  map : MapIs w sk mb (smap (l.take i) 0)
  own : w.ownsRow (mb + 2) 37 3 (.slice (some ⟨mb + 2, 0, none⟩) l.length l.length) l.length (srows l)
  below : Below mb w0 w
theorem Forked.kept {w0 w w1 : World} {mb i : Nat} {l : List Sg} (h : Forked w0 mb l i w) (hb : Below w.heap.size w w1) : Forked w0 mb l i w1 where
  blk := h.blk.below hb h.blk.lt
  map := h.map.kept (hb.block _ h.map.lt)
  own := own_below h.own hb
  below := h.below.trans (hb.mono (by have := h.map.lt; omega))
theorem Forked.next {w0 w w1 : World} {mb i : Nat} {l : List Sg} (h : Forked w0 mb l i w) (hi : i < l.length) (hm : MapIs w1 sk mb (smap (l.take i ++ [l[i]]) 0)) (hg : w.grownBy w1 (some mb)) : Forked w0 mb l (i + 1) w1 where
  blk := h.blk.grown hg (by intro e; injection e with e; omega)
  map := by rw [List.take_succ_eq_append_getElem hi]; exact hm
  own := own_keep h.own fun k e => hg.block k (h.own.lt k e).2 (by intro e2; injection e2 with e2; have := (h.own.lt k e).1; omega)
  below := h.below.grown hg (by have := h.map.lt; omega) (by intro k e; injection e with e; omega)

theorem box_cell (w : World) (cs : Array Value) (t : TypeId) (i : Nat) (h : i < cs.size) : (w.alloc (.cells cs t)).drew.cell? ⟨w.heap.size, i, none⟩ = some cs[i] := by
  show (w.alloc (.cells cs t)).cell? ⟨w.heap.size, i, none⟩ = _
  rw [World.cell?_alloc_at _ _ _ _ rfl]
  simp [h]
theorem grown_cell {w w' : World} {b : Nat} (hg : w.grownBy w' (some b)) (g i : Nat) (h : g < w.heap.size) (hne : g ≠ b) : w'.cell? ⟨g, i, none⟩ = w.cell? ⟨g, i, none⟩ :=
  World.cell?_of_block (hg.block g h (fun e => by injection e with e; exact hne e))
theorem fork_start {w W2 W3 : World} {l : List Sg} (hl : l.length ≤ 1000) (f1 : Blk W2 (w.heap.size + 1) 46 #[.map (some w.heap.size), .slice (some ⟨w.heap.size + 2, 0, none⟩) l.length l.length])
    (f2 : Blk W2 (w.heap.size + 2) 37 (madeCells #[.string ⟨#[]⟩, .string ⟨#[]⟩, .bool false] (l.length * 3))) (f3 : MapIs W2 sk w.heap.size []) (f4 : Below w.heap.size w W2)
    (e : W3 = W2.drew.setRow (w.heap.size + 2) (srows l).toArray) : Forked w w.heap.size l 0 W3 := by
  have hlt2 := f2.lt
  have hset : W2.grownBy W3 (some (w.heap.size + 2)) := by
    rw [e]
    refine ⟨rfl, rfl, rfl, by simp [World.setRow], fun k hk hne => ?_⟩
    exact setRow_other W2.drew _ _ _ (fun e2 => hne (by rw [e2]))
  have hnew : W3.heap[w.heap.size + 2]? = some (.cells (srows l).toArray 37 (0, 0)) := by
    rw [e]
    exact setRow_heap W2.drew _ _ _ _ _ f2
  refine ⟨f1.grown hset (by intro e2; injection e2 with e2; omega), ?_, ?_, f4.grown hset f4.size (by intro k e2; injection e2 with e2; omega)⟩
  · rw [List.take_zero]
    exact f3.kept (hset.block _ f3.lt (by intro e2; injection e2 with e2; omega))
  · refine ⟨srows_length l, .inr ⟨w.heap.size + 2, l.length, (srows l).toArray, rfl, Nat.le_refl _, hnew, Nat.le_refl _, by simp only [maxLen]; omega, by simp [srows_length], ?_⟩⟩
    simp only []
    rw [List.take_of_length_le (by rw [srows_length]; exact Nat.le_refl _)]

theorem orc_Fork (w : World) (mb : Nat) (v : Value) (l : List Sg) (hT : Tab w mb v l) (hl : l.length ≤ 1000) (hk : ∀ (i : Nat) (hi : i < l.length), atRow (l[i].1, l[i].2.1) (l.take i) = none) :
    Calls Try.prog 14 #[.pointer (some ⟨mb + 1, 0, none⟩)] w fun e w' => e = .returned (.pointer (some ⟨w.heap.size + 1, 0, none⟩)) ∧ (∃ v', Tab w' w.heap.size v' l) ∧ Below w.heap.size w w' := by
  obtain ⟨A, c, rfl, HR, hc, _⟩ := own_form hT.own
  have hlt := hT.blk.lt
  have hc1 : w.cell? ⟨mb + 1, 1, none⟩ = some (.slice A l.length c) := hT.blk.cell 1
  obtain ⟨i0, hi0, hz0, hz1, hz2⟩ := info_parts info_sg
  have hmk := fun W => run_make_rowN (P := Try.prog) 34 37 i0 _ Try.underlying34 hi0 hz0 .i64 .i64 l.length l.length (Nat.le_refl _) (by rw [hz2]; omega) (by omega) W
  rw [hz1] at hmk
  clear hT
  go_enter Try.func14, Try.ntmps14
  go_wp2_with fail
  refine (orc_New _).mono ?_
  rintro e w1 ⟨rfl, hT1, hb1, hs1⟩
  have c1 := hb1.cell (p := ⟨mb + 1, 1, none⟩) hlt
  rw [hc1] at c1
  have d1 : w1.cell? ⟨w.heap.size + 1, 1, none⟩ = some (.slice none 0 0) := hT1.blk.cell 1
  have f1 : w1.frozen? ⟨w.heap.size + 1, 1, none⟩ = false := hT1.blk.frozen 1
  have m1 := hT1.map
  have bl1 := hT1.blk
  have R1 := HR.below hb1
  clear hT1
  go_wp2
  have F : Hid (Blk ((w1.setCell ⟨w.heap.size + 1, 1, none⟩ (.slice (some ⟨w.heap.size + 2, 0, none⟩) l.length l.length)).alloc (.cells (madeCells #[.string ⟨#[]⟩, .string ⟨#[]⟩, .bool false] (l.length * 3)) 37)) (w.heap.size + 1) 46 #[.map (some w.heap.size), .slice (some ⟨w.heap.size + 2, 0, none⟩) l.length l.length] ∧
      Blk ((w1.setCell ⟨w.heap.size + 1, 1, none⟩ (.slice (some ⟨w.heap.size + 2, 0, none⟩) l.length l.length)).alloc (.cells (madeCells #[.string ⟨#[]⟩, .string ⟨#[]⟩, .bool false] (l.length * 3)) 37)) (w.heap.size + 2) 37 (madeCells #[.string ⟨#[]⟩, .string ⟨#[]⟩, .bool false] (l.length * 3)) ∧
      MapIs ((w1.setCell ⟨w.heap.size + 1, 1, none⟩ (.slice (some ⟨w.heap.size + 2, 0, none⟩) l.length l.length)).alloc (.cells (madeCells #[.string ⟨#[]⟩, .string ⟨#[]⟩, .bool false] (l.length * 3)) 37)) sk w.heap.size [] ∧
      Below w.heap.size w ((w1.setCell ⟨w.heap.size + 1, 1, none⟩ (.slice (some ⟨w.heap.size + 2, 0, none⟩) l.length l.length)).alloc (.cells (madeCells #[.string ⟨#[]⟩, .string ⟨#[]⟩, .bool false] (l.length * 3)) 37))) := Lib.hid (by
    refine ⟨(bl1.set_ 1 _).alloc _, ?_, m1.kept ?_, (hb1.setCell (by show w.heap.size ≤ w.heap.size + 1; omega) _).alloc (by rw [World.size_setCell]; exact hb1.size) _⟩
    · have := Blk.new (w1.setCell ⟨w.heap.size + 1, 1, none⟩ (.slice (some ⟨w.heap.size + 2, 0, none⟩) l.length l.length)) 37 (madeCells #[.string ⟨#[]⟩, .string ⟨#[]⟩, .bool false] (l.length * 3))
      rw [World.size_setCell, hs1] at this
      exact this
    · rw [Below.heap_alloc _ _ _ (by rw [World.size_setCell]; omega)]
      exact Below.heap_setCell w1 ⟨w.heap.size + 1, 1, none⟩ _ _ (by show w.heap.size ≠ w.heap.size + 1; omega))
  generalize ((w1.setCell ⟨w.heap.size + 1, 1, none⟩ (.slice (some ⟨w.heap.size + 2, 0, none⟩) l.length l.length)).alloc (.cells (madeCells #[.string ⟨#[]⟩, .string ⟨#[]⟩, .bool false] (l.length * 3)) 37)) = W2 at F ⊢
  have R2 := HR.below F.out.2.2.2
  have c2 : W2.cell? ⟨mb + 1, 1, none⟩ = some (.slice A l.length c) := (F.out.2.2.2.cell (p := ⟨mb + 1, 1, none⟩) hlt).trans hc1
  have d2 : W2.cell? ⟨w.heap.size + 1, 1, none⟩ = some (.slice (some ⟨w.heap.size + 2, 0, none⟩) l.length l.length) := F.out.1.cell 1
  clear c1 d1 f1 m1 bl1 R1 hb1 hs1 hc1 hmk
  go_region_law (refine step_copy_rows rfl _ _ 34 34 rfl 37 3 Try.underlying34 (by simp [hi0, hz1]) (w.heap.size + 2) l.length l.length c A rfl rfl _ 37 (srows l) F.out.2.1 (by simp [madeCells]) w.heap.size R2 (srows_one l) ?_; intro W3 h3; have G := Lib.hid (fork_start hl F.out.1 F.out.2.1 F.out.2.2.1 F.out.2.2.2 h3.out); have d3 : W3.cell? ⟨w.heap.size + 1, 1, none⟩ = some (.slice (some ⟨w.heap.size + 2, 0, none⟩) l.length l.length) := G.out.blk.cell 1)
  all_goals
    have HK := Lib.hid hk
    clear hk
    go_wp2
    refine wp_loop_ghost_k (fun k a wr => ∀ Φ : Act → Prop, (∀ (s0 s1 s2 s4 s5 s6 s7 s8 s9 s10 s11 s12 s13 s14 s15 s16 s17 s18 s19 s20 s21 s22 s23 s24 s25 s26 s27 s31 s32 s33 s34 s35 s36 s37 s38 s39 s40 s41 s42 s43 s44 s45 s46 : Value) (i : Nat), (i + k = l.length ∧ Forked w w.heap.size l i wr) → Φ { tmps := #[s0, s1, s2, .pointer (some ⟨w.heap.size + 1, 0, none⟩), s4, s5, s6, s7, s8, s9, s10, s11, s12, s13, s14, s15, s16, s17, s18, s19, s20, s21, s22, s23, s24, s25, s26, s27, .slice (some ⟨w.heap.size + 2, 0, none⟩) l.length l.length, .int .i64 l.length, .int .i64 i, s31, s32, s33, s34, s35, s36, s37, s38, s39, s40, s41, s42, s43, s44, s45, s46], defers := [] }) → Φ a) (l.length) ?_ ?_
    · refine fun Φ hΦ => hΦ _ _ _ _ _ _ _ _ _ _ _ _ _ _ _ _ _ _ _ _ _ _ _ _ _ _ _ _ _ _ _ _ _ _ _ _ _ _ _ _ _ _ _ (0) ?_
      exact ⟨by omega, G.out⟩
    · intro k1 a1 wr1 hI1 J1 K1 hJ1 hK1
      refine hI1 (fun a => Code.wp _ _ _ a _) ?_
      clear hI1 a1
      intro s0 s1 s2 s3 s4 s5 s6 s7 s8 s9 s10 s11 s12 s13 s14 s15 s16 s17 s18 s19 s20 s21 s22 s23 s24 s25 s26 s27 s28 s29 s30 s31 s32 s33 s34 s35 s36 s37 s38 s39 s40 s41 s42 i hrel
      show Code.wp _ _ _ _ _
      obtain ⟨h1, hf⟩ := hrel
      by_cases hi : i < l.length
      · have hi1 : (i : Int) < l.length := by omega
        have hi0' : 0 ≤ (i : Int) := by omega
        obtain ⟨g, c', hv, _, hbl, _, hcell⟩ := own3_cells hf.own (by omega)
        have hA : w.heap.size + 2 = g := by
          injection hv with hA
          injection hA with hA
          injection hA
        obtain ⟨q0, q1, q2⟩ := hcell i _ (List.getElem?_eq_getElem hi)
        rw [← hA] at q0 q1 q2
        have hkk := HK.out i hi
        have HF := Lib.hid hf
        have e0 : wr1.cell? ⟨w.heap.size + 1, 0, none⟩ = some (.map (some w.heap.size)) := hf.blk.cell 0
        have hbs : w.heap.size + 1 < wr1.heap.size := hf.blk.lt
        have htk : Hid ((l.take i).length = i) := Lib.hid (by rw [List.length_take]; omega)
        have HKK := Lib.hid hkk
        have HI := Lib.hid hi
        have NX : Hid (∀ w1 w2, Below wr1.heap.size wr1 w1 → MapIs w2 sk w.heap.size (smap (l.take i ++ [l[i]]) 0) → w1.grownBy w2 (some w.heap.size) → Forked w w.heap.size l (i + 1) w2) := Lib.hid (fun w1 w2 g1 g2 g3 => (hf.kept g1).next hi g2 g3)
        clear hcell hv hA hkk hf
        generalize l[i] = x at *
        go_wp2
        go_region_held3 (fun w' => w'.cell? ⟨w.heap.size + 1, 0, none⟩ = some (.map (some w.heap.size)) ∧ w'.cell? ⟨wr1.heap.size, 0, none⟩ = some (.string ⟨x.1.toArray⟩) ∧ w'.cell? ⟨wr1.heap.size, 1, none⟩ = some (.string ⟨x.2.1.toArray⟩)) (first | go_keep | (refine ⟨?_, ?_, ?_⟩ <;> assumption)) (first | (go_at_call 17; refine (orc_key x.1 x.2.1 _).mono ?_; rintro e w4 ⟨rfl, hb4⟩; have hb5 : Below wr1.heap.size wr1 w4 := (((Below.refl _ _).alloc (Nat.le_refl _) _).drew).trans (hb4.mono (by simp)); obtain ⟨w5, hrun, hm5, hg5⟩ := tab_store' (Lib.hid (HF.out.kept hb5).map) i htk.out x HKK.out; have N5 := Lib.hid (NX.out _ _ hb5 hm5.out hg5.out); have z0 : w4.cell? ⟨w.heap.size + 1, 0, none⟩ = some (.map (some w.heap.size)) := (hb5.cell (p := ⟨w.heap.size + 1, 0, none⟩) hbs).trans e0; have z1 : w4.cell? ⟨wr1.heap.size, 0, none⟩ = some (.string ⟨x.1.toArray⟩) := (hb4.cell (p := ⟨wr1.heap.size, 0, none⟩) (by simp)).trans (box_cell wr1 _ _ 0 (by simp)); have z2 : w4.cell? ⟨wr1.heap.size, 1, none⟩ = some (.string ⟨x.2.1.toArray⟩) := (hb4.cell (p := ⟨wr1.heap.size, 1, none⟩) (by simp)).trans (box_cell wr1 _ _ 1 (by simp)); have hs4 : wr1.heap.size < w4.heap.size := (by have := hb4.size; rw [World.size_drew, World.size_alloc] at this; exact this); have y0 := (grown_cell hg5.out (w.heap.size + 1) 0 (by omega) (by omega)).trans z0; have y1 := (grown_cell hg5.out wr1.heap.size 0 (by omega) (by omega)).trans z1; have y2 := (grown_cell hg5.out wr1.heap.size 1 (by omega) (by omega)).trans z2; clear hb4 hb5 hm5 hg5 hs4))
        go_wp2
        refine Handed.intro (l.length - (i + 1)) ?_ (hJ1 _ _ _ (fun Φ hΦ => hΦ _ _ _ _ _ _ _ _ _ _ _ _ _ _ _ _ _ _ _ _ _ _ _ _ _ _ _ _ _ _ _ _ _ _ _ _ _ _ _ _ _ _ _ (i + 1) ?_))
        · have := HI.out
          omega
        · exact ⟨by have := HI.out; omega, N5.out⟩
      · have e : l.take i = l := List.take_of_length_le (by omega)
        have T : Hid (Tab wr1 w.heap.size (.slice (some ⟨w.heap.size + 2, 0, none⟩) l.length l.length) l ∧ Below w.heap.size w wr1) := Lib.hid ⟨⟨hf.blk, by have := hf.map; rw [e] at this; exact this, hf.own⟩, hf.below⟩
        clear hf e
        have hi2 : ((i : Int) < l.length) = False := by simp; omega
        go_wp2
        go_ret
        exact ⟨rfl, ⟨_, T.out.1⟩, T.out.2⟩
end Go.Proofs.Ytojpijpajdiiiaa
