import Derived.Test.YtcjafcbekegmlaaDoorJ04
import Derived.Lib.AppendStr
set_option linter.unusedSimpArgs false
set_option linter.unusedVariables false
namespace Go.Proofs.YtcjafcbekegmlaaDoor
set_option linter.unusedVariables false
open Go.RowKit Go.Instr
def hcells (h : List UInt32) (tail : Value) (n : Int) : Array Value := (wvs h ++ [tail, .int .i64 n]).toArray
theorem sha_New (w : World) :
    Calls Tryd.prog 73 #[] w fun e w' => ∃ g, e = .returned (.pointer (some ⟨g, 0, none⟩)) ∧ w.heap.size ≤ g ∧ Blk w' g 135 (hcells firstH (.slice none 0 0) 0) ∧ Below w.heap.size w w' := by
  have hf := sha_First w
  rw [firstH_wvs] at hf
  have HF := Lib.hid hf
  clear hf
  have HP : Hid (∀ w1, Below w.heap.size w w1 → Blk (w1.alloc (.cells #[.int .u32 1779033703, .int .u32 3144134277, .int .u32 1013904242, .int .u32 2773480762, .int .u32 1359893119, .int .u32 2600822924, .int .u32 528734635, .int .u32 1541459225, .slice none 0 0, .int .i64 0] 135)) w1.heap.size 135 (hcells firstH (.slice none 0 0) 0) ∧ w.heap.size ≤ w1.heap.size ∧ Below w.heap.size w (w1.alloc (.cells #[.int .u32 1779033703, .int .u32 3144134277, .int .u32 1013904242, .int .u32 2773480762, .int .u32 1359893119, .int .u32 2600822924, .int .u32 528734635, .int .u32 1541459225, .slice none 0 0, .int .i64 0] 135))) := Lib.hid (fun w1 hb => ⟨Blk.new _ _ _, hb.size, hb.alloc hb.size _⟩)
  generalize hcells firstH (.slice none 0 0) 0 = hc at *
  go_enter Tryd.func73, Tryd.ntmps73
  go_wp2_with fail
  refine HF.out.mono ?_
  rintro e w1 ⟨rfl, hb1⟩
  go_wp2
  go_ret
  exact ⟨_, rfl, (HP.out w1 hb1).2.1, (HP.out w1 hb1).1, (HP.out w1 hb1).2.2⟩
end Go.Proofs.YtcjafcbekegmlaaDoor

namespace Go.Proofs.YtcjafcbekegmlaaDoor
set_option linter.unusedVariables false
open Go.RowKit Go.Instr
theorem step_call {P : Program} {ops : Array Oper} {o : Oper} {a : Act} {w : World} {K : Act → World → Prop} {Q : Exit → Act → World → Prop} {E : Prop} (hgd : o.guard = none) (f : FuncId) (args : Array Value) (hrun : (execOp a.eval o).run P w = .ok (.enter f args) w)
    (post : Ending → World → Prop) (hc : Calls P f args w post) (h : ∀ e w', post e w' → ∃ v, e = .returned v ∧ K (a.put o.dst v) w') : if Region.wanted o (yielded ops a.tmps) = true then Oper.wp P o a w K Q else E := by
  have hw : Region.wanted o (yielded ops a.tmps) = true := by simp [Region.wanted, hgd]
  rw [if_pos hw]
  unfold Oper.wp
  rw [hrun, Oper.upon_enter]
  refine hc.mono fun e w' hp => ?_
  obtain ⟨v, rfl, hk⟩ := h e w' hp
  exact hk
theorem step_append_str {P : Program} {w : World} {ops : Array Oper} {o : Oper} {a : Act} {K : Act → World → Prop} {Q : Exit → Act → World → Prop} {E : Prop} (hgd : o.guard = none) (sl x : Operand) (t u : TypeId)
    (ho : o.op = .call { callee := .builtin .append, args := #[sl, x], argTypes := #[t, u] })
    (base : Nat) (e : TypeId) (i : TypeInfo) (ht : P.underlying t = some (.slice e)) (hu : P.underlying u = some .string) (hi : P.info? e = some i) (hz : i.zero = some (.int .u8 0))
    (hsize : i.size = 1) (hby : i.bytes = 1)
    (v : Value) (n : Nat) (xs : List Value) (hs : a.eval sl = v) (hown : w.ownsRow base e 1 v n xs) (s : ByteArray) (hx : a.eval x = .string s)
    (h63 : n + s.size ≤ maxLen) (hbytes : n + s.size ≤ 140737488355328) (hbase : base ≤ w.heap.size)
    (h : ∀ v' w', w'.ownsRow base e 1 v' (n + s.size) (xs ++ Lib.strCells s) → w.grownBy w' v.ownBlock → K (a.put o.dst v') w') : if Region.wanted o (yielded ops a.tmps) = true then Oper.wp P o a w K Q else E := by
  have hw : Region.wanted o (yielded ops a.tmps) = true := by simp [Region.wanted, hgd]
  rw [if_pos hw]
  obtain ⟨v', w', hr, h2, h3, h4⟩ := Lib.run_append_own_string (P := P) w base t u o.type e i ht hu hi hz hsize hby v n xs hown s h63 hbytes hbase
  unfold Oper.wp execOp
  simp only [ho, resolve, invoke, builtin, Sem.run_bind, Sem.run_pure, Result.andThen_ok, List.map_toArray, List.map_cons, List.map_nil, hs, hx, hr]
  exact h v' w' h2 h3
theorem hfacts {w : World} {g : Nat} {v0 v1 v2 v3 v4 v5 v6 v7 : Value} {tail n : Value} (h : Blk w g 135 #[v0, v1, v2, v3, v4, v5, v6, v7, tail, n]) :
    (w.cell? ⟨g, 0, none⟩ = some v0 ∧ w.cell? ⟨g, 1, none⟩ = some v1 ∧ w.cell? ⟨g, 2, none⟩ = some v2 ∧ w.cell? ⟨g, 3, none⟩ = some v3 ∧ w.cell? ⟨g, 4, none⟩ = some v4 ∧ w.cell? ⟨g, 5, none⟩ = some v5 ∧ w.cell? ⟨g, 6, none⟩ = some v6 ∧ w.cell? ⟨g, 7, none⟩ = some v7 ∧ w.cell? ⟨g, 8, none⟩ = some tail ∧ w.cell? ⟨g, 9, none⟩ = some n) ∧
    (w.frozen? ⟨g, 0, none⟩ = false ∧ w.frozen? ⟨g, 1, none⟩ = false ∧ w.frozen? ⟨g, 2, none⟩ = false ∧ w.frozen? ⟨g, 3, none⟩ = false ∧ w.frozen? ⟨g, 4, none⟩ = false ∧ w.frozen? ⟨g, 5, none⟩ = false ∧ w.frozen? ⟨g, 6, none⟩ = false ∧ w.frozen? ⟨g, 7, none⟩ = false ∧ w.frozen? ⟨g, 8, none⟩ = false ∧ w.frozen? ⟨g, 9, none⟩ = false) :=
  ⟨⟨h.cell 0, h.cell 1, h.cell 2, h.cell 3, h.cell 4, h.cell 5, h.cell 6, h.cell 7, h.cell 8, h.cell 9⟩, h.frozen 0, h.frozen 1, h.frozen 2, h.frozen 3, h.frozen 4, h.frozen 5, h.frozen 6, h.frozen 7, h.frozen 8, h.frozen 9⟩
theorem write_grown {w W1 w3 w4 : World} {g : Nat} (h1 : w.grownBy W1 (some g)) (h3 : W1.grownBy w3 none) (hb : Below w3.heap.size w3 w4) : w.grownBy w4 (some g) :=
  ⟨hb.os.trans (h3.os.trans h1.os), hb.tape.trans (h3.tape.trans h1.tape), hb.output.trans (h3.output.trans h1.output), Nat.le_trans h1.size (Nat.le_trans h3.size hb.size), fun k hk hne => (hb.block k (by have := h1.size; have := h3.size; omega)).trans ((h3.block k (by have := h1.size; omega) (by simp)).trans (h1.block k hk hne))⟩
theorem own_more {w : World} {b1 b2 e size n : Nat} {v : Value} {xs : List Value} (h : w.ownsRow b1 e size v n xs) (hb : b2 ≤ b1) : w.ownsRow b2 e size v n xs := by
  refine ⟨h.1, ?_⟩
  rcases h.2 with h2 | ⟨g, cap, cur, rfl, hbg, hg, h3⟩
  · exact .inl h2
  · exact .inr ⟨g, cap, cur, rfl, by omega, hg, h3⟩
theorem own_set {w : World} {b e size n g i : Nat} {v u : Value} {xs : List Value} (h : w.ownsRow b e size v n xs) (hne : v.ownBlock ≠ some g) : (w.setCell ⟨g, i, none⟩ u).ownsRow b e size v n xs :=
  own_keep9 h fun k e => Below.heap_setCell w ⟨g, i, none⟩ u k (fun e2 => hne (by rw [e, e2]))
theorem set9 {w : World} {g : Nat} {t : TypeId} {x0 x1 x2 x3 x4 x5 x6 x7 x8 x9 y0 y1 y2 y3 y4 y5 y6 y7 y8 : Value} (h : Blk w g t #[x0, x1, x2, x3, x4, x5, x6, x7, x8, x9]) : Blk (((((((((w.setCell ⟨g, 0, none⟩ y0).setCell ⟨g, 1, none⟩ y1).setCell ⟨g, 2, none⟩ y2).setCell ⟨g, 3, none⟩ y3).setCell ⟨g, 4, none⟩ y4).setCell ⟨g, 5, none⟩ y5).setCell ⟨g, 6, none⟩ y6).setCell ⟨g, 7, none⟩ y7).setCell ⟨g, 8, none⟩ y8) g t #[y0, y1, y2, y3, y4, y5, y6, y7, y8, x9] := by
  have h := h.set_ 0 y0
  simp only [List.setIfInBounds_toArray, List.set_cons_zero] at h
  have h := h.set_ 1 y1
  simp only [List.setIfInBounds_toArray, List.set_cons_zero, List.set_cons_succ] at h
  have h := h.set_ 2 y2
  simp only [List.setIfInBounds_toArray, List.set_cons_zero, List.set_cons_succ] at h
  have h := h.set_ 3 y3
  simp only [List.setIfInBounds_toArray, List.set_cons_zero, List.set_cons_succ] at h
  have h := h.set_ 4 y4
  simp only [List.setIfInBounds_toArray, List.set_cons_zero, List.set_cons_succ] at h
  have h := h.set_ 5 y5
  simp only [List.setIfInBounds_toArray, List.set_cons_zero, List.set_cons_succ] at h
  have h := h.set_ 6 y6
  simp only [List.setIfInBounds_toArray, List.set_cons_zero, List.set_cons_succ] at h
  have h := h.set_ 7 y7
  simp only [List.setIfInBounds_toArray, List.set_cons_zero, List.set_cons_succ] at h
  have h := h.set_ 8 y8
  simp only [List.setIfInBounds_toArray, List.set_cons_zero, List.set_cons_succ] at h
  exact h
theorem set9_own {w : World} {b e size n g : Nat} {v y0 y1 y2 y3 y4 y5 y6 y7 y8 : Value} {xs : List Value} (h : w.ownsRow b e size v n xs) (hne : v.ownBlock ≠ some g) : (((((((((w.setCell ⟨g, 0, none⟩ y0).setCell ⟨g, 1, none⟩ y1).setCell ⟨g, 2, none⟩ y2).setCell ⟨g, 3, none⟩ y3).setCell ⟨g, 4, none⟩ y4).setCell ⟨g, 5, none⟩ y5).setCell ⟨g, 6, none⟩ y6).setCell ⟨g, 7, none⟩ y7).setCell ⟨g, 8, none⟩ y8).ownsRow b e size v n xs :=
  (own_set (own_set (own_set (own_set (own_set (own_set (own_set (own_set (own_set h hne) hne) hne) hne) hne) hne) hne) hne) hne)
theorem set9_grown {w0 w : World} {g : Nat} {y0 y1 y2 y3 y4 y5 y6 y7 y8 : Value} (h : w0.grownBy w (some g)) : w0.grownBy (((((((((w.setCell ⟨g, 0, none⟩ y0).setCell ⟨g, 1, none⟩ y1).setCell ⟨g, 2, none⟩ y2).setCell ⟨g, 3, none⟩ y3).setCell ⟨g, 4, none⟩ y4).setCell ⟨g, 5, none⟩ y5).setCell ⟨g, 6, none⟩ y6).setCell ⟨g, 7, none⟩ y7).setCell ⟨g, 8, none⟩ y8) (some g) :=
  (grown_set0 (grown_set0 (grown_set0 (grown_set0 (grown_set0 (grown_set0 (grown_set0 (grown_set0 (grown_set0 h _ _) _ _) _ _) _ _) _ _) _ _) _ _) _ _) _ _)
def WriteEnd (w : World) (g : Nat) (l : List UInt8) (e : Ending) (w' : World) : Prop :=
  e = .returned (.tuple #[]) ∧ ∃ A c, Blk w' g 135 (hcells (hsW firstH l (l.length / 64)) (.slice A (l.drop (64 * (l.length / 64))).length c) l.length) ∧ w'.ownsRow w.heap.size 5 1 (.slice A (l.drop (64 * (l.length / 64))).length c) (l.drop (64 * (l.length / 64))).length (bvals (l.drop (64 * (l.length / 64)))) ∧ w.grownBy w' (some g)
set_option maxRecDepth 100000 in
set_option maxHeartbeats 2000000 in
theorem sha_Write (w : World) (g : Nat) (l : List UInt8) (hl : l.length ≤ 1000000) (hT : Tbl w) (hg : Blk w g 135 (hcells firstH (.slice none 0 0) 0)) (hg0 : 0 < g) :
    Calls Tryd.prog 74 #[.pointer (some ⟨g, 0, none⟩), .string ⟨l.toArray⟩] w (WriteEnd w g l) := by
  have hb : Blk w g 135 #[.int .u32 1779033703, .int .u32 3144134277, .int .u32 1013904242, .int .u32 2773480762, .int .u32 1359893119, .int .u32 2600822924, .int .u32 528734635, .int .u32 1541459225, .slice none 0 0, .int .i64 0] := hg
  have hlt := hg.lt
  obtain ⟨i0, hi0, hz0, hz1, hz2⟩ := info_parts info_byte
  obtain ⟨⟨c0, c1, c2, c3, c4, c5, c6, c7, c8, c9⟩, ⟨f0, f1, f2, f3, f4, f5, f6, f7, f8, f9⟩⟩ := hfacts hb
  have hlen : (l.length : Int) ≤ 1000000 := by omega
  have HB := Lib.hid hb
  have HT := Lib.hid hT
  clear hg hb hT
  go_enter Tryd.func74, Tryd.ntmps74
  go_wp2_with fail
  have B1 : Hid (Blk (w.setCell ⟨g, 9, none⟩ (.int .i64 l.length)) g 135 #[.int .u32 1779033703, .int .u32 3144134277, .int .u32 1013904242, .int .u32 2773480762, .int .u32 1359893119, .int .u32 2600822924, .int .u32 528734635, .int .u32 1541459225, .slice none 0 0, .int .i64 l.length] ∧ w.grownBy (w.setCell ⟨g, 9, none⟩ (.int .i64 l.length)) (some g) ∧ (w.setCell ⟨g, 9, none⟩ (.int .i64 l.length)).heap.size = w.heap.size) := Lib.hid ⟨HB.out.set_ 9 _, grown_set0 (World.grownBy.refl _ _) _ _, World.size_setCell _ _ _⟩
  clear c0 c1 c2 c3 c4 c5 c6 c7 c8 c9 f0 f1 f2 f3 f4 f5 f6 f7 f8 f9
  generalize w.setCell ⟨g, 9, none⟩ (.int .i64 l.length) = W1 at B1 ⊢
  obtain ⟨⟨c0, c1, c2, c3, c4, c5, c6, c7, c8, c9⟩, ⟨f0, f1, f2, f3, f4, f5, f6, f7, f8, f9⟩⟩ := hfacts B1.out.1
  obtain ⟨u0, u1, u2, u3, u4, u5, u6, u7, hu⟩ := eight (hsW_length firstH l rfl (l.length / 64))
  have HU := Lib.hid hu
  have HC : Hid (∀ A3 c3 w3, Tbl w3 → l.length ≤ c3 → Reads w3 w3.heap.size 1 A3 l.length (bvals l) → Calls Tryd.prog 89 #[.agg #[.int .u32 1779033703, .int .u32 3144134277, .int .u32 1013904242, .int .u32 2773480762, .int .u32 1359893119, .int .u32 2600822924, .int .u32 528734635, .int .u32 1541459225], .slice A3 l.length c3] w3 fun e w' => ∃ v', e = .returned (.tuple #[.agg #[.int .u32 (u0.toNat : Int), .int .u32 (u1.toNat : Int), .int .u32 (u2.toNat : Int), .int .u32 (u3.toNat : Int), .int .u32 (u4.toNat : Int), .int .u32 (u5.toNat : Int), .int .u32 (u6.toNat : Int), .int .u32 (u7.toNat : Int)], v']) ∧ w'.ownsRow (w3.heap.size + 2) 5 1 v' (l.drop (64 * (l.length / 64))).length (bvals (l.drop (64 * (l.length / 64)))) ∧ Below w3.heap.size w3 w') := Lib.hid (fun A3 c3 w3 h1 h2 h3 => (sha_blocks firstH rfl l hl A3 c3 h2 w3 h1 h3).mono (by
    rintro e w' ⟨v', he, h4, h5⟩
    rw [hu] at he
    exact ⟨v', he, h4, h5⟩))
  have HT1 : Hid (∀ w3, W1.grownBy w3 none → Tbl w3) := Lib.hid (fun w3 h3 => by
    have h1 := HT.out.grown B1.out.2.1 hg0
    exact fun i hi => (World.cell?_of_block (h3.block 0 h1.pos (by simp))).trans (h1 i hi))
  have HA1 : Hid (0 + (ByteArray.mk l.toArray).size ≤ maxLen) := Lib.hid (by show 0 + l.toArray.size ≤ 9223372036854775807; simp; omega)
  have HA2 : Hid (0 + (ByteArray.mk l.toArray).size ≤ 140737488355328) := Lib.hid (by show 0 + l.toArray.size ≤ 140737488355328; simp; omega)
  have HP : Hid (∀ A c w', Blk w' g 135 #[.int .u32 (u0.toNat : Int), .int .u32 (u1.toNat : Int), .int .u32 (u2.toNat : Int), .int .u32 (u3.toNat : Int), .int .u32 (u4.toNat : Int), .int .u32 (u5.toNat : Int), .int .u32 (u6.toNat : Int), .int .u32 (u7.toNat : Int), .slice A (l.drop (64 * (l.length / 64))).length c, .int .i64 l.length] → w'.ownsRow w.heap.size 5 1 (.slice A (l.drop (64 * (l.length / 64))).length c) (l.drop (64 * (l.length / 64))).length (bvals (l.drop (64 * (l.length / 64)))) → w.grownBy w' (some g) → WriteEnd w g l (.returned (.tuple #[])) w') := Lib.hid (fun A c w' h1 h2 h3 => ⟨rfl, A, c, by rw [hu]; exact h1, h2, h3⟩)
  clear hu
  generalize WriteEnd w g l = PP at HP ⊢
  generalize (l.drop (64 * (l.length / 64))) = rest at *
  go_region_law (first | (refine step_append_str rfl _ _ 87 9 rfl W1.heap.size 5 i0 Tryd.underlying87 Tryd.underlying9 hi0 hz0 hz1 hz2 (.slice none 0 0) 0 [] rfl (World.ownsRow_nil _ _ _ _) ⟨l.toArray⟩ rfl HA1.out HA2.out (Nat.le_refl _) ?_; intro v3 w3 own3 hg3'; have hg3 : W1.grownBy w3 none := ⟨hg3'.os, hg3'.tape, hg3'.output, hg3'.size, hg3'.block⟩; have own3' : w3.ownsRow W1.heap.size 5 1 v3 l.length (bvals l) := (by simpa [ByteArray.size, Lib.strCells, bvals] using own3); have G3 := Lib.hid (And.intro hg3 own3'); obtain ⟨A3, c3', rfl, hr3, hcc3, _⟩ := own_form own3'; have R3 := Lib.hid (And.intro hr3 hcc3); obtain ⟨⟨c0, c1, c2, c3, c4, c5, c6, c7, c8, c9⟩, ⟨f0, f1, f2, f3, f4, f5, f6, f7, f8, f9⟩⟩ := hfacts (B1.out.1.grown hg3 (by simp)); clear own3 own3' hg3 hg3' hr3 hcc3) | (refine step_call rfl 89 #[.agg #[.int .u32 1779033703, .int .u32 3144134277, .int .u32 1013904242, .int .u32 2773480762, .int .u32 1359893119, .int .u32 2600822924, .int .u32 528734635, .int .u32 1541459225], .slice A3 l.length c3'] (by go_simp) _ (HC.out A3 c3' _ (HT1.out _ G3.out.1) R3.out.2 R3.out.1) ?_; rintro e w4 ⟨v4, rfl, own4, hb4⟩; refine ⟨_, rfl, ?_⟩; have G4 := Lib.hid (And.intro own4 hb4); obtain ⟨A4, c4', rfl, _, _, hge4⟩ := own_form own4; obtain ⟨⟨c0, c1, c2, c3, c4, c5, c6, c7, c8, c9⟩, ⟨f0, f1, f2, f3, f4, f5, f6, f7, f8, f9⟩⟩ := hfacts ((B1.out.1.grown G3.out.1 (by simp)).below hb4 (B1.out.1.grown G3.out.1 (by simp)).lt); have B4 := Lib.hid ((B1.out.1.grown G3.out.1 (by simp)).below hb4 (B1.out.1.grown G3.out.1 (by simp)).lt); have N4 : Hid (w.grownBy w4 (some g)) := Lib.hid (write_grown B1.out.2.1 G3.out.1 hb4); have L4 : Hid (w4.ownsRow w.heap.size 5 1 (.slice A4 rest.length c4') rest.length (bvals rest)) := Lib.hid (own_more own4 (by have := B1.out.2.2; have := G3.out.1.size; omega)); have N5 : Hid ((Value.slice A4 rest.length c4').ownBlock ≠ some g) := Lib.hid (fun e => by have := (own4.lt g e).1; have := B1.out.2.2; have := G3.out.1.size; omega); clear own4 hb4 hge4))
  all_goals go_wp2
  all_goals go_end0
  all_goals exact HP.out _ _ _ (set9 B4.out) (set9_own L4.out N5.out) (set9_grown N4.out)
end Go.Proofs.YtcjafcbekegmlaaDoor

namespace Go.Proofs.YtcjafcbekegmlaaDoor
set_option linter.unusedVariables false
open Go.RowKit Go.Instr
def padN (n : Nat) : Nat := (119 - n) % 64
theorem bvals_append (a b : List UInt8) : bvals (a ++ b) = bvals a ++ bvals b := by simp [bvals]
theorem rep_snoc (a : List UInt8) (j : Nat) : a ++ List.replicate (j + 1) (0 : UInt8) = (a ++ List.replicate j 0) ++ [0] := by
  rw [List.replicate_succ', List.append_assoc]
set_option maxRecDepth 100000 in
set_option maxHeartbeats 1000000 in
theorem pad_loop (l : List UInt8) (hl : l.length ≤ 64) (hl1 : 1 ≤ l.length) (w0 : World) (B : Nat) (A : Option Addr) (n c : Nat) (hn0 : n = l.length) (own : w0.ownsRow B 5 1 (.slice A n c) n (bvals l)) (hB : B ≤ w0.heap.size)
    (Q : Exit → Act → World → Prop) (p0 : Value)
    (hQ : ∀ (s1 s2 s4 s5 s6 s7 s8 s9 s10 s11 s12 s13 s14 s15 s16 s17 s18 s19 s20 s21 s22 s23 s24 s25 s26 s27 s28 s29 s30 s31 s32 s33 s34 s35 s36 s37 s38 s39 s40 s41 s42 s43 s44 s45 s46 s47 s48 s49 s50 s51 s52 : Value) (A' : Option Addr) (n' c' : Nat) (w2 : World), n' = (l ++ List.replicate (padN (l.length - 1)) 0).length → w2.ownsRow B 5 1 (.slice A' n' c') n' (bvals (l ++ List.replicate (padN (l.length - 1)) 0)) → Below B w0 w2 → Q (.exit 0) { tmps := #[p0, s1, s2, .slice A' n' c', s4, s5, s6, s7, s8, s9, s10, s11, s12, s13, s14, s15, s16, s17, s18, s19, s20, s21, s22, s23, s24, s25, s26, s27, s28, s29, s30, s31, s32, s33, s34, s35, s36, s37, s38, s39, s40, s41, s42, s43, s44, s45, s46, s47, s48, s49, s50, s51, s52], defers := [] } w2)
    (s1 s2 s4 s5 s6 s7 s8 s9 s10 s11 s12 s13 s14 s15 s16 s17 s18 s19 s20 s21 s22 s23 s24 s25 s26 s27 s28 s29 s30 s31 s32 s33 s34 s35 s36 s37 s38 s39 s40 s41 s42 s43 s44 s45 s46 s47 s48 s49 s50 s51 s52 : Value) :
    Code.wp Tryd.prog (.loop (loopAt Tryd.f75 0)) Q { tmps := #[p0, s1, s2, .slice A n c, s4, s5, s6, s7, s8, s9, s10, s11, s12, s13, s14, s15, s16, s17, s18, s19, s20, s21, s22, s23, s24, s25, s26, s27, s28, s29, s30, s31, s32, s33, s34, s35, s36, s37, s38, s39, s40, s41, s42, s43, s44, s45, s46, s47, s48, s49, s50, s51, s52], defers := [] } w0 := by
  subst hn0
  have HQ := Lib.hid hQ
  clear hQ
  have hZ : padN (l.length - 1) < 64 ∧ (l.length + padN (l.length - 1)) % 64 = 56 := by unfold padN; omega
  obtain ⟨hZ1, hZ2⟩ := hZ
  generalize padN (l.length - 1) = Z at *
  refine wp_loop_ghost_k (fun k a wr => ∀ Φ : Act → Prop, (∀ (s1 s2 s4 s5 s6 s7 s8 s9 s10 s11 s12 s13 s14 s15 s16 s17 s18 s19 s20 s21 s22 s23 s24 s25 s26 s27 s28 s29 s30 s31 s32 s33 s34 s35 s36 s37 s38 s39 s40 s41 s42 s43 s44 s45 s46 s47 s48 s49 s50 s51 s52 : Value) (j : Nat) (Ai : Option Addr) (ni ci : Nat), (j + k = Z ∧ ni = l.length + j ∧ wr.ownsRow B 5 1 (.slice Ai ni ci) ni (bvals (l ++ List.replicate j 0)) ∧ Below B w0 wr) → Φ { tmps := #[p0, s1, s2, .slice Ai ni ci, s4, s5, s6, s7, s8, s9, s10, s11, s12, s13, s14, s15, s16, s17, s18, s19, s20, s21, s22, s23, s24, s25, s26, s27, s28, s29, s30, s31, s32, s33, s34, s35, s36, s37, s38, s39, s40, s41, s42, s43, s44, s45, s46, s47, s48, s49, s50, s51, s52], defers := [] }) → Φ a) (Z) ?_ ?_
  · refine fun Φ hΦ => hΦ _ _ _ _ _ _ _ _ _ _ _ _ _ _ _ _ _ _ _ _ _ _ _ _ _ _ _ _ _ _ _ _ _ _ _ _ _ _ _ _ _ _ _ _ _ _ _ _ _ _ _ (0) (A) (l.length) (c) ?_
    exact ⟨by omega, rfl, by simpa using own, Below.refl _ _⟩
  · intro k1 a1 wr1 hI1 J1 K1 hJ1 hK1
    refine hI1 (fun a => Code.wp _ _ _ a _) ?_
    clear hI1 a1
    intro s0 s1 s2 s3 s4 s5 s6 s7 s8 s9 s10 s11 s12 s13 s14 s15 s16 s17 s18 s19 s20 s21 s22 s23 s24 s25 s26 s27 s28 s29 s30 s31 s32 s33 s34 s35 s36 s37 s38 s39 s40 s41 s42 s43 s44 s45 s46 s47 s48 s49 s50 j Ai ni ci hrel
    show Code.wp _ _ _ _ _
    conv => arg 2; whnf
    obtain ⟨h1, hn, ho, hb⟩ := hrel
    by_cases hj : j < Z
    · have m1 : ((ni : Int) % 64 == 56) = false := by
        rw [beq_eq_false_iff_ne]
        omega
      have m2 : ((ni : Int) % 64 != 56) = true := by
        rw [bne_iff_ne]
        omega
      have hns : ni ≤ 200 := by omega
      have E := Lib.hid (rep_snoc l j)
      have H := Lib.hid (And.intro h1 (And.intro hn (And.intro ho (And.intro hb hj))))
      have hwr : B ≤ wr1.heap.size := Nat.le_trans hB hb.size
      clear h1 hn ho hb hj hZ1 hZ2
      go_wp2_with (at_builtin; refine wpList_append_new wr1 5 [.int .u8 0] rfl _ _ 87 rfl B 1 1 _ info_byte Tryd.underlying87 rfl (by decide) (.slice Ai ni ci) ni _ rfl H.out.2.2.1 1 1 rfl rfl (by simp [Value.oneCell']) (by simp only [maxLen]; omega) (by omega) B w0 H.out.2.2.2.1 (Nat.le_refl _) hwr ?_; intro v4 w4 own4 hb4 hg4 ho4 hs4; obtain ⟨A4, c4, rfl, _, _, _⟩ := own_form own4; have G4 := Lib.hid (And.intro own4 hb4); clear own4 hb4 hg4 ho4 hs4)
      refine Handed.intro (Z - (j + 1)) ?_ (hJ1 _ _ _ (fun Φ hΦ => hΦ _ _ _ _ _ _ _ _ _ _ _ _ _ _ _ _ _ _ _ _ _ _ _ _ _ _ _ _ _ _ _ _ _ _ _ _ _ _ _ _ _ _ _ _ _ _ _ _ _ _ _ (j + 1) (A4) (ni + 1) (c4) ?_))
      · have := H.out
        show Z - (j + 1) < k1
        omega
      · obtain ⟨h1, hn, ho, hb, hj⟩ := H.out
        have o4 := G4.out.1
        have e : bvals (l ++ List.replicate j 0) ++ [.int .u8 0] = bvals (l ++ List.replicate (j + 1) 0) := by rw [E.out, bvals_append (l ++ List.replicate j 0) [0]]; rfl
        rw [e] at o4
        exact ⟨by omega, by omega, o4, G4.out.2⟩
    · have ej : j = Z := by omega
      subst ej
      have m1 : ((ni : Int) % 64 == 56) = true := by
        rw [beq_iff_eq]
        omega
      have m2 : ((ni : Int) % 64 != 56) = false := by
        rw [bne_eq_false_iff_eq]
        omega
      have H := Lib.hid (And.intro hn (And.intro ho hb))
      clear h1 hn ho hb
      go_wp2
      refine HQ.out _ _ _ _ _ _ _ _ _ _ _ _ _ _ _ _ _ _ _ _ _ _ _ _ _ _ _ _ _ _ _ _ _ _ _ _ _ _ _ _ _ _ _ _ _ _ _ _ _ _ _ _ _ _ _ ?_ H.out.2.1 H.out.2.2
      rw [List.length_append, List.length_replicate]
      exact H.out.1
end Go.Proofs.YtcjafcbekegmlaaDoor

namespace Go.Proofs.YtcjafcbekegmlaaDoor
set_option linter.unusedVariables false
open Go.RowKit Go.Instr
def bb (m i : Nat) : UInt8 := UInt8.ofNat (8 * m / 2 ^ (56 - 8 * i))
def bitsB (m i : Nat) : List UInt8 := (List.range i).map (bb m)
theorem bitsB_succ (m i : Nat) : bitsB m (i + 1) = bitsB m i ++ [bb m i] := by simp [bitsB, List.range_succ]
theorem bitsB_length (m i : Nat) : (bitsB m i).length = i := by simp [bitsB]
theorem u8_wrap_nat (x : Nat) : IntKind.u8.wrap (x : Int) = ((UInt8.ofNat x).toNat : Int) := by
  simp [IntKind.wrap, IntKind.bits, IntKind.signed]
theorem u8_div_small (M D : Nat) (h : M / D < 256) : (M : Int) / (D : Int) = ((UInt8.ofNat (M / D)).toNat : Int) := by
  rw [UInt8.toNat_ofNat', Nat.mod_eq_of_lt (by simpa using h)]
  simp
set_option maxRecDepth 100000 in
set_option maxHeartbeats 2000000 in
theorem bits_loop (l : List UInt8) (hl : l.length ≤ 1000000) (m : Nat) (hm : m ≤ 1000000) (X : Int) (hX : X = ((8 * m : Nat) : Int)) (w0 : World) (B : Nat) (A : Option Addr) (n c : Nat) (hn0 : n = l.length) (own : w0.ownsRow B 5 1 (.slice A n c) n (bvals l)) (hB : B ≤ w0.heap.size)
    (Q : Exit → Act → World → Prop) (p0 : Value)
    (hQ : ∀ (s1 s2 s4 s5 s6 s7 s8 s9 s10 s11 s12 s13 s14 s15 s16 s17 s18 s19 s20 s21 s22 s23 s24 s25 s26 s27 s28 s29 s30 s31 s32 s33 s34 s35 s36 s37 s38 s39 s40 s41 s42 s43 s44 s45 s46 s47 s48 s49 s50 s51 s52 : Value) (A' : Option Addr) (n' c' : Nat) (w2 : World), n' = (l ++ bitsB m 8).length → w2.ownsRow B 5 1 (.slice A' n' c') n' (bvals (l ++ bitsB m 8)) → Below B w0 w2 → Q (.exit 2) { tmps := #[p0, s1, s2, .slice A' n' c', s4, s5, s6, s7, s8, s9, s10, s11, s12, s13, s14, s15, s16, s17, s18, s19, s20, s21, s22, s23, s24, s25, s26, s27, s28, s29, s30, s31, s32, s33, s34, s35, s36, s37, s38, s39, s40, s41, s42, s43, s44, s45, s46, s47, s48, s49, s50, s51, s52], defers := [] } w2)
    (s1 s2 s5 s6 s7 s8 s9 s10 s11 s12 s13 s14 s15 s16 s17 s18 s19 s20 s21 s22 s23 s24 s25 s26 s27 s28 s30 s31 s32 s33 s34 s35 s36 s37 s38 s39 s40 s41 s42 s43 s44 s45 s46 s47 s48 s49 s50 s51 s52 : Value) :
    Code.wp Tryd.prog (.loop (loopAt Tryd.f75 1)) Q { tmps := #[p0, s1, s2, .slice A n c, .int .u64 X, s5, s6, s7, s8, s9, s10, s11, s12, s13, s14, s15, s16, s17, s18, s19, s20, s21, s22, s23, s24, s25, s26, s27, s28, .int .i64 0, s30, s31, s32, s33, s34, s35, s36, s37, s38, s39, s40, s41, s42, s43, s44, s45, s46, s47, s48, s49, s50, s51, s52], defers := [] } w0 := by
  subst hX
  have HQ := Lib.hid hQ
  clear hQ
  obtain ⟨M, hM⟩ : ∃ M, M = 8 * m := ⟨_, rfl⟩
  rw [← hM]
  refine wp_loop_ghost_k (fun k a wr => ∀ Φ : Act → Prop, (∀ (s1 s2 s5 s6 s7 s8 s9 s10 s11 s12 s13 s14 s15 s16 s17 s18 s19 s20 s21 s22 s23 s24 s25 s26 s27 s28 s30 s31 s32 s33 s34 s35 s36 s37 s38 s39 s40 s41 s42 s43 s44 s45 s46 s47 s48 s49 s50 s51 s52 : Value) (i : Nat) (Ai : Option Addr) (ni ci : Nat), (i + k = 8 ∧ ni = l.length + i ∧ wr.ownsRow B 5 1 (.slice Ai ni ci) ni (bvals (l ++ bitsB m i)) ∧ Below B w0 wr) → Φ { tmps := #[p0, s1, s2, .slice Ai ni ci, .int .u64 (M : Int), s5, s6, s7, s8, s9, s10, s11, s12, s13, s14, s15, s16, s17, s18, s19, s20, s21, s22, s23, s24, s25, s26, s27, s28, .int .i64 i, s30, s31, s32, s33, s34, s35, s36, s37, s38, s39, s40, s41, s42, s43, s44, s45, s46, s47, s48, s49, s50, s51, s52], defers := [] }) → Φ a) (8) ?_ ?_
  · refine fun Φ hΦ => hΦ _ _ _ _ _ _ _ _ _ _ _ _ _ _ _ _ _ _ _ _ _ _ _ _ _ _ _ _ _ _ _ _ _ _ _ _ _ _ _ _ _ _ _ _ _ _ _ _ _ (0) (A) (n) (c) ?_
    exact ⟨by omega, hn0, by simpa [bitsB] using own, Below.refl _ _⟩
  · intro k1 a1 wr1 hI1 J1 K1 hJ1 hK1
    refine hI1 (fun a => Code.wp _ _ _ a _) ?_
    clear hI1 a1
    intro s0 s1 s2 s3 s4 s5 s6 s7 s8 s9 s10 s11 s12 s13 s14 s15 s16 s17 s18 s19 s20 s21 s22 s23 s24 s25 s26 s27 s28 s29 s30 s31 s32 s33 s34 s35 s36 s37 s38 s39 s40 s41 s42 s43 s44 s45 s46 s47 s48 i Ai ni ci hrel
    show Code.wp _ _ _ _ _
    conv => arg 2; whnf
    obtain ⟨h1, hn, ho, hb⟩ := hrel
    by_cases hi : i < 8
    · have hns : ni ≤ 2000000 := by omega
      have hM1 : (M : Int) ≤ 8000000 := by omega
      have hM0 : 0 ≤ (M : Int) := by omega
      have E : Hid (bitsB m (i + 1) = bitsB m i ++ [bb m i] ∧ bb m i = UInt8.ofNat (M / 2 ^ (56 - 8 * i))) := Lib.hid ⟨bitsB_succ m i, by rw [hM]; rfl⟩
      have H := Lib.hid (And.intro h1 (And.intro hn (And.intro ho (And.intro hb hi))))
      have hwr : B ≤ wr1.heap.size := Nat.le_trans hB hb.size
      have hc : i = 0 ∨ i = 1 ∨ i = 2 ∨ i = 3 ∨ i = 4 ∨ i = 5 ∨ i = 6 ∨ i = 7 := by omega
      clear h1 hn ho hb hM
      rcases hc with rfl | rfl | rfl | rfl | rfl | rfl | rfl | rfl
      · have X : Hid (Value.int .u8 ((M : Int) / 72057594037927936) = .int .u8 ((bb m 0).toNat : Int)) := Lib.hid (by
          rw [E.out.2]
          exact congrArg (Value.int .u8) (u8_div_small M 72057594037927936 (by omega)))
        go_wp2_with (at_builtin; refine wpList_append_new wr1 5 [.int .u8 ((M : Int) / 72057594037927936)] rfl _ _ 87 rfl B 1 1 _ info_byte Tryd.underlying87 rfl (by decide) (.slice Ai ni ci) ni _ rfl H.out.2.2.1 1 1 rfl rfl (by simp [Value.oneCell']) (by simp only [maxLen]; omega) (by omega) B w0 H.out.2.2.2.1 (Nat.le_refl _) hwr ?_; intro v4 w4 own4 hb4 hg4 ho4 hs4; obtain ⟨A4, c4, rfl, _, _, _⟩ := own_form own4; have G4 := Lib.hid (And.intro own4 hb4); clear own4 hb4 hg4 ho4 hs4)
        refine Handed.intro (8 - (0 + 1)) ?_ (hJ1 _ _ _ (fun Φ hΦ => hΦ _ _ _ _ _ _ _ _ _ _ _ _ _ _ _ _ _ _ _ _ _ _ _ _ _ _ _ _ _ _ _ _ _ _ _ _ _ _ _ _ _ _ _ _ _ _ _ _ _ (0 + 1) (A4) (ni + 1) (c4) ?_))
        · have := H.out
          show 8 - (0 + 1) < k1
          omega
        · obtain ⟨h1, hn, ho, hb, hj⟩ := H.out
          have o4 := G4.out.1
          rw [X.out] at o4
          have e : bvals (l ++ bitsB m 0) ++ [.int .u8 ((bb m 0).toNat : Int)] = bvals (l ++ bitsB m (0 + 1)) := by rw [E.out.1, ← List.append_assoc, bvals_append (l ++ bitsB m 0) [bb m 0]]; rfl
          rw [e] at o4
          exact ⟨by omega, by omega, o4, G4.out.2⟩
      · have X : Hid (Value.int .u8 ((M : Int) / 281474976710656) = .int .u8 ((bb m 1).toNat : Int)) := Lib.hid (by
          rw [E.out.2]
          exact congrArg (Value.int .u8) (u8_div_small M 281474976710656 (by omega)))
        go_wp2_with (at_builtin; refine wpList_append_new wr1 5 [.int .u8 ((M : Int) / 281474976710656)] rfl _ _ 87 rfl B 1 1 _ info_byte Tryd.underlying87 rfl (by decide) (.slice Ai ni ci) ni _ rfl H.out.2.2.1 1 1 rfl rfl (by simp [Value.oneCell']) (by simp only [maxLen]; omega) (by omega) B w0 H.out.2.2.2.1 (Nat.le_refl _) hwr ?_; intro v4 w4 own4 hb4 hg4 ho4 hs4; obtain ⟨A4, c4, rfl, _, _, _⟩ := own_form own4; have G4 := Lib.hid (And.intro own4 hb4); clear own4 hb4 hg4 ho4 hs4)
        refine Handed.intro (8 - (1 + 1)) ?_ (hJ1 _ _ _ (fun Φ hΦ => hΦ _ _ _ _ _ _ _ _ _ _ _ _ _ _ _ _ _ _ _ _ _ _ _ _ _ _ _ _ _ _ _ _ _ _ _ _ _ _ _ _ _ _ _ _ _ _ _ _ _ (1 + 1) (A4) (ni + 1) (c4) ?_))
        · have := H.out
          show 8 - (1 + 1) < k1
          omega
        · obtain ⟨h1, hn, ho, hb, hj⟩ := H.out
          have o4 := G4.out.1
          rw [X.out] at o4
          have e : bvals (l ++ bitsB m 1) ++ [.int .u8 ((bb m 1).toNat : Int)] = bvals (l ++ bitsB m (1 + 1)) := by rw [E.out.1, ← List.append_assoc, bvals_append (l ++ bitsB m 1) [bb m 1]]; rfl
          rw [e] at o4
          exact ⟨by omega, by omega, o4, G4.out.2⟩
      · have X : Hid (Value.int .u8 ((M : Int) / 1099511627776) = .int .u8 ((bb m 2).toNat : Int)) := Lib.hid (by
          rw [E.out.2]
          exact congrArg (Value.int .u8) (u8_div_small M 1099511627776 (by omega)))
        go_wp2_with (at_builtin; refine wpList_append_new wr1 5 [.int .u8 ((M : Int) / 1099511627776)] rfl _ _ 87 rfl B 1 1 _ info_byte Tryd.underlying87 rfl (by decide) (.slice Ai ni ci) ni _ rfl H.out.2.2.1 1 1 rfl rfl (by simp [Value.oneCell']) (by simp only [maxLen]; omega) (by omega) B w0 H.out.2.2.2.1 (Nat.le_refl _) hwr ?_; intro v4 w4 own4 hb4 hg4 ho4 hs4; obtain ⟨A4, c4, rfl, _, _, _⟩ := own_form own4; have G4 := Lib.hid (And.intro own4 hb4); clear own4 hb4 hg4 ho4 hs4)
        refine Handed.intro (8 - (2 + 1)) ?_ (hJ1 _ _ _ (fun Φ hΦ => hΦ _ _ _ _ _ _ _ _ _ _ _ _ _ _ _ _ _ _ _ _ _ _ _ _ _ _ _ _ _ _ _ _ _ _ _ _ _ _ _ _ _ _ _ _ _ _ _ _ _ (2 + 1) (A4) (ni + 1) (c4) ?_))
        · have := H.out
          show 8 - (2 + 1) < k1
          omega
        · obtain ⟨h1, hn, ho, hb, hj⟩ := H.out
          have o4 := G4.out.1
          rw [X.out] at o4
          have e : bvals (l ++ bitsB m 2) ++ [.int .u8 ((bb m 2).toNat : Int)] = bvals (l ++ bitsB m (2 + 1)) := by rw [E.out.1, ← List.append_assoc, bvals_append (l ++ bitsB m 2) [bb m 2]]; rfl
          rw [e] at o4
          exact ⟨by omega, by omega, o4, G4.out.2⟩
      · have X : Hid (Value.int .u8 ((M : Int) / 4294967296) = .int .u8 ((bb m 3).toNat : Int)) := Lib.hid (by
          rw [E.out.2]
          exact congrArg (Value.int .u8) (u8_div_small M 4294967296 (by omega)))
        go_wp2_with (at_builtin; refine wpList_append_new wr1 5 [.int .u8 ((M : Int) / 4294967296)] rfl _ _ 87 rfl B 1 1 _ info_byte Tryd.underlying87 rfl (by decide) (.slice Ai ni ci) ni _ rfl H.out.2.2.1 1 1 rfl rfl (by simp [Value.oneCell']) (by simp only [maxLen]; omega) (by omega) B w0 H.out.2.2.2.1 (Nat.le_refl _) hwr ?_; intro v4 w4 own4 hb4 hg4 ho4 hs4; obtain ⟨A4, c4, rfl, _, _, _⟩ := own_form own4; have G4 := Lib.hid (And.intro own4 hb4); clear own4 hb4 hg4 ho4 hs4)
        refine Handed.intro (8 - (3 + 1)) ?_ (hJ1 _ _ _ (fun Φ hΦ => hΦ _ _ _ _ _ _ _ _ _ _ _ _ _ _ _ _ _ _ _ _ _ _ _ _ _ _ _ _ _ _ _ _ _ _ _ _ _ _ _ _ _ _ _ _ _ _ _ _ _ (3 + 1) (A4) (ni + 1) (c4) ?_))
        · have := H.out
          show 8 - (3 + 1) < k1
          omega
        · obtain ⟨h1, hn, ho, hb, hj⟩ := H.out
          have o4 := G4.out.1
          rw [X.out] at o4
          have e : bvals (l ++ bitsB m 3) ++ [.int .u8 ((bb m 3).toNat : Int)] = bvals (l ++ bitsB m (3 + 1)) := by rw [E.out.1, ← List.append_assoc, bvals_append (l ++ bitsB m 3) [bb m 3]]; rfl
          rw [e] at o4
          exact ⟨by omega, by omega, o4, G4.out.2⟩
      · have X : Hid (Value.int .u8 ((M : Int) / 16777216) = .int .u8 ((bb m 4).toNat : Int)) := Lib.hid (by
          rw [E.out.2]
          exact congrArg (Value.int .u8) (u8_div_small M 16777216 (by omega)))
        go_wp2_with (at_builtin; refine wpList_append_new wr1 5 [.int .u8 ((M : Int) / 16777216)] rfl _ _ 87 rfl B 1 1 _ info_byte Tryd.underlying87 rfl (by decide) (.slice Ai ni ci) ni _ rfl H.out.2.2.1 1 1 rfl rfl (by simp [Value.oneCell']) (by simp only [maxLen]; omega) (by omega) B w0 H.out.2.2.2.1 (Nat.le_refl _) hwr ?_; intro v4 w4 own4 hb4 hg4 ho4 hs4; obtain ⟨A4, c4, rfl, _, _, _⟩ := own_form own4; have G4 := Lib.hid (And.intro own4 hb4); clear own4 hb4 hg4 ho4 hs4)
        refine Handed.intro (8 - (4 + 1)) ?_ (hJ1 _ _ _ (fun Φ hΦ => hΦ _ _ _ _ _ _ _ _ _ _ _ _ _ _ _ _ _ _ _ _ _ _ _ _ _ _ _ _ _ _ _ _ _ _ _ _ _ _ _ _ _ _ _ _ _ _ _ _ _ (4 + 1) (A4) (ni + 1) (c4) ?_))
        · have := H.out
          show 8 - (4 + 1) < k1
          omega
        · obtain ⟨h1, hn, ho, hb, hj⟩ := H.out
          have o4 := G4.out.1
          rw [X.out] at o4
          have e : bvals (l ++ bitsB m 4) ++ [.int .u8 ((bb m 4).toNat : Int)] = bvals (l ++ bitsB m (4 + 1)) := by rw [E.out.1, ← List.append_assoc, bvals_append (l ++ bitsB m 4) [bb m 4]]; rfl
          rw [e] at o4
          exact ⟨by omega, by omega, o4, G4.out.2⟩
      · have X : Hid (Value.int .u8 ((M : Int) / 65536) = .int .u8 ((bb m 5).toNat : Int)) := Lib.hid (by
          rw [E.out.2]
          exact congrArg (Value.int .u8) (u8_div_small M 65536 (by omega)))
        go_wp2_with (at_builtin; refine wpList_append_new wr1 5 [.int .u8 ((M : Int) / 65536)] rfl _ _ 87 rfl B 1 1 _ info_byte Tryd.underlying87 rfl (by decide) (.slice Ai ni ci) ni _ rfl H.out.2.2.1 1 1 rfl rfl (by simp [Value.oneCell']) (by simp only [maxLen]; omega) (by omega) B w0 H.out.2.2.2.1 (Nat.le_refl _) hwr ?_; intro v4 w4 own4 hb4 hg4 ho4 hs4; obtain ⟨A4, c4, rfl, _, _, _⟩ := own_form own4; have G4 := Lib.hid (And.intro own4 hb4); clear own4 hb4 hg4 ho4 hs4)
        refine Handed.intro (8 - (5 + 1)) ?_ (hJ1 _ _ _ (fun Φ hΦ => hΦ _ _ _ _ _ _ _ _ _ _ _ _ _ _ _ _ _ _ _ _ _ _ _ _ _ _ _ _ _ _ _ _ _ _ _ _ _ _ _ _ _ _ _ _ _ _ _ _ _ (5 + 1) (A4) (ni + 1) (c4) ?_))
        · have := H.out
          show 8 - (5 + 1) < k1
          omega
        · obtain ⟨h1, hn, ho, hb, hj⟩ := H.out
          have o4 := G4.out.1
          rw [X.out] at o4
          have e : bvals (l ++ bitsB m 5) ++ [.int .u8 ((bb m 5).toNat : Int)] = bvals (l ++ bitsB m (5 + 1)) := by rw [E.out.1, ← List.append_assoc, bvals_append (l ++ bitsB m 5) [bb m 5]]; rfl
          rw [e] at o4
          exact ⟨by omega, by omega, o4, G4.out.2⟩
      · have X : Hid (Value.int .u8 (IntKind.u8.wrap ((M : Int) / 256)) = .int .u8 ((bb m 6).toNat : Int)) := Lib.hid (by
          rw [E.out.2]
          exact congrArg (Value.int .u8) ((by rw [← u8_wrap_nat]; simp)))
        go_wp2_with (at_builtin; refine wpList_append_new wr1 5 [.int .u8 (IntKind.u8.wrap ((M : Int) / 256))] rfl _ _ 87 rfl B 1 1 _ info_byte Tryd.underlying87 rfl (by decide) (.slice Ai ni ci) ni _ rfl H.out.2.2.1 1 1 rfl rfl (by simp [Value.oneCell']) (by simp only [maxLen]; omega) (by omega) B w0 H.out.2.2.2.1 (Nat.le_refl _) hwr ?_; intro v4 w4 own4 hb4 hg4 ho4 hs4; obtain ⟨A4, c4, rfl, _, _, _⟩ := own_form own4; have G4 := Lib.hid (And.intro own4 hb4); clear own4 hb4 hg4 ho4 hs4)
        refine Handed.intro (8 - (6 + 1)) ?_ (hJ1 _ _ _ (fun Φ hΦ => hΦ _ _ _ _ _ _ _ _ _ _ _ _ _ _ _ _ _ _ _ _ _ _ _ _ _ _ _ _ _ _ _ _ _ _ _ _ _ _ _ _ _ _ _ _ _ _ _ _ _ (6 + 1) (A4) (ni + 1) (c4) ?_))
        · have := H.out
          show 8 - (6 + 1) < k1
          omega
        · obtain ⟨h1, hn, ho, hb, hj⟩ := H.out
          have o4 := G4.out.1
          rw [X.out] at o4
          have e : bvals (l ++ bitsB m 6) ++ [.int .u8 ((bb m 6).toNat : Int)] = bvals (l ++ bitsB m (6 + 1)) := by rw [E.out.1, ← List.append_assoc, bvals_append (l ++ bitsB m 6) [bb m 6]]; rfl
          rw [e] at o4
          exact ⟨by omega, by omega, o4, G4.out.2⟩
      · have X : Hid (Value.int .u8 (IntKind.u8.wrap (M : Int)) = .int .u8 ((bb m 7).toNat : Int)) := Lib.hid (by
          rw [E.out.2]
          exact congrArg (Value.int .u8) ((by rw [← u8_wrap_nat]; simp)))
        go_wp2_with (at_builtin; refine wpList_append_new wr1 5 [.int .u8 (IntKind.u8.wrap (M : Int))] rfl _ _ 87 rfl B 1 1 _ info_byte Tryd.underlying87 rfl (by decide) (.slice Ai ni ci) ni _ rfl H.out.2.2.1 1 1 rfl rfl (by simp [Value.oneCell']) (by simp only [maxLen]; omega) (by omega) B w0 H.out.2.2.2.1 (Nat.le_refl _) hwr ?_; intro v4 w4 own4 hb4 hg4 ho4 hs4; obtain ⟨A4, c4, rfl, _, _, _⟩ := own_form own4; have G4 := Lib.hid (And.intro own4 hb4); clear own4 hb4 hg4 ho4 hs4)
        refine Handed.intro (8 - (7 + 1)) ?_ (hJ1 _ _ _ (fun Φ hΦ => hΦ _ _ _ _ _ _ _ _ _ _ _ _ _ _ _ _ _ _ _ _ _ _ _ _ _ _ _ _ _ _ _ _ _ _ _ _ _ _ _ _ _ _ _ _ _ _ _ _ _ (7 + 1) (A4) (ni + 1) (c4) ?_))
        · have := H.out
          show 8 - (7 + 1) < k1
          omega
        · obtain ⟨h1, hn, ho, hb, hj⟩ := H.out
          have o4 := G4.out.1
          rw [X.out] at o4
          have e : bvals (l ++ bitsB m 7) ++ [.int .u8 ((bb m 7).toNat : Int)] = bvals (l ++ bitsB m (7 + 1)) := by rw [E.out.1, ← List.append_assoc, bvals_append (l ++ bitsB m 7) [bb m 7]]; rfl
          rw [e] at o4
          exact ⟨by omega, by omega, o4, G4.out.2⟩
    · have ei : i = 8 := by omega
      subst ei
      have H := Lib.hid (And.intro hn (And.intro ho hb))
      clear h1 hn ho hb
      go_wp2
      refine HQ.out _ _ _ _ _ _ _ _ _ _ _ _ _ _ _ _ _ _ _ _ _ _ _ _ _ _ _ _ _ _ _ _ _ _ _ _ _ _ _ _ _ _ _ _ _ _ _ _ _ _ _ _ _ _ _ ?_ H.out.2.1 H.out.2.2
      rw [List.length_append, bitsB_length]
      exact H.out.1
end Go.Proofs.YtcjafcbekegmlaaDoor
