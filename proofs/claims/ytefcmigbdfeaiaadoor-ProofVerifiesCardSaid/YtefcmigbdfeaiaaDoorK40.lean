import Derived.Test.YtefcmigbdfeaiaaDoorK31
import Derived.Test.YtefcmigbdfeaiaaDoorK12
import Derived.Test.YtefcmigbdfeaiaaDoorK24
import Derived.Test.YtefcmigbdfeaiaaDoorK01
set_option linter.unusedSimpArgs false
set_option linter.unusedVariables false
namespace Go.Proofs.YtefcmigbdfeaiaaDoor
set_option linter.unusedVariables false
open Go.RowKit Go.Instr
attribute [local go_sem] ba_get ByteArray.mk_append_mk
set_option maxRecDepth 100000 in
set_option maxHeartbeats 1000000 in
theorem ref02_RBytes (w : World) (g : Nat) (s : List UInt8 × Nat) (h : RRd w g s) (n : Nat) (hn : n ≤ 1000) :
    Calls Tryd.prog 121 #[.pointer (some ⟨g, 0, none⟩), .int .i64 (n : Int)] w (RRdEnd w g (.string ⟨(bytesS s n).1.toArray⟩) (bytesS s n).2) := by
  obtain ⟨l, c⟩ := s
  obtain ⟨hB, hl⟩ := h
  simp only at hB hl
  have HP : Hid (∀ (t : List UInt8) s' w', bytesS (l, c) n = (t, s') → RRd w' g s' → w.grownBy w' (some g) → RRdEnd w g (.string ⟨(bytesS (l, c) n).1.toArray⟩) (bytesS (l, c) n).2 (.returned (.string ⟨t.toArray⟩)) w') := Lib.hid (fun n s' w' e h1 h2 => by rw [e]; exact ⟨rfl, h1, h2⟩)
  have HX : Hid (bytesS (l, c) n = if c ≠ 0 then ([], (l, c)) else if n ≤ l.length then (l.take n, (l.drop n, 0)) else ([], (l, 20))) := Lib.hid rfl
  generalize RRdEnd w g (.string ⟨(bytesS (l, c) n).1.toArray⟩) (bytesS (l, c) n).2 = P at HP ⊢
  generalize bytesS (l, c) n = X at *
  have c0 : w.cell? ⟨g, 0, none⟩ = some (.string ⟨l.toArray⟩) := hB.cell 0
  have c1 : w.cell? ⟨g, 1, none⟩ = some (.int .i64 (c : Int)) := hB.cell 1
  have f0 : w.frozen? ⟨g, 0, none⟩ = false := hB.frozen 0
  have f1 : w.frozen? ⟨g, 1, none⟩ = false := hB.frozen 1
  have HB := Lib.hid hB
  have HL := Lib.hid hl
  have hn0 : ((n : Int) < 0) = False := by simp
  by_cases hc : c = 0
  · subst hc
    by_cases hle : n ≤ l.length
    · have HE : Hid (X = (l.take n, (l.drop n, 0))) := Lib.hid (by rw [HX.out, if_neg (by simp), if_pos hle])
      have h1 : ((l.length : Int) < (n : Int)) = False := by simp; omega
      have t1 := run_take l n (by omega)
      have t2 := run_drop l n (by omega)
      have HLn : Hid ((l.drop n).length ≤ 1000000) := Lib.hid (by rw [List.length_drop]; omega)
      clear hB hl hle HX
      generalize l.take n = t at *
      generalize l.drop n = d at *
      go_enter Tryd.func121, Tryd.ntmps121
      go_wp2
      exact HP.out _ _ _ HE.out ⟨HB.out.set_ 0 (.string ⟨d.toArray⟩), HLn.out⟩ (grown_set0 (World.grownBy.refl _ _) _ _)
    · have HE : Hid (X = ([], (l, 20))) := Lib.hid (by rw [HX.out, if_neg (by simp), if_neg hle])
      have h1 : (l.length : Int) < (n : Int) := by omega
      clear hB hl hle HX
      go_enter Tryd.func121, Tryd.ntmps121
      go_wp2
      exact HP.out _ _ _ HE.out ⟨HB.out.set_ 1 (.int .i64 20), HL.out⟩ (grown_set0 (World.grownBy.refl _ _) _ _)
  · have HE : Hid (X = ([], (l, c))) := Lib.hid (by rw [HX.out, if_pos hc])
    have hc1 : ((c : Int) != 0) = true := by simp; exact hc
    clear hB hl hc HX
    go_enter Tryd.func121, Tryd.ntmps121
    go_wp2
    exact HP.out _ _ _ HE.out ⟨HB.out, HL.out⟩ (World.grownBy.refl _ _)
end Go.Proofs.YtefcmigbdfeaiaaDoor

namespace Go.Proofs.YtefcmigbdfeaiaaDoor
set_option linter.unusedVariables false
open Go.RowKit Go.Instr
attribute [local go_sem] ba_get ByteArray.mk_append_mk
theorem RRd.lt {w : World} {g : Nat} {s : List UInt8 × Nat} (h : RRd w g s) : g < w.heap.size := h.1.lt
theorem RRd.below {w w' : World} {g : Nat} {s : List UInt8 × Nat} (h : RRd w g s) (hb : Below w.heap.size w w') : RRd w' g s := ⟨h.1.below hb h.1.lt, h.2⟩
theorem RRd.grown {w w' : World} {g : Nat} {s : List UInt8 × Nat} {row : Option Nat} (h : RRd w g s) (hg : w.grownBy w' row) (hne : some g ≠ row) : RRd w' g s := ⟨h.1.grown hg hne, h.2⟩
structure RRdNd (w0 w : World) (g nb : Nat) (s : List UInt8 × Nat) (n : Nd) : Prop where
  rd : RRd w g s
  nd : Blk w nb 91 (nodeV n.1 n.2.1 n.2.2.1 n.2.2.2).toArray
  ne : g ≠ nb
  g0 : w0.heap.size ≤ g
  n0 : w0.heap.size ≤ nb
  b : Below w0.heap.size w0 w
theorem RRdNd.read {w0 w w' : World} {g nb : Nat} {s s' : List UInt8 × Nat} {n : Nd} (h : RRdNd w0 w g nb s n) (hr : RRd w' g s') (hg : w.grownBy w' (some g)) : RRdNd w0 w' g nb s' n :=
  ⟨hr, h.nd.grown hg (fun e => h.ne (by injection e with e; exact e.symm)), h.ne, h.g0, h.n0, h.b.grown hg h.b.size (fun k e => by injection e with e; subst e; exact h.g0)⟩
theorem RRdNd.below {w0 w w' : World} {g nb : Nat} {s : List UInt8 × Nat} {n : Nd} (h : RRdNd w0 w g nb s n) (hb : Below w.heap.size w w') : RRdNd w0 w' g nb s n :=
  ⟨h.rd.below hb, h.nd.below hb h.nd.lt, h.ne, h.g0, h.n0, h.b.nxt hb⟩
theorem RRdNd.drew {w0 w : World} {g nb : Nat} {s : List UInt8 × Nat} {n : Nd} (h : RRdNd w0 w g nb s n) : RRdNd w0 w.drew g nb s n := ⟨h.rd, h.nd, h.ne, h.g0, h.n0, h.b.drew⟩
theorem RRdNd.drewN {w0 w : World} {g nb : Nat} {s : List UInt8 × Nat} {n : Nd} (h : RRdNd w0 w g nb s n) (m : Nat) : RRdNd w0 (w.drewN m) g nb s n := ⟨h.rd, h.nd, h.ne, h.g0, h.n0, below_drewN h.b m⟩
theorem RRdNd.write {w0 w : World} {g nb : Nat} {s : List UInt8 × Nat} {n m : Nd} (h : RRdNd w0 w g nb s n) (i : Nat) (u : Value) (hm : (nodeV n.1 n.2.1 n.2.2.1 n.2.2.2).toArray.setIfInBounds i u = (nodeV m.1 m.2.1 m.2.2.1 m.2.2.2).toArray) : RRdNd w0 (w.setCell ⟨nb, i, none⟩ u) g nb s m := by
  refine ⟨h.rd.grown (row := some nb) ?_ (fun e => h.ne (by injection e)), ?_, h.ne, h.g0, h.n0, h.b.setCell h.n0 _⟩
  · exact ⟨rfl, rfl, rfl, by simp [World.setCell], fun j hj hne => Below.heap_setCell _ _ _ _ (fun e => hne (by rw [e]))⟩
  · have := h.nd.set_ i u
    rwa [hm] at this
theorem RRdNd.at0 {w0 w : World} {g nb : Nat} {s : List UInt8 × Nat} {n : Nd} (h : RRdNd w0 w g nb s n) : w.cell? ⟨nb, 0, none⟩ = some (.int .i64 (n.1 : Int)) ∧ w.cell? ⟨nb, 1, none⟩ = some (.string ⟨n.2.1.toArray⟩) ∧ w.cell? ⟨nb, 2, none⟩ = some (.string ⟨n.2.2.1.toArray⟩) :=
  ⟨h.nd.cell 0, h.nd.cell 1, h.nd.cell 2⟩
theorem kidsR_step' (set : Nat) (sq s : List UInt8 × Nat) (D : List (List UInt8)) (i : Nat) (hi : i < 16) (h : kidsR set 16 sq = (D ++ (kidsR set (16 - i) s).1, (kidsR set (16 - i) s).2)) :
    kidsR set 16 sq = (D ++ [(kidR set (15 - i) s).1] ++ (kidsR set (16 - (i + 1)) (kidR set (15 - i) s).2).1, (kidsR set (16 - (i + 1)) (kidR set (15 - i) s).2).2) := by
  rw [h, show 16 - i = (15 - i) + 1 by omega, show 16 - (i + 1) = 15 - i by omega]
  simp only [kidsR, List.append_assoc, List.singleton_append]
theorem bit_two (x y : UInt8) (i : Nat) (hi : i < 16) : (x.toNat * 256 + y.toNat) / 2 ^ (15 - i) % 2 = (if i < 8 then x.toNat else y.toNat) / 2 ^ (7 - i % 8) % 2 := by
  have hx := x.toNat_lt
  have hy := y.toNat_lt
  generalize x.toNat = a at *
  generalize y.toNat = b at *
  have h : i = 0 ∨ i = 1 ∨ i = 2 ∨ i = 3 ∨ i = 4 ∨ i = 5 ∨ i = 6 ∨ i = 7 ∨ i = 8 ∨ i = 9 ∨ i = 10 ∨ i = 11 ∨ i = 12 ∨ i = 13 ∨ i = 14 ∨ i = 15 := by omega
  rcases h with rfl | rfl | rfl | rfl | rfl | rfl | rfl | rfl | rfl | rfl | rfl | rfl | rfl | rfl | rfl | rfl <;> simp <;> omega
set_option maxRecDepth 100000 in
set_option maxHeartbeats 2000000 in
theorem rbranch_loop (w0 w : World) (g nb rb : Nat) (u1 u3 : Value) (x y : UInt8) (bs : ByteArray) (hbs : ∀ (i : Nat) W, i < 16 → (Instr.index 9 (.string bs) (.int .i64 ((i : Int) / 8))).run Tryd.prog W = .ok (.int .u8 (((if i < 8 then x.toNat else y.toNat : Nat)) : Int)) W) (sq : List UInt8 × Nat) (str : ByteArray) (H0 : Hid (RRdNd w0 w g nb sq (3, [], [], zeroK)))
    (Q : Exit → Act → World → Prop)
    (hQ : ∀ (s6 s7 s8 s9 s10 s11 s12 s13 s14 s15 s16 s17 s18 s19 s20 s21 s22 s23 s24 s25 s26 s27 s28 s29 s30 s31 s32 s33 s34 s35 s36 s37 s38 s39 s40 s41 s42 s43 s44 s45 s46 s47 s48 s49 s50 s51 s52 s53 s54 s55 s56 s57 s58 s59 s60 s61 s62 s63 s64 s65 s66 s67 s68 s69 s70 s71 s72 s73 s74 s75 s76 s77 s78 s79 s80 s81 s82 s83 s84 s85 s86 s87 s88 s89 s90 s91 s92 s93 s94 s95 : Value) (w2 : World), RRdNd w0 w2 g nb (kidsR (set2 [x, y]) 16 sq).2 (3, [], [], (kidsR (set2 [x, y]) 16 sq).1) → Q (.exit 0) { tmps := #[.string str, u1, .pointer (some ⟨rb, 0, none⟩), u3, .pointer (some ⟨g, 0, none⟩), .pointer (some ⟨nb, 0, none⟩), s6, s7, s8, s9, s10, s11, s12, s13, s14, s15, s16, s17, s18, s19, s20, s21, s22, s23, s24, s25, s26, s27, s28, s29, s30, s31, s32, s33, s34, s35, s36, s37, s38, s39, s40, s41, s42, s43, s44, s45, s46, s47, s48, s49, s50, s51, s52, s53, s54, s55, s56, s57, s58, s59, s60, s61, s62, s63, s64, s65, s66, s67, s68, s69, s70, s71, s72, s73, s74, s75, s76, s77, s78, s79, s80, s81, s82, s83, s84, s85, s86, s87, s88, s89, s90, s91, s92, s93, s94, s95], defers := [] } w2)
    (s8 s9 s10 s11 s12 s13 s14 s15 s16 s17 s18 s19 s20 s21 s22 s23 s24 s25 s26 s27 s28 s29 s30 s31 s32 s33 s34 s35 s36 s37 s38 s39 s40 s41 s42 s43 s44 s45 s46 s47 s48 s49 s50 s51 s52 s53 s54 s55 s56 s57 s58 s59 s60 s61 s62 s63 s64 s65 s66 s67 s68 s69 s70 s71 s72 s73 s74 s75 s76 s77 s78 s79 s80 s81 s82 s83 s84 s85 s86 s87 s88 s89 s90 s91 s92 s93 s94 s95 : Value) :
    Code.wp Tryd.prog (.loop (loopAt Tryd.f97 0)) Q { tmps := #[.string str, u1, .pointer (some ⟨rb, 0, none⟩), u3, .pointer (some ⟨g, 0, none⟩), .pointer (some ⟨nb, 0, none⟩), .string bs, .int .i64 0, s8, s9, s10, s11, s12, s13, s14, s15, s16, s17, s18, s19, s20, s21, s22, s23, s24, s25, s26, s27, s28, s29, s30, s31, s32, s33, s34, s35, s36, s37, s38, s39, s40, s41, s42, s43, s44, s45, s46, s47, s48, s49, s50, s51, s52, s53, s54, s55, s56, s57, s58, s59, s60, s61, s62, s63, s64, s65, s66, s67, s68, s69, s70, s71, s72, s73, s74, s75, s76, s77, s78, s79, s80, s81, s82, s83, s84, s85, s86, s87, s88, s89, s90, s91, s92, s93, s94, s95], defers := [] } w := by
  have HQ := Lib.hid hQ
  have hset : set2 [x, y] = x.toNat * 256 + y.toNat := rfl
  rw [hset] at HQ
  clear hQ hset
  refine wp_loop_ghost_k (fun k a wr => ∀ Φ : Act → Prop, (∀ (s8 s9 s10 s11 s12 s13 s14 s15 s16 s17 s18 s19 s20 s21 s22 s23 s24 s25 s26 s27 s28 s29 s30 s31 s32 s33 s34 s35 s36 s37 s38 s39 s40 s41 s42 s43 s44 s45 s46 s47 s48 s49 s50 s51 s52 s53 s54 s55 s56 s57 s58 s59 s60 s61 s62 s63 s64 s65 s66 s67 s68 s69 s70 s71 s72 s73 s74 s75 s76 s77 s78 s79 s80 s81 s82 s83 s84 s85 s86 s87 s88 s89 s90 s91 s92 s93 s94 s95 : Value) (i : Nat) (s : List UInt8 × Nat) (D : List (List UInt8)), (i + k = 16 ∧ D.length = i ∧ RRdNd w0 wr g nb s (3, [], [], pad D) ∧ kidsR (x.toNat * 256 + y.toNat) 16 sq = (D ++ (kidsR (x.toNat * 256 + y.toNat) (16 - i) s).1, (kidsR (x.toNat * 256 + y.toNat) (16 - i) s).2)) → Φ { tmps := #[.string str, u1, .pointer (some ⟨rb, 0, none⟩), u3, .pointer (some ⟨g, 0, none⟩), .pointer (some ⟨nb, 0, none⟩), .string bs, .int .i64 (i : Int), s8, s9, s10, s11, s12, s13, s14, s15, s16, s17, s18, s19, s20, s21, s22, s23, s24, s25, s26, s27, s28, s29, s30, s31, s32, s33, s34, s35, s36, s37, s38, s39, s40, s41, s42, s43, s44, s45, s46, s47, s48, s49, s50, s51, s52, s53, s54, s55, s56, s57, s58, s59, s60, s61, s62, s63, s64, s65, s66, s67, s68, s69, s70, s71, s72, s73, s74, s75, s76, s77, s78, s79, s80, s81, s82, s83, s84, s85, s86, s87, s88, s89, s90, s91, s92, s93, s94, s95], defers := [] }) → Φ a) (16) ?_ ?_
  · refine fun Φ hΦ => hΦ _ _ _ _ _ _ _ _ _ _ _ _ _ _ _ _ _ _ _ _ _ _ _ _ _ _ _ _ _ _ _ _ _ _ _ _ _ _ _ _ _ _ _ _ _ _ _ _ _ _ _ _ _ _ _ _ _ _ _ _ _ _ _ _ _ _ _ _ _ _ _ _ _ _ _ _ _ _ _ _ _ _ _ _ _ _ _ _ (0) (sq) ([]) ?_
    exact ⟨rfl, rfl, H0.out, by simp⟩
  · intro k1 a1 wr1 hI1 J1 K1 hJ1 hK1
    refine hI1 (fun a => Code.wp _ _ _ a _) ?_
    clear hI1 a1
    intro s0 s1 s2 s3 s4 s5 s6 s7 s8 s9 s10 s11 s12 s13 s14 s15 s16 s17 s18 s19 s20 s21 s22 s23 s24 s25 s26 s27 s28 s29 s30 s31 s32 s33 s34 s35 s36 s37 s38 s39 s40 s41 s42 s43 s44 s45 s46 s47 s48 s49 s50 s51 s52 s53 s54 s55 s56 s57 s58 s59 s60 s61 s62 s63 s64 s65 s66 s67 s68 s69 s70 s71 s72 s73 s74 s75 s76 s77 s78 s79 s80 s81 s82 s83 s84 s85 s86 s87 i s D hrel
    show Code.wp _ _ _ _ _
    clear H0
    conv => arg 2; whnf
    obtain ⟨h1, h2, h3, h4⟩ := hrel
    by_cases hi : i < 16
    · have hi1 : (i : Int) < 16 := by omega
      have hst := kidsR_step' (x.toNat * 256 + y.toNat) sq s D i hi h4
      have HI := Lib.hid (And.intro h1 h2)
      have HN := Lib.hid h3
      have hm : bitAt (x.toNat * 256 + y.toNat) (15 - i) = decide ((if i < 8 then x.toNat else y.toNat) / 2 ^ (7 - i % 8) % 2 = 1) := by unfold bitAt; rw [bit_two x y i hi]
      have HK : Hid (kidR (x.toNat * 256 + y.toNat) (15 - i) s = if bitAt (x.toNat * 256 + y.toNat) (15 - i) then bytesS s 32 else ([], s)) := Lib.hid rfl
      rw [hm] at HK
      have HS := Lib.hid hst
      clear h4 hst h3 hm
      generalize kidR (x.toNat * 256 + y.toNat) (15 - i) s = kr at *
      have hx1 : ∀ W, (Instr.index 9 (.string bs) (.int .i64 ((i : Int) / 8))).run Tryd.prog W = .ok (.int .u8 (((if i < 8 then x.toNat else y.toNat : Nat)) : Int)) W := fun W => hbs i W hi
      have hb256 : (if i < 8 then x.toNat else y.toNat) < 256 := by have := x.toNat_lt; have := y.toNat_lt; split <;> omega
      obtain ⟨b, hb⟩ : ∃ b, (if i < 8 then x.toNat else y.toNat) = b := ⟨_, rfl⟩
      rw [hb] at HK hb256
      simp only [hb] at hx1
      have ht : ((b : Int) / 2 ^ (7 - i % 8)).tmod 2 = ((b / 2 ^ (7 - i % 8) % 2 : Nat) : Int) := by
        rw [show (2 : Int) ^ (7 - i % 8) = ((2 ^ (7 - i % 8) : Nat) : Int) by simp, ← Int.natCast_ediv]
        generalize b / 2 ^ (7 - i % 8) = z
        rfl
      have hlt2 : b / 2 ^ (7 - i % 8) % 2 < 2 := Nat.mod_lt _ (by omega)
      have hj0 : (0 : Int) ≤ (i : Int) % 8 := by omega
      have hj1 : (i : Int) % 8 ≤ 7 := by omega
      clear hb h1 h2
      generalize b / 2 ^ (7 - i % 8) % 2 = bt at *
      by_cases hbt : bt = 1
      · subst hbt
        rw [decide_eq_true rfl, if_pos rfl] at HK
        obtain ⟨kd, s'⟩ := kr
        have HBy : Hid (∀ W, RRd W g s → Calls Tryd.prog 121 #[.pointer (some ⟨g, 0, none⟩), .int .i64 32] W (RRdEnd W g (.string ⟨kd.toArray⟩) s')) := Lib.hid (fun W hW => by
          have := ref02_RBytes W g s hW 32 (by omega)
          rw [← HK.out] at this
          exact this)
        have c3 : ∀ W, RRdNd w0 W g nb s' (3, [], [], pad D) → W.cell? ⟨nb, 3 + i, none⟩ = some (.string ⟨((pad D).getD i []).toArray⟩) ∧ W.frozen? ⟨nb, 3 + i, none⟩ = false := fun W hW => ⟨by
          have h5 := hW.nd.cell (3 + i)
          have hpl := pad_len D (by have := HI.out.1; have := HI.out.2; omega)
          rw [h5, List.getElem?_toArray]
          show (nodeV 3 [] [] (pad D))[3 + i]? = _
          rw [show 3 + i = i + 1 + 1 + 1 by omega]
          unfold nodeV
          rw [List.getElem?_cons_succ, List.getElem?_cons_succ, List.getElem?_cons_succ, strv_at (by rw [hpl]; exact hi), List.getD_eq_getElem?_getD, List.getElem?_eq_getElem (show i < (pad D).length by rw [hpl]; exact hi), Option.getD_some], hW.nd.frozen (3 + i)⟩
        have HC := Lib.hid c3
        replace ht : ((b : Int) / 2 ^ (7 - i % 8)).tmod 2 = 1 := ht
        clear c3 HK hbs
        go_upto_region 14 with fail
        clear hx1 ht
        go_wp2_with (go_at_call 121; refine (HBy.out _ HN.out.rd).mono ?_; rintro e w2 ⟨rfl, hr2, hg2⟩; have N2 : Hid (RRdNd w0 w2 g nb s' (3, [], [], pad D)) := Lib.hid (HN.out.read hr2 hg2); obtain ⟨k3, f3⟩ := HC.out _ N2.out; clear hr2 hg2)
        refine Handed.intro (16 - (i + 1)) ?_ (hJ1 _ _ _ (fun Φ hΦ => hΦ _ _ _ _ _ _ _ _ _ _ _ _ _ _ _ _ _ _ _ _ _ _ _ _ _ _ _ _ _ _ _ _ _ _ _ _ _ _ _ _ _ _ _ _ _ _ _ _ _ _ _ _ _ _ _ _ _ _ _ _ _ _ _ _ _ _ _ _ _ _ _ _ _ _ _ _ _ _ _ _ _ _ _ _ _ _ _ _ (i + 1) (s') (D ++ [kd]) ?_))
        · have := HI.out.1; omega
        · have hI := HI.out
          refine ⟨by omega, by rw [List.length_append, hI.2]; rfl, ?_, HS.out⟩
          refine N2.out.write _ _ ?_
          rw [nodeV_put _ _ _ _ _ _ (by rw [pad_len D (by omega)]; omega), ← hI.2, pad_set D kd (by omega)]
      · have hb0 : bt = 0 := by omega
        subst hb0
        rw [decide_eq_false (by decide), if_neg (by decide)] at HK
        rw [HK.out] at HS
        replace ht : ((b : Int) / 2 ^ (7 - i % 8)).tmod 2 = 0 := ht
        clear HK hbs hbt
        go_wp2
        refine Handed.intro (16 - (i + 1)) ?_ (hJ1 _ _ _ (fun Φ hΦ => hΦ _ _ _ _ _ _ _ _ _ _ _ _ _ _ _ _ _ _ _ _ _ _ _ _ _ _ _ _ _ _ _ _ _ _ _ _ _ _ _ _ _ _ _ _ _ _ _ _ _ _ _ _ _ _ _ _ _ _ _ _ _ _ _ _ _ _ _ _ _ _ _ _ _ _ _ _ _ _ _ _ _ _ _ _ _ _ _ _ (i + 1) (s) (D ++ [[]]) ?_))
        · have := HI.out.1; omega
        · have hI := HI.out
          refine ⟨by omega, by rw [List.length_append, hI.2]; rfl, ?_, HS.out⟩
          rw [pad_nil_set D (by omega)]
          exact HN.out
    · obtain rfl : i = 16 := by omega
      have e : kidsR (x.toNat * 256 + y.toNat) 16 sq = (D, s) := by rw [h4]; simp [kidsR]
      rw [pad_full h2] at h3
      rw [e] at HQ
      have HN := Lib.hid h3
      clear h1 h2 h3 h4 e hi
      go_wp2
      exact HQ.out _ _ _ _ _ _ _ _ _ _ _ _ _ _ _ _ _ _ _ _ _ _ _ _ _ _ _ _ _ _ _ _ _ _ _ _ _ _ _ _ _ _ _ _ _ _ _ _ _ _ _ _ _ _ _ _ _ _ _ _ _ _ _ _ _ _ _ _ _ _ _ _ _ _ _ _ _ _ _ _ _ _ _ _ _ _ _ _ _ _ _ HN.out
end Go.Proofs.YtefcmigbdfeaiaaDoor
