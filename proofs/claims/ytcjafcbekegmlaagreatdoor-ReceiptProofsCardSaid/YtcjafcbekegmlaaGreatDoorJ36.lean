import Derived.Test.YtcjafcbekegmlaaGreatDoorJ35
import Derived.Test.YtcjafcbekegmlaaGreatDoorJ24
import Derived.Test.YtcjafcbekegmlaaGreatDoorJ01
import Derived.Test.YtcjafcbekegmlaaGreatDoorJ30
import Derived.Test.YtcjafcbekegmlaaGreatDoorJ10
set_option linter.unusedSimpArgs false
set_option linter.unusedVariables false
namespace Go.Proofs.YtcjafcbekegmlaaGreatDoor
set_option linter.unusedVariables false
open Go.RowKit Go.Instr
attribute [local go_sem] ba_get ByteArray.mk_append_mk
theorem RRd.lt {w : World} {g : Nat} {s : List UInt8 × Nat} (h : RRd w g s) : g < w.heap.size := h.1.lt
theorem RRd.below {w w' : World} {g : Nat} {s : List UInt8 × Nat} (h : RRd w g s) (hb : Below w.heap.size w w') : RRd w' g s := ⟨h.1.below hb h.1.lt, h.2⟩
theorem RRd.grown {w w' : World} {g : Nat} {s : List UInt8 × Nat} {row : Option Nat} (h : RRd w g s) (hg : w.grownBy w' row) (hne : some g ≠ row) : RRd w' g s := ⟨h.1.grown hg hne, h.2⟩
structure RRdNd (w0 w : World) (g nb : Nat) (s : List UInt8 × Nat) (n : Nd) : Prop where
  rd : RRd w g s
  nd : Blk w nb 107 (nodeV n.1 n.2.1 n.2.2.1 n.2.2.2).toArray
  ne : g ≠ nb
  g0 : w0.heap.size ≤ g
  n0 : w0.heap.size ≤ nb
  b : Below w0.heap.size w0 w
theorem RRdNd.read {w0 w w' : World} {g nb : Nat} {s s' : List UInt8 × Nat} {n : Nd} (h : RRdNd w0 w g nb s n) (hr : RRd w' g s') (hg : w.grownBy w' (some g)) : RRdNd w0 w' g nb s' n :=
  ⟨hr, h.nd.grown hg (fun e => h.ne (by injection e with e; exact e.symm)), h.ne, h.g0, h.n0, h.b.grown hg h.b.size (fun k e => by injection e with e; subst e; exact h.g0)⟩
theorem RRdNd.below {w0 w w' : World} {g nb : Nat} {s : List UInt8 × Nat} {n : Nd} (h : RRdNd w0 w g nb s n) (hb : Below w.heap.size w w') : RRdNd w0 w' g nb s n :=
  ⟨h.rd.below hb, h.nd.below hb h.nd.lt, h.ne, h.g0, h.n0, h.b.nxt hb⟩
theorem RRdNd.drew {w0 w : World} {g nb : Nat} {s : List UInt8 × Nat} {n : Nd} (h : RRdNd w0 w g nb s n) : RRdNd w0 w.drew g nb s n := ⟨h.rd, h.nd, h.ne, h.g0, h.n0, h.b.drew⟩
theorem RRdNd.drewN {w0 w : World} {g nb : Nat} {s : List UInt8 × Nat} {n : Nd} (h : RRdNd w0 w g nb s n) (m : Nat) : RRdNd w0 (w.drewN m) g nb s n := ⟨h.rd, h.nd, h.ne, h.g0, h.n0, below_drewN h.b m⟩
theorem RRdNd.write {w0 w : World} {g nb : Nat} {s : List UInt8 × Nat} {n m : Nd} (h : RRdNd w0 w g nb s n) (i : Nat) (u : Value) (hm : (nodeV n.1 n.2.1 n.2.2.1 n.2.2.2).toArray.setIfInBounds i u = (nodeV m.1 m.2.1 m.2.2.1 m.2.2.2).toArray) : RRdNd w0 (w.setCell ⟨nb, i, none⟩ u) g nb s m := by
  refine ⟨h.rd.grown (row := some nb) ?_ (fun e => h.ne (by injection e)), ?_, h.ne, h.g0, h.n0, h.b.setCell h.n0 _⟩
  · exact ⟨rfl, rfl, rfl, by simp [World.setCell], fun j hj hne => Below.heap_setCell _ _ _ _ (fun e => hne (by rw [e]))⟩
  · have := h.nd.set_ i u
    rwa [hm] at this
theorem RRdNd.at0 {w0 w : World} {g nb : Nat} {s : List UInt8 × Nat} {n : Nd} (h : RRdNd w0 w g nb s n) : w.cell? ⟨nb, 0, none⟩ = some (.int .i64 (n.1 : Int)) ∧ w.cell? ⟨nb, 1, none⟩ = some (.string ⟨n.2.1.toArray⟩) ∧ w.cell? ⟨nb, 2, none⟩ = some (.string ⟨n.2.2.1.toArray⟩) :=
  ⟨h.nd.cell 0, h.nd.cell 1, h.nd.cell 2⟩
theorem kidsR_step' (set : Nat) (sq s : List UInt8 × Nat) (D : List (List UInt8)) (i : Nat) (hi : i < 16) (h : kidsR set 16 sq = (D ++ (kidsR set (16 - i) s).1, (kidsR set (16 - i) s).2)) :
    kidsR set 16 sq = (D ++ [(kidR set (15 - i) s).1] ++ (kidsR set (16 - (i + 1)) (kidR set (15 - i) s).2).1, (kidsR set (16 - (i + 1)) (kidR set (15 - i) s).2).2) := by
  rw [h, show 16 - i = (15 - i) + 1 by omega, show 16 - (i + 1) = 15 - i by omega]
  simp only [kidsR, List.append_assoc, List.singleton_append]
theorem bit_two (x y : UInt8) (i : Nat) (hi : i < 16) : (x.toNat * 256 + y.toNat) / 2 ^ (15 - i) % 2 = (if i < 8 then x.toNat else y.toNat) / 2 ^ (7 - i % 8) % 2 := by
  have hx := x.toNat_lt
  have hy := y.toNat_lt
  generalize x.toNat = a at *
  generalize y.toNat = b at *
  have h : i = 0 ∨ i = 1 ∨ i = 2 ∨ i = 3 ∨ i = 4 ∨ i = 5 ∨ i = 6 ∨ i = 7 ∨ i = 8 ∨ i = 9 ∨ i = 10 ∨ i = 11 ∨ i = 12 ∨ i = 13 ∨ i = 14 ∨ i = 15 := by omega
  rcases h with rfl | rfl | rfl | rfl | rfl | rfl | rfl | rfl | rfl | rfl | rfl | rfl | rfl | rfl | rfl | rfl <;> simp <;> omega
set_option maxRecDepth 100000 in
set_option maxHeartbeats 2000000 in
theorem rbranch_loop (w0 w : World) (g nb rb : Nat) (u1 u3 : Value) (x y : UInt8) (bs : ByteArray) (hbs : ∀ (i : Nat) W, i < 16 → (Instr.index 9 (.string bs) (.int .i64 ((i : Int) / 8))).run Tryz.prog W = .ok (.int .u8 (((if i < 8 then x.toNat else y.toNat : Nat)) : Int)) W) (sq : List UInt8 × Nat) (str : ByteArray) (H0 : Hid (RRdNd w0 w g nb sq (3, [], [], zeroK)))
    (Q : Exit → Act → World → Prop)
    (hQ : ∀ (s6 s7 s8 s9 s10 s11 s12 s13 s14 s15 s16 s17 s18 s19 s20 s21 s22 s23 s24 s25 s26 s27 s28 s29 s30 s31 s32 s33 s34 s35 s36 s37 s38 s39 s40 s41 s42 s43 s44 s45 s46 s47 s48 s49 s50 s51 s52 s53 s54 s55 s56 s57 s58 s59 s60 s61 s62 s63 s64 s65 s66 s67 s68 s69 s70 s71 s72 s73 s74 s75 s76 s77 s78 s79 s80 s81 s82 s83 s84 s85 s86 s87 s88 s89 s90 s91 s92 s93 s94 s95 : Value) (w2 : World), RRdNd w0 w2 g nb (kidsR (set2 [x, y]) 16 sq).2 (3, [], [], (kidsR (set2 [x, y]) 16 sq).1) → Q (.exit 0) { tmps := #[.string str, u1, .pointer (some ⟨rb, 0, none⟩), u3, .pointer (some ⟨g, 0, none⟩), .pointer (some ⟨nb, 0, none⟩), s6, s7, s8, s9, s10, s11, s12, s13, s14, s15, s16, s17, s18, s19, s20, s21, s22, s23, s24, s25, s26, s27, s28, s29, s30, s31, s32, s33, s34, s35, s36, s37, s38, s39, s40, s41, s42, s43, s44, s45, s46, s47, s48, s49, s50, s51, s52, s53, s54, s55, s56, s57, s58, s59, s60, s61, s62, s63, s64, s65, s66, s67, s68, s69, s70, s71, s72, s73, s74, s75, s76, s77, s78, s79, s80, s81, s82, s83, s84, s85, s86, s87, s88, s89, s90, s91, s92, s93, s94, s95], defers := [] } w2)
    (s8 s9 s10 s11 s12 s13 s14 s15 s16 s17 s18 s19 s20 s21 s22 s23 s24 s25 s26 s27 s28 s29 s30 s31 s32 s33 s34 s35 s36 s37 s38 s39 s40 s41 s42 s43 s44 s45 s46 s47 s48 s49 s50 s51 s52 s53 s54 s55 s56 s57 s58 s59 s60 s61 s62 s63 s64 s65 s66 s67 s68 s69 s70 s71 s72 s73 s74 s75 s76 s77 s78 s79 s80 s81 s82 s83 s84 s85 s86 s87 s88 s89 s90 s91 s92 s93 s94 s95 : Value) :
    Code.wp Tryz.prog (.loop (loopAt Tryz.f94 0)) Q { tmps := #[.string str, u1, .pointer (some ⟨rb, 0, none⟩), u3, .pointer (some ⟨g, 0, none⟩), .pointer (some ⟨nb, 0, none⟩), .string bs, .int .i64 0, s8, s9, s10, s11, s12, s13, s14, s15, s16, s17, s18, s19, s20, s21, s22, s23, s24, s25, s26, s27, s28, s29, s30, s31, s32, s33, s34, s35, s36, s37, s38, s39, s40, s41, s42, s43, s44, s45, s46, s47, s48, s49, s50, s51, s52, s53, s54, s55, s56, s57, s58, s59, s60, s61, s62, s63, s64, s65, s66, s67, s68, s69, s70, s71, s72, s73, s74, s75, s76, s77, s78, s79, s80, s81, s82, s83, s84, s85, s86, s87, s88, s89, s90, s91, s92, s93, s94, s95], defers := [] } w := by
  have HQ := Lib.hid hQ
  have hset : set2 [x, y] = x.toNat * 256 + y.toNat := rfl
  rw [hset] at HQ
  clear hQ hset
  refine wp_loop_ghost_k (fun k a wr => ∀ Φ : Act → Prop, (∀ (s8 s9 s10 s11 s12 s13 s14 s15 s16 s17 s18 s19 s20 s21 s22 s23 s24 s25 s26 s27 s28 s29 s30 s31 s32 s33 s34 s35 s36 s37 s38 s39 s40 s41 s42 s43 s44 s45 s46 s47 s48 s49 s50 s51 s52 s53 s54 s55 s56 s57 s58 s59 s60 s61 s62 s63 s64 s65 s66 s67 s68 s69 s70 s71 s72 s73 s74 s75 s76 s77 s78 s79 s80 s81 s82 s83 s84 s85 s86 s87 s88 s89 s90 s91 s92 s93 s94 s95 : Value) (i : Nat) (s : List UInt8 × Nat) (D : List (List UInt8)), (i + k = 16 ∧ D.length = i ∧ RRdNd w0 wr g nb s (3, [], [], pad D) ∧ kidsR (x.toNat * 256 + y.toNat) 16 sq = (D ++ (kidsR (x.toNat * 256 + y.toNat) (16 - i) s).1, (kidsR (x.toNat * 256 + y.toNat) (16 - i) s).2)) → Φ { tmps := #[.string str, u1, .pointer (some ⟨rb, 0, none⟩), u3, .pointer (some ⟨g, 0, none⟩), .pointer (some ⟨nb, 0, none⟩), .string bs, .int .i64 (i : Int), s8, s9, s10, s11, s12, s13, s14, s15, s16, s17, s18, s19, s20, s21, s22, s23, s24, s25, s26, s27, s28, s29, s30, s31, s32, s33, s34, s35, s36, s37, s38, s39, s40, s41, s42, s43, s44, s45, s46, s47, s48, s49, s50, s51, s52, s53, s54, s55, s56, s57, s58, s59, s60, s61, s62, s63, s64, s65, s66, s67, s68, s69, s70, s71, s72, s73, s74, s75, s76, s77, s78, s79, s80, s81, s82, s83, s84, s85, s86, s87, s88, s89, s90, s91, s92, s93, s94, s95], defers := [] }) → Φ a) (16) ?_ ?_
  · refine fun Φ hΦ => hΦ _ _ _ _ _ _ _ _ _ _ _ _ _ _ _ _ _ _ _ _ _ _ _ _ _ _ _ _ _ _ _ _ _ _ _ _ _ _ _ _ _ _ _ _ _ _ _ _ _ _ _ _ _ _ _ _ _ _ _ _ _ _ _ _ _ _ _ _ _ _ _ _ _ _ _ _ _ _ _ _ _ _ _ _ _ _ _ _ (0) (sq) ([]) ?_
    exact ⟨rfl, rfl, H0.out, by simp⟩
  · intro k1 a1 wr1 hI1 J1 K1 hJ1 hK1
    refine hI1 (fun a => Code.wp _ _ _ a _) ?_
    clear hI1 a1
    intro s0 s1 s2 s3 s4 s5 s6 s7 s8 s9 s10 s11 s12 s13 s14 s15 s16 s17 s18 s19 s20 s21 s22 s23 s24 s25 s26 s27 s28 s29 s30 s31 s32 s33 s34 s35 s36 s37 s38 s39 s40 s41 s42 s43 s44 s45 s46 s47 s48 s49 s50 s51 s52 s53 s54 s55 s56 s57 s58 s59 s60 s61 s62 s63 s64 s65 s66 s67 s68 s69 s70 s71 s72 s73 s74 s75 s76 s77 s78 s79 s80 s81 s82 s83 s84 s85 s86 s87 i s D hrel
    show Code.wp _ _ _ _ _
    clear H0
    conv => arg 2; whnf
    obtain ⟨h1, h2, h3, h4⟩ := hrel
    by_cases hi : i < 16
    · have hi1 : (i : Int) < 16 := by omega
      have hst := kidsR_step' (x.toNat * 256 + y.toNat) sq s D i hi h4
      have HI := Lib.hid (And.intro h1 h2)
      have HN := Lib.hid h3
      have hm : bitAt (x.toNat * 256 + y.toNat) (15 - i) = decide ((if i < 8 then x.toNat else y.toNat) / 2 ^ (7 - i % 8) % 2 = 1) := by unfold bitAt; rw [bit_two x y i hi]
      have HK : Hid (kidR (x.toNat * 256 + y.toNat) (15 - i) s = if bitAt (x.toNat * 256 + y.toNat) (15 - i) then bytesS s 32 else ([], s)) := Lib.hid rfl
      rw [hm] at HK
      have HS := Lib.hid hst
      clear h4 hst h3 hm
      generalize kidR (x.toNat * 256 + y.toNat) (15 - i) s = kr at *
      have hx1 : ∀ W, (Instr.index 9 (.string bs) (.int .i64 ((i : Int) / 8))).run Tryz.prog W = .ok (.int .u8 (((if i < 8 then x.toNat else y.toNat : Nat)) : Int)) W := fun W => hbs i W hi
      have hb256 : (if i < 8 then x.toNat else y.toNat) < 256 := by have := x.toNat_lt; have := y.toNat_lt; split <;> omega
      obtain ⟨b, hb⟩ : ∃ b, (if i < 8 then x.toNat else y.toNat) = b := ⟨_, rfl⟩
      rw [hb] at HK hb256
      simp only [hb] at hx1
      have ht : ((b : Int) / 2 ^ (7 - i % 8)).tmod 2 = ((b / 2 ^ (7 - i % 8) % 2 : Nat) : Int) := by
        rw [show (2 : Int) ^ (7 - i % 8) = ((2 ^ (7 - i % 8) : Nat) : Int) by simp, ← Int.natCast_ediv]
        generalize b / 2 ^ (7 - i % 8) = z
        rfl
      have hlt2 : b / 2 ^ (7 - i % 8) % 2 < 2 := Nat.mod_lt _ (by omega)
      have hj0 : (0 : Int) ≤ (i : Int) % 8 := by omega
      have hj1 : (i : Int) % 8 ≤ 7 := by omega
      clear hb h1 h2
      generalize b / 2 ^ (7 - i % 8) % 2 = bt at *
      by_cases hbt : bt = 1
      · subst hbt
        rw [decide_eq_true rfl, if_pos rfl] at HK
        obtain ⟨kd, s'⟩ := kr
        have HBy : Hid (∀ W, RRd W g s → Calls Tryz.prog 129 #[.pointer (some ⟨g, 0, none⟩), .int .i64 32] W (RRdEnd W g (.string ⟨kd.toArray⟩) s')) := Lib.hid (fun W hW => by
          have := ref02_RBytes W g s hW 32 (by omega)
          rw [← HK.out] at this
          exact this)
        have c3 : ∀ W, RRdNd w0 W g nb s' (3, [], [], pad D) → W.cell? ⟨nb, 3 + i, none⟩ = some (.string ⟨((pad D).getD i []).toArray⟩) ∧ W.frozen? ⟨nb, 3 + i, none⟩ = false := fun W hW => ⟨by
          have h5 := hW.nd.cell (3 + i)
          have hpl := pad_len D (by have := HI.out.1; have := HI.out.2; omega)
          rw [h5, List.getElem?_toArray]
          show (nodeV 3 [] [] (pad D))[3 + i]? = _
          rw [show 3 + i = i + 1 + 1 + 1 by omega]
          unfold nodeV
          rw [List.getElem?_cons_succ, List.getElem?_cons_succ, List.getElem?_cons_succ, strv_at (by rw [hpl]; exact hi), List.getD_eq_getElem?_getD, List.getElem?_eq_getElem (show i < (pad D).length by rw [hpl]; exact hi), Option.getD_some], hW.nd.frozen (3 + i)⟩
        have HC := Lib.hid c3
        replace ht : ((b : Int) / 2 ^ (7 - i % 8)).tmod 2 = 1 := ht
        clear c3 HK hbs
        go_upto_region 14 with fail
        clear hx1 ht
        go_wp2_with (go_at_call 129; refine (HBy.out _ HN.out.rd).mono ?_; rintro e w2 ⟨rfl, hr2, hg2⟩; have N2 : Hid (RRdNd w0 w2 g nb s' (3, [], [], pad D)) := Lib.hid (HN.out.read hr2 hg2); obtain ⟨k3, f3⟩ := HC.out _ N2.out; clear hr2 hg2)
        refine Handed.intro (16 - (i + 1)) ?_ (hJ1 _ _ _ (fun Φ hΦ => hΦ _ _ _ _ _ _ _ _ _ _ _ _ _ _ _ _ _ _ _ _ _ _ _ _ _ _ _ _ _ _ _ _ _ _ _ _ _ _ _ _ _ _ _ _ _ _ _ _ _ _ _ _ _ _ _ _ _ _ _ _ _ _ _ _ _ _ _ _ _ _ _ _ _ _ _ _ _ _ _ _ _ _ _ _ _ _ _ _ (i + 1) (s') (D ++ [kd]) ?_))
        · have := HI.out.1; omega
        · have hI := HI.out
          refine ⟨by omega, by rw [List.length_append, hI.2]; rfl, ?_, HS.out⟩
          refine N2.out.write _ _ ?_
          rw [nodeV_put _ _ _ _ _ _ (by rw [pad_len D (by omega)]; omega), ← hI.2, pad_set D kd (by omega)]
      · have hb0 : bt = 0 := by omega
        subst hb0
        rw [decide_eq_false (by decide), if_neg (by decide)] at HK
        rw [HK.out] at HS
        replace ht : ((b : Int) / 2 ^ (7 - i % 8)).tmod 2 = 0 := ht
        clear HK hbs hbt
        go_wp2
        refine Handed.intro (16 - (i + 1)) ?_ (hJ1 _ _ _ (fun Φ hΦ => hΦ _ _ _ _ _ _ _ _ _ _ _ _ _ _ _ _ _ _ _ _ _ _ _ _ _ _ _ _ _ _ _ _ _ _ _ _ _ _ _ _ _ _ _ _ _ _ _ _ _ _ _ _ _ _ _ _ _ _ _ _ _ _ _ _ _ _ _ _ _ _ _ _ _ _ _ _ _ _ _ _ _ _ _ _ _ _ _ _ (i + 1) (s) (D ++ [[]]) ?_))
        · have := HI.out.1; omega
        · have hI := HI.out
          refine ⟨by omega, by rw [List.length_append, hI.2]; rfl, ?_, HS.out⟩
          rw [pad_nil_set D (by omega)]
          exact HN.out
    · obtain rfl : i = 16 := by omega
      have e : kidsR (x.toNat * 256 + y.toNat) 16 sq = (D, s) := by rw [h4]; simp [kidsR]
      rw [pad_full h2] at h3
      rw [e] at HQ
      have HN := Lib.hid h3
      clear h1 h2 h3 h4 e hi
      go_wp2
      exact HQ.out _ _ _ _ _ _ _ _ _ _ _ _ _ _ _ _ _ _ _ _ _ _ _ _ _ _ _ _ _ _ _ _ _ _ _ _ _ _ _ _ _ _ _ _ _ _ _ _ _ _ _ _ _ _ _ _ _ _ _ _ _ _ _ _ _ _ _ _ _ _ _ _ _ _ _ _ _ _ _ _ _ _ _ _ _ _ _ _ _ _ _ HN.out
end Go.Proofs.YtcjafcbekegmlaaGreatDoor

namespace Go.Proofs.YtcjafcbekegmlaaGreatDoor
set_option linter.unusedVariables false
open Go.RowKit
attribute [local go_sem] ba_get ByteArray.mk_append_mk ByteArray.extract_mk
theorem refnib_Unpack_nil (w : World) :
    Calls Tryz.prog 130 #[.string ⟨#[]⟩] w fun e w' => e = .returned (.tuple #[.string ⟨#[]⟩, .bool false, .int .i64 3]) ∧ Below w.heap.size w w' := by
  go_enter Tryz.func130, Tryz.ntmps130
  go_wp2
  go_ret3
  exact ⟨rfl, Below.refl _ _⟩
set_option maxHeartbeats 400000 in
theorem refnib_Unpack_cons (b : UInt8) (r : List UInt8) (w : World) (hs : r.length ≤ 1999) :
    Calls Tryz.prog 130 #[.string ⟨(b :: r).toArray⟩] w fun e w' => e = .returned (.tuple #[.string ⟨(Nib.unpack (b :: r)).1.toArray⟩, .bool (Nib.unpack (b :: r)).2.1, .int .i64 (Nib.unpack (b :: r)).2.2]) ∧ Below w.heap.size w w' := by
  have hlt := b.toNat_lt
  rw [Nib.unpack_cons]
  have ho : Nib.of (b :: r) = b / 16 :: b % 16 :: Nib.of r := by simp [Nib.of]
  obtain ⟨x, hx⟩ : ∃ x, x = b / 16 := ⟨_, rfl⟩
  obtain ⟨y, hy⟩ : ∃ y, y = b % 16 := ⟨_, rfl⟩
  have hxn : x.toNat = b.toNat / 16 := by rw [hx]; simp
  have hyn : y.toNat = b.toNat % 16 := by rw [hy]; simp
  rw [← hx, ← hy] at ho
  have HO := Lib.hid ho
  have HL := Nib.of_length r
  have HL2 : (Nib.of r).length ≤ 4000 := by omega
  rw [← hxn, ← hyn, ← hy]
  clear hx hy ho HL
  have hx16 : x.toNat < 16 := by omega
  clear hxn hyn hlt
  by_cases h1 : 3 < x.toNat
  · have hk : 3 < (x.toNat : Int) := by omega
    rw [if_pos (.inl h1)]
    clear h1
    go_enter Tryz.func130, Tryz.ntmps130
    go_wp2_with fail
    refine (refnib_Of (b :: r) _ (by simp; omega)).mono ?_
    rintro e w1 ⟨rfl, hb⟩
    rw [HO.out]
    go_wp2
    go_ret3
    exact ⟨rfl, hb⟩
  · have hk : ¬ 3 < (x.toNat : Int) := by omega
    have hge : decide (2 ≤ (x.toNat : Int)) = decide (2 ≤ x.toNat) := by rw [decide_eq_decide]; omega
    have HG := Lib.hid hge
    clear hge
    by_cases h2 : x.toNat % 2 = 1
    · rw [if_neg (by omega), if_pos h2]
      have ho1 : ((x.toNat : Int) % 2 == 0) = false := by rw [beq_eq_false_iff_ne]; omega
      have ho2 : ((x.toNat : Int) % 2 == 1) = true := by rw [beq_iff_eq]; omega
      clear h1 h2
      go_enter Tryz.func130, Tryz.ntmps130
      go_wp2_with fail
      refine (refnib_Of (b :: r) _ (by simp; omega)).mono ?_
      rintro e w1 ⟨rfl, hb⟩
      rw [HO.out]
      go_wp2
      go_ret3
      rw [← HG.out]
      exact ⟨rfl, hb⟩
    · have ho1 : ((x.toNat : Int) % 2 == 0) = true := by rw [beq_iff_eq]; omega
      have ho2 : ((x.toNat : Int) % 2 == 1) = false := by rw [beq_eq_false_iff_ne]; omega
      by_cases h3 : y.toNat = 0
      · rw [if_neg (by omega), if_neg h2]
        have hz : ((y.toNat : Int) != 0) = false := by simp; omega
        clear h1 h2 h3
        go_enter Tryz.func130, Tryz.ntmps130
        go_wp2_with fail
        refine (refnib_Of (b :: r) _ (by simp; omega)).mono ?_
        rintro e w1 ⟨rfl, hb⟩
        rw [HO.out]
        go_wp2
        go_ret3
        rw [← HG.out]
        exact ⟨rfl, hb⟩
      · rw [if_pos (.inr ⟨by omega, h3⟩)]
        have hz : ((y.toNat : Int) != 0) = true := by rw [bne_iff_ne]; omega
        clear h1 h2 h3
        go_enter Tryz.func130, Tryz.ntmps130
        go_wp2_with fail
        refine (refnib_Of (b :: r) _ (by simp; omega)).mono ?_
        rintro e w1 ⟨rfl, hb⟩
        rw [HO.out]
        go_wp2
        go_ret3
        exact ⟨rfl, hb⟩
theorem refnib_Unpack (s : List UInt8) (w : World) (hs : s.length ≤ 2000) :
    Calls Tryz.prog 130 #[.string ⟨s.toArray⟩] w fun e w' => e = .returned (.tuple #[.string ⟨(Nib.unpack s).1.toArray⟩, .bool (Nib.unpack s).2.1, .int .i64 (Nib.unpack s).2.2]) ∧ Below w.heap.size w w' := by
  cases s with
  | nil => exact refnib_Unpack_nil w
  | cons b r => exact refnib_Unpack_cons b r w (by simp at hs; omega)
end Go.Proofs.YtcjafcbekegmlaaGreatDoor
