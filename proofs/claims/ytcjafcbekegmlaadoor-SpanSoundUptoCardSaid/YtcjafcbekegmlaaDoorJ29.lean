import Derived.Test.YtcjafcbekegmlaaDoorJ28
set_option linter.unusedSimpArgs false
set_option linter.unusedVariables false
namespace Go.Proofs.YtcjafcbekegmlaaDoor
set_option linter.unusedVariables false
open Go.RowKit Go.Instr
attribute [local go_sem] ba_get ByteArray.mk_append_mk
theorem zeros64b (c : List UInt8) : (bvals (fbW c 0)).toArray = #[.int .u8 0, .int .u8 0, .int .u8 0, .int .u8 0, .int .u8 0, .int .u8 0, .int .u8 0, .int .u8 0, .int .u8 0, .int .u8 0, .int .u8 0, .int .u8 0, .int .u8 0, .int .u8 0, .int .u8 0, .int .u8 0, .int .u8 0, .int .u8 0, .int .u8 0, .int .u8 0, .int .u8 0, .int .u8 0, .int .u8 0, .int .u8 0, .int .u8 0, .int .u8 0, .int .u8 0, .int .u8 0, .int .u8 0, .int .u8 0, .int .u8 0, .int .u8 0, .int .u8 0, .int .u8 0, .int .u8 0, .int .u8 0, .int .u8 0, .int .u8 0, .int .u8 0, .int .u8 0, .int .u8 0, .int .u8 0, .int .u8 0, .int .u8 0, .int .u8 0, .int .u8 0, .int .u8 0, .int .u8 0, .int .u8 0, .int .u8 0, .int .u8 0, .int .u8 0, .int .u8 0, .int .u8 0, .int .u8 0, .int .u8 0, .int .u8 0, .int .u8 0, .int .u8 0, .int .u8 0, .int .u8 0, .int .u8 0, .int .u8 0, .int .u8 0] := rfl
set_option maxRecDepth 100000 in
set_option maxHeartbeats 2000000 in
theorem rsum_two (all : List UInt8) (hl : all.length ≤ 2000000) (hm : all.length % 64 = 0) (B : Nat) (w0 : World) (gh : Nat) (hBg : B ≤ gh) (hBw : B ≤ w0.heap.size) (hH : Blk w0 gh 111 (wvs firstH).toArray)
    (Q : Exit → Act → World → Prop)
    (hQ : ∀ (s0 s1 s2 s3 s4 s5 s6 s9 s10 s11 s12 s13 s14 s15 s16 s17 s18 s19 s20 s21 s22 s23 s24 s25 s26 s27 s28 s29 s30 s31 s32 s33 s34 s35 s36 s37 s38 s39 s40 s41 s42 s43 s44 s45 s46 s47 s48 s49 s50 s51 s52 s53 s54 s55 s56 s57 s58 s59 s60 s61 s62 s63 s64 : Value) (w2 : World), Blk w2 gh 111 (wvs (hsW firstH all (all.length / 64))).toArray → Below B w0 w2 → Q (.exit 2) { tmps := #[s0, s1, s2, s3, s4, s5, s6, .string ⟨all.toArray⟩, .pointer (some ⟨gh, 0, none⟩), s9, s10, s11, s12, s13, s14, s15, s16, s17, s18, s19, s20, s21, s22, s23, s24, s25, s26, s27, s28, s29, s30, s31, s32, s33, s34, s35, s36, s37, s38, s39, s40, s41, s42, s43, s44, s45, s46, s47, s48, s49, s50, s51, s52, s53, s54, s55, s56, s57, s58, s59, s60, s61, s62, s63, s64], defers := [] } w2)
    (s0 s1 s2 s3 s4 s5 s6 s10 s11 s12 s13 s14 s15 s16 s17 s18 s19 s20 s21 s22 s23 s24 s25 s26 s27 s28 s29 s30 s31 s32 s33 s34 s35 s36 s37 s38 s39 s40 s41 s42 s43 s44 s45 s46 s47 s48 s49 s50 s51 s52 s53 s54 s55 s56 s57 s58 s59 s60 s61 s62 s63 s64 : Value) :
    Code.wp Tryd.prog (.loop (loopAt Tryd.f52 1)) Q { tmps := #[s0, s1, s2, s3, s4, s5, s6, .string ⟨all.toArray⟩, .pointer (some ⟨gh, 0, none⟩), .int .i64 0, s10, s11, s12, s13, s14, s15, s16, s17, s18, s19, s20, s21, s22, s23, s24, s25, s26, s27, s28, s29, s30, s31, s32, s33, s34, s35, s36, s37, s38, s39, s40, s41, s42, s43, s44, s45, s46, s47, s48, s49, s50, s51, s52, s53, s54, s55, s56, s57, s58, s59, s60, s61, s62, s63, s64], defers := [] } w0 := by
  have HQ := Lib.hid hQ
  have HH := Lib.hid hH
  clear hQ hH
  refine wp_loop_ghost_k (fun k a wr => ∀ Φ : Act → Prop, (∀ (s0 s1 s2 s3 s4 s5 s6 s10 s11 s12 s13 s14 s15 s16 s17 s18 s19 s20 s21 s22 s23 s24 s25 s26 s27 s28 s29 s30 s31 s32 s33 s34 s35 s36 s37 s38 s39 s40 s41 s42 s43 s44 s45 s46 s47 s48 s49 s50 s51 s52 s53 s54 s55 s56 s57 s58 s59 s60 s61 s62 s63 s64 : Value) (p j : Nat), (j + k = all.length / 64 ∧ p = 64 * j ∧ Blk wr gh 111 (wvs (hsW firstH all j)).toArray ∧ Below B w0 wr) → Φ { tmps := #[s0, s1, s2, s3, s4, s5, s6, .string ⟨all.toArray⟩, .pointer (some ⟨gh, 0, none⟩), .int .i64 (p : Int), s10, s11, s12, s13, s14, s15, s16, s17, s18, s19, s20, s21, s22, s23, s24, s25, s26, s27, s28, s29, s30, s31, s32, s33, s34, s35, s36, s37, s38, s39, s40, s41, s42, s43, s44, s45, s46, s47, s48, s49, s50, s51, s52, s53, s54, s55, s56, s57, s58, s59, s60, s61, s62, s63, s64], defers := [] }) → Φ a) (all.length / 64) ?_ ?_
  · refine fun Φ hΦ => hΦ _ _ _ _ _ _ _ _ _ _ _ _ _ _ _ _ _ _ _ _ _ _ _ _ _ _ _ _ _ _ _ _ _ _ _ _ _ _ _ _ _ _ _ _ _ _ _ _ _ _ _ _ _ _ _ _ _ _ _ _ _ _ (0) (0) ?_
    exact ⟨by omega, rfl, HH.out, Below.refl _ _⟩
  · intro k1 a1 wr1 hI1 J1 K1 hJ1 hK1
    refine hI1 (fun a => Code.wp _ _ _ a _) ?_
    clear hI1 a1
    intro s0 s1 s2 s3 s4 s5 s6 s7 s8 s9 s10 s11 s12 s13 s14 s15 s16 s17 s18 s19 s20 s21 s22 s23 s24 s25 s26 s27 s28 s29 s30 s31 s32 s33 s34 s35 s36 s37 s38 s39 s40 s41 s42 s43 s44 s45 s46 s47 s48 s49 s50 s51 s52 s53 s54 s55 s56 s57 s58 s59 s60 s61 p j hrel
    show Code.wp _ _ _ _ _
    conv => arg 2; whnf
    obtain ⟨h1, h2, hw, hb⟩ := hrel
    by_cases hj : j < all.length / 64
    · have hp : p + 64 ≤ all.length := by omega
      have hlt := hw.lt
      have HE : Hid (hsW firstH all (j + 1) = blockW (hsW firstH all j) ((all.drop p).take 64)) := Lib.hid (by rw [hsW, h2])
      have HI := Lib.hid (And.intro h1 (And.intro h2 (And.intro hw hb)))
      have hpI : (p : Int) + 64 ≤ all.length := by omega
      have hpL : (all.length : Int) ≤ 2000000 := by omega
      have hp0 : (0 : Int) ≤ p := by omega
      have hcl : ((all.drop p).take 64).length = 64 := by simp; omega
      have hhl := hsW_length firstH all rfl j
      have HBk := Lib.hid (fun W => rsha_Block (hsW firstH all j) hhl ((all.drop p).take 64) hcl W)
      have I8 := Lib.hid (size_of8 hhl)
      have IB := Lib.hid (size_ofb hcl)
      have hhl2 := blockW_length (hsW firstH all j) ((all.drop p).take 64) hhl
      have I8' := Lib.hid (size_of8 hhl2)
      have A8 := Lib.hid (wvs_all (blockW (hsW firstH all j) ((all.drop p).take 64)))
      have Z8 : Hid ((wvs (hsW firstH all j)).toArray.size = (wvs (blockW (hsW firstH all j) ((all.drop p).take 64))).toArray.size) := Lib.hid (by rw [List.size_toArray, List.size_toArray, wvs_length, wvs_length, hhl, hhl2])
      clear h1 h2 hw hb hcl hhl hhl2
      go_wp2_with fail
      have FA : Hid (Blk (wr1.alloc (.cells (bvals (fbW ((all.drop p).take 64) 0)).toArray 113)) wr1.heap.size 113 (bvals (fbW ((all.drop p).take 64) 0)).toArray ∧ Below wr1.heap.size wr1 (wr1.alloc (.cells (bvals (fbW ((all.drop p).take 64) 0)).toArray 113))) := Lib.hid ⟨Blk.new _ _ _, by go_grown⟩
      rw [← zeros64b ((all.drop p).take 64)]
      generalize wr1.alloc (.cells (bvals (fbW ((all.drop p).take 64) 0)).toArray 113) = W1 at FA ⊢
      refine rsum_three all hl p hp W1 wr1.heap.size FA.out.1 _ _ ?_ _ _ _ _ _ _ _ _ _ _ _ _ _ _ _ _ _ _ _ _ _ _ _ _ _ _ _ _ _ _ _ _ _ _ _ _ _ _ _ _ _ _ _ _ _ _ _ _ _ _ _ _ _ _ _ _ _ _ _ _
      intro s0 s1 s2 s3 s4 s5 s6 s11 s12 s13 s14 s15 s16 s17 s18 s19 s20 s21 s22 s23 s24 s25 s26 s27 s28 s29 s30 s31 s32 s33 s34 s35 s36 s37 s38 s39 s40 s41 s42 s43 s44 s45 s46 s47 s48 s49 s50 s51 s52 s53 s54 s55 s56 s57 s58 s59 s60 s61 s62 s63 s64 w2 hw2 hg2 hs2
      have FB : Hid (Blk w2 wr1.heap.size 113 (bvals ((all.drop p).take 64)).toArray ∧ Below wr1.heap.size wr1 w2) := Lib.hid ⟨hw2, FA.out.2.grown hg2 FA.out.2.size (by intro k e; injection e with e; omega)⟩
      have FH : Hid (Blk w2 gh 111 (wvs (hsW firstH all j)).toArray) := Lib.hid (HI.out.2.2.1.below FB.out.2 HI.out.2.2.1.lt)
      clear hw2 hg2 hs2 FA
      generalize (wvs (hsW firstH all j)).toArray = hs0 at *
      generalize (bvals ((all.drop p).take 64)).toArray = bs0 at *
      generalize hg1 : (wvs (blockW (hsW firstH all j) ((all.drop p).take 64))).toArray = hs1 at *
      have HG := Lib.hid hg1
      clear hg1
      go_wp2_with (first | ((with_reducible refine at_loadR 60 ?_); refine wpList_load_row rfl 111 _ rfl gh rfl _ _ _ _ FH.out Tryd.underlying111 rfl I8.out ?_) | ((with_reducible refine at_loadR 61 ?_); refine wpList_load_row rfl 113 _ rfl wr1.heap.size rfl _ _ _ _ FB.out.1 Tryd.underlying113 rfl IB.out ?_))
      refine (HBk.out _).mono ?_
      rintro e w3 ⟨rfl, hb3⟩
      have FH3 : Hid (Blk w3 gh 111 hs0 ∧ Below wr1.heap.size wr1 w3) := Lib.hid ⟨FH.out.below hb3 FH.out.lt, FB.out.2.nxt hb3⟩
      clear hb3
      go_wp2_with ((with_reducible refine at_storeR 62 ?_); refine wpList_store_row rfl 111 _ _ rfl gh _ rfl rfl _ _ FH3.out.1 I8'.out Z8.out A8.out ?_)
      refine Handed.intro (all.length / 64 - (j + 1)) ?_ (hJ1 _ _ _ (fun Φ hΦ => hΦ _ _ _ _ _ _ _ _ _ _ _ _ _ _ _ _ _ _ _ _ _ _ _ _ _ _ _ _ _ _ _ _ _ _ _ _ _ _ _ _ _ _ _ _ _ _ _ _ _ _ _ _ _ _ _ _ _ _ _ _ _ _ (p + 64) (j + 1) ?_))
      · have := HI.out.1
        show all.length / 64 - (j + 1) < k1
        omega
      · have := HI.out.1
        refine ⟨by omega, by have := HI.out.2.1; omega, ?_, below_setRow (HI.out.2.2.2.trans (FH3.out.2.mono (by have := HI.out.2.2.2.size; omega))) hBg _⟩
        rw [HE.out]
        rw [HG.out]
        exact setRow_heap w3 gh _ _ _ _ FH3.out.1
    · have e : j = all.length / 64 := by omega
      subst e
      have hpI : ((p : Int) + 64 ≤ all.length) = False := by simp; omega
      have hpL : (all.length : Int) ≤ 2000000 := by omega
      have hp9 : (p : Int) ≤ 2000000 := by omega
      have H := Lib.hid (And.intro hw hb)
      clear hw hb h1 h2
      go_wp2_with fail
      exact HQ.out _ _ _ _ _ _ _ _ _ _ _ _ _ _ _ _ _ _ _ _ _ _ _ _ _ _ _ _ _ _ _ _ _ _ _ _ _ _ _ _ _ _ _ _ _ _ _ _ _ _ _ _ _ _ _ _ _ _ _ _ _ _ _ _ H.out.1 H.out.2
theorem zeros_of (w : World) (z : Nat) (hz : z ≤ 64) : ∃ o, (Instr.makeSlice 87 (.int .i64 (z : Int)) (.int .i64 (z : Int))).run Tryd.prog w = .ok (.slice (some ⟨w.heap.size, 0, none⟩) z z) (w.alloc o) ∧
    (convert 87 9 (.slice (some ⟨w.heap.size, 0, none⟩) z z)).run Tryd.prog (w.alloc o) = .ok (.string ⟨(List.replicate z (0 : UInt8)).toArray⟩) (w.alloc o) := by
  obtain ⟨i0, hi0, hz0, hz1, hz2⟩ := info_parts info_byte
  refine ⟨_, run_make_rowN 87 5 i0 _ Tryd.underlying87 hi0 hz0 .i64 .i64 z z (Nat.le_refl _) (by rw [hz2]; omega) (by omega) w, ?_⟩
  refine conv_reads _ (w.heap.size + 1) _ _ _ (List.replicate z 0) ⟨by simp [bvals], fun _ => ⟨_, rfl, by simp, fun j u hu => ?_⟩⟩
  have ha : (⟨w.heap.size, 0, none⟩ : Addr).add j = ⟨w.heap.size, j, none⟩ := by unfold Addr.add; split <;> simp_all
  rw [ha, World.cell?_alloc_at _ _ _ _ rfl, hz1]
  have hj : j < z := by
    have := (List.getElem?_eq_some_iff.1 hu).1
    simpa [bvals] using this
  rw [← hu]
  simp [madeCells, bvals, hj, Value.cells, Nat.mod_one]
set_option maxRecDepth 100000 in
set_option maxHeartbeats 2000000 in
theorem rsha_Sum (l : List UInt8) (hl : l.length ≤ 1000000) (w : World) :
    Calls Tryd.prog 52 #[.string ⟨l.toArray⟩] w fun e w' => e = .returned (.string ⟨(shaW l).toArray⟩) ∧ Below w.heap.size w w' := by
  have HP : Hid (∀ w', Below w.heap.size w w' → (fun e w' => e = Ending.returned (.string ⟨(shaW l).toArray⟩) ∧ Below w.heap.size w w') (Ending.returned (.string ⟨(tdW (hsW firstH (fullW l) ((fullW l).length / 64)) 8).toArray⟩)) w') := Lib.hid (fun W' a2 => ⟨by rw [shaW_full], a2⟩)
  generalize (fun e w' => e = Ending.returned (.string ⟨(shaW l).toArray⟩) ∧ Below w.heap.size w w') = P at HP ⊢
  have hz : (119 - l.length % 64) % 64 < 64 := Nat.mod_lt _ (by omega)
  have HF : Hid (fullW l = ((l ++ [128]) ++ List.replicate ((119 - l.length % 64) % 64) 0) ++ bitsB l.length 8) := Lib.hid rfl
  have HW := Lib.hid (fullW_whole l)
  have HLf : Hid ((fullW l).length ≤ 2000000) := Lib.hid (by
    unfold fullW
    simp only [List.length_append, List.length_replicate, List.length_cons, List.length_nil, bitsB_length]
    omega)
  have hzI : ((119 : Int) - (l.length : Int) % 64) % 64 = (((119 - l.length % 64) % 64 : Nat) : Int) := by omega
  have hb8 : (l.length : Int) * 8 = ((8 * l.length : Nat) : Int) := by omega
  generalize (119 - l.length % 64) % 64 = z at *
  generalize fullW l = all at *
  have hlI : (l.length : Int) ≤ 1000000 := by omega
  go_enter Tryd.func52, Tryd.ntmps52
  go_wp2_with fail
  have e8 : 8 * (l.length : Int) = ((8 * l.length : Nat) : Int) := by omega
  rw [hzI, e8]
  clear hzI hb8 e8
  refine rsum_one l.length hl w _ _ _ ?_ _ _ _ _ _ _ _ _ _ _ _ _ _ _ _ _ _ _ _ _ _ _ _ _ _ _ _ _ _ _ _ _ _ _ _ _ _ _ _ _ _ _ _ _ _ _ _ _ _ _ _ _ _ _ _ _ _ _ _ _
  intro s1 s2 s4 s6 s7 s8 s9 s10 s11 s12 s13 s14 s15 s16 s17 s18 s19 s20 s21 s22 s23 s24 s25 s26 s27 s28 s29 s30 s31 s32 s33 s34 s35 s36 s37 s38 s39 s40 s41 s42 s43 s44 s45 s46 s47 s48 s49 s50 s51 s52 s53 s54 s55 s56 s57 s58 s59 s60 s61 s62 s63 s64 w2 hb2
  obtain ⟨o2, hmk, hcv⟩ := zeros_of w2 z (by omega)
  have hbl : (bitsB l.length 8).length ≤ 8 := Nat.le_of_eq (bitsB_length l.length 8)
  have hzl : (List.replicate z (0 : UInt8)).length ≤ 64 := by rw [List.length_replicate]; omega
  generalize List.replicate z (0 : UInt8) = zs at *
  have HB2 := Lib.hid hb2
  have hz9 : (z : Int) ≤ 64 := by omega
  clear hb2
  generalize bitsB l.length 8 = en at *
  go_wp2_with fail
  have HB3 : Hid (Below w.heap.size w (w2.alloc o2)) := Lib.hid (HB2.out.nxt (by go_grown))
  clear hmk hcv
  generalize w2.alloc o2 = W3 at HB3 ⊢
  refine (rsha_First _).mono ?_
  rintro e w4 ⟨rfl, hb4⟩
  have HB4 := Lib.hid (HB3.out.nxt hb4)
  clear hb4
  have I8 : Hid ((Tryd.prog.info? 111).map (·.size) = some (wvs firstH).toArray.size) := Lib.hid info_w8
  have A8 := Lib.hid (wvs_all firstH)
  have Z8 : Hid ((#[.int .u32 0, .int .u32 0, .int .u32 0, .int .u32 0, .int .u32 0, .int .u32 0, .int .u32 0, .int .u32 0] : Array Value).size = (wvs firstH).toArray.size) := Lib.hid rfl
  have HAll : Hid (l ++ 128 :: (zs ++ en) = all) := Lib.hid (by rw [HF.out]; simp)
  generalize hgf : (wvs firstH).toArray = fs at *
  have HG := Lib.hid hgf
  clear hgf
  go_wp2_with ((with_reducible refine at_storeR 41 ?_); refine wpList_store_row rfl 111 _ _ rfl w4.heap.size _ rfl rfl _ _ (heap_alloc_new w4 _) I8.out Z8.out A8.out ?_)
  rw [World.setRow_alloc_new]
  rw [HAll.out]
  have FA : Hid (Blk (w4.alloc (.cells fs 111)) w4.heap.size 111 fs ∧ Below w.heap.size w (w4.alloc (.cells fs 111)) ∧ w.heap.size ≤ w4.heap.size ∧ w.heap.size ≤ (w4.alloc (.cells fs 111)).heap.size) := Lib.hid ⟨Blk.new _ _ _, HB4.out.nxt (by go_grown), HB4.out.size, by have := HB4.out.size; simp; omega⟩
  generalize w4.alloc (.cells fs 111) = W5 at FA ⊢
  generalize w4.heap.size = gh at *
  refine rsum_two all HLf.out HW.out w.heap.size W5 gh FA.out.2.2.1 FA.out.2.2.2 (by rw [HG.out]; exact FA.out.1) _ ?_ _ _ _ _ _ _ _ _ _ _ _ _ _ _ _ _ _ _ _ _ _ _ _ _ _ _ _ _ _ _ _ _ _ _ _ _ _ _ _ _ _ _ _ _ _ _ _ _ _ _ _ _ _ _ _ _ _ _ _ _ _ _
  intro s0 s1 s2 s3 s4 s5 s6 s9 s10 s11 s12 s13 s14 s15 s16 s17 s18 s19 s20 s21 s22 s23 s24 s25 s26 s27 s28 s29 s30 s31 s32 s33 s34 s35 s36 s37 s38 s39 s40 s41 s42 s43 s44 s45 s46 s47 s48 s49 s50 s51 s52 s53 s54 s55 s56 s57 s58 s59 s60 s61 s62 s63 s64 w6 hw6 hb6
  have F6 := Lib.hid hw6
  have HB6 := Lib.hid (FA.out.2.1.trans hb6)
  have hhl := hsW_length firstH all rfl (all.length / 64)
  have HT := Lib.hid (fun W => rsha_Told (hsW firstH all (all.length / 64)) hhl W)
  have I9 := Lib.hid (size_of8 hhl)
  clear hw6 hb6 hhl FA
  generalize hsW firstH all (all.length / 64) = hf at *
  go_wp2_with ((with_reducible refine at_loadR 63 ?_); refine wpList_load_row rfl 111 _ rfl gh rfl _ _ _ _ F6.out Tryd.underlying111 rfl I9.out ?_)
  refine (HT.out _).mono ?_
  rintro e w7 ⟨rfl, hb7⟩
  go_wp2_with fail
  exact HP.out _ (HB6.out.nxt hb7)
end Go.Proofs.YtcjafcbekegmlaaDoor

namespace Go.Proofs.YtcjafcbekegmlaaDoor
set_option linter.unusedVariables false
open Go.RowKit Go.Instr
attribute [local go_sem] ByteArray.mk_append_mk
theorem ref04_Tagged (w : World) (tag : Nat) (h2 : tag ≤ 255) (l : List UInt8) (hl : l.length ≤ 999999) :
    Calls Tryd.prog 32 #[.int .i64 (tag : Int), .string ⟨l.toArray⟩] w fun e w' => e = .returned (.string ⟨(shaW (UInt8.ofNat tag :: l)).toArray⟩) ∧ Below w.heap.size w w' := by
  have HS : Hid (∀ W, Calls Tryd.prog 52 #[.string ⟨(UInt8.ofNat tag :: l).toArray⟩] W fun e w' => e = .returned (.string ⟨(shaW (UInt8.ofNat tag :: l)).toArray⟩) ∧ Below W.heap.size W w') := Lib.hid (fun W => rsha_Sum (UInt8.ofNat tag :: l) (by simp; omega) W)
  have HP : Hid (∀ S w', shaW (UInt8.ofNat tag :: l) = S → Below w.heap.size w w' → (fun e w' => e = Ending.returned (.string ⟨(shaW (UInt8.ofNat tag :: l)).toArray⟩) ∧ Below w.heap.size w w') (Ending.returned (.string ⟨S.toArray⟩)) w') := Lib.hid (fun S W' e a2 => ⟨by rw [e], a2⟩)
  generalize (fun e w' => e = Ending.returned (.string ⟨(shaW (UInt8.ofNat tag :: l)).toArray⟩) ∧ Below w.heap.size w w') = P at HP ⊢
  have hw : IntKind.u8.wrap (tag : Int) = (tag : Int) := IntWalk.u8_in _ (by omega)
  have cv := conv1 w (tag : Int) (by omega) (by omega)
  rw [Int.toNat_natCast] at cv
  have hlI : (l.length : Int) ≤ 999999 := by omega
  go_enter Tryd.func32, Tryd.ntmps32
  go_wp2_with fail
  clear cv
  refine (HS.out _).mono ?_
  rintro e w1 ⟨rfl, hb1⟩
  have HQ := Lib.hid (HP.out _ w1 rfl (Below.nxt (by go_grown) hb1))
  clear hb1 HS HP
  generalize shaW (UInt8.ofNat tag :: l) = S at *
  go_wp2_with fail
  exact HQ.out
end Go.Proofs.YtcjafcbekegmlaaDoor
