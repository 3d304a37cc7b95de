import Derived.Test.YtcjafcbekegmlaaGreatDoorJ30
import Derived.Test.YtcjafcbekegmlaaGreatDoorJ09
import Derived.Test.YtcjafcbekegmlaaGreatDoorJ10
set_option linter.unusedSimpArgs false
set_option linter.unusedVariables false
namespace Go.Proofs.YtcjafcbekegmlaaGreatDoor
set_option linter.unusedVariables false
open Go.RowKit Go.Instr
attribute [local go_sem] ba_get ByteArray.mk_append_mk
theorem zeros64b (c : List UInt8) : (bvals (fbW c 0)).toArray = #[.int .u8 0, .int .u8 0, .int .u8 0, .int .u8 0, .int .u8 0, .int .u8 0, .int .u8 0, .int .u8 0, .int .u8 0, .int .u8 0, .int .u8 0, .int .u8 0, .int .u8 0, .int .u8 0, .int .u8 0, .int .u8 0, .int .u8 0, .int .u8 0, .int .u8 0, .int .u8 0, .int .u8 0, .int .u8 0, .int .u8 0, .int .u8 0, .int .u8 0, .int .u8 0, .int .u8 0, .int .u8 0, .int .u8 0, .int .u8 0, .int .u8 0, .int .u8 0, .int .u8 0, .int .u8 0, .int .u8 0, .int .u8 0, .int .u8 0, .int .u8 0, .int .u8 0, .int .u8 0, .int .u8 0, .int .u8 0, .int .u8 0, .int .u8 0, .int .u8 0, .int .u8 0, .int .u8 0, .int .u8 0, .int .u8 0, .int .u8 0, .int .u8 0, .int .u8 0, .int .u8 0, .int .u8 0, .int .u8 0, .int .u8 0, .int .u8 0, .int .u8 0, .int .u8 0, .int .u8 0, .int .u8 0, .int .u8 0, .int .u8 0, .int .u8 0] := rfl
set_option maxRecDepth 100000 in
set_option maxHeartbeats 2000000 in
theorem rsum_two (all : List UInt8) (hl : all.length ≤ 2000000) (hm : all.length % 64 = 0) (B : Nat) (w0 : World) (gh : Nat) (hBg : B ≤ gh) (hBw : B ≤ w0.heap.size) (hH : Blk w0 gh 180 (wvs firstH).toArray)
    (Q : Exit → Act → World → Prop)
    (hQ : ∀ (s0 s1 s2 s3 s4 s5 s6 s9 s10 s11 s12 s13 s14 s15 s16 s17 s18 s19 s20 s21 s22 s23 s24 s25 s26 s27 s28 s29 s30 s31 s32 s33 s34 s35 s36 s37 s38 s39 s40 s41 s42 s43 s44 s45 s46 s47 s48 s49 s50 s51 s52 s53 s54 s55 s56 s57 s58 s59 s60 s61 s62 s63 s64 : Value) (w2 : World), Blk w2 gh 180 (wvs (hsW firstH all (all.length / 64))).toArray → Below B w0 w2 → Q (.exit 2) { tmps := #[s0, s1, s2, s3, s4, s5, s6, .string ⟨all.toArray⟩, .pointer (some ⟨gh, 0, none⟩), s9, s10, s11, s12, s13, s14, s15, s16, s17, s18, s19, s20, s21, s22, s23, s24, s25, s26, s27, s28, s29, s30, s31, s32, s33, s34, s35, s36, s37, s38, s39, s40, s41, s42, s43, s44, s45, s46, s47, s48, s49, s50, s51, s52, s53, s54, s55, s56, s57, s58, s59, s60, s61, s62, s63, s64], defers := [] } w2)
    (s0 s1 s2 s3 s4 s5 s6 s10 s11 s12 s13 s14 s15 s16 s17 s18 s19 s20 s21 s22 s23 s24 s25 s26 s27 s28 s29 s30 s31 s32 s33 s34 s35 s36 s37 s38 s39 s40 s41 s42 s43 s44 s45 s46 s47 s48 s49 s50 s51 s52 s53 s54 s55 s56 s57 s58 s59 s60 s61 s62 s63 s64 : Value) :
    Code.wp Tryz.prog (.loop (loopAt Tryz.f128 1)) Q { tmps := #[s0, s1, s2, s3, s4, s5, s6, .string ⟨all.toArray⟩, .pointer (some ⟨gh, 0, none⟩), .int .i64 0, s10, s11, s12, s13, s14, s15, s16, s17, s18, s19, s20, s21, s22, s23, s24, s25, s26, s27, s28, s29, s30, s31, s32, s33, s34, s35, s36, s37, s38, s39, s40, s41, s42, s43, s44, s45, s46, s47, s48, s49, s50, s51, s52, s53, s54, s55, s56, s57, s58, s59, s60, s61, s62, s63, s64], defers := [] } w0 := by
  have HQ := Lib.hid hQ
  have HH := Lib.hid hH
  clear hQ hH
  refine wp_loop_ghost_k (fun k a wr => ∀ Φ : Act → Prop, (∀ (s0 s1 s2 s3 s4 s5 s6 s10 s11 s12 s13 s14 s15 s16 s17 s18 s19 s20 s21 s22 s23 s24 s25 s26 s27 s28 s29 s30 s31 s32 s33 s34 s35 s36 s37 s38 s39 s40 s41 s42 s43 s44 s45 s46 s47 s48 s49 s50 s51 s52 s53 s54 s55 s56 s57 s58 s59 s60 s61 s62 s63 s64 : Value) (p j : Nat), (j + k = all.length / 64 ∧ p = 64 * j ∧ Blk wr gh 180 (wvs (hsW firstH all j)).toArray ∧ Below B w0 wr) → Φ { tmps := #[s0, s1, s2, s3, s4, s5, s6, .string ⟨all.toArray⟩, .pointer (some ⟨gh, 0, none⟩), .int .i64 (p : Int), s10, s11, s12, s13, s14, s15, s16, s17, s18, s19, s20, s21, s22, s23, s24, s25, s26, s27, s28, s29, s30, s31, s32, s33, s34, s35, s36, s37, s38, s39, s40, s41, s42, s43, s44, s45, s46, s47, s48, s49, s50, s51, s52, s53, s54, s55, s56, s57, s58, s59, s60, s61, s62, s63, s64], defers := [] }) → Φ a) (all.length / 64) ?_ ?_
  · refine fun Φ hΦ => hΦ _ _ _ _ _ _ _ _ _ _ _ _ _ _ _ _ _ _ _ _ _ _ _ _ _ _ _ _ _ _ _ _ _ _ _ _ _ _ _ _ _ _ _ _ _ _ _ _ _ _ _ _ _ _ _ _ _ _ _ _ _ _ (0) (0) ?_
    exact ⟨by omega, rfl, HH.out, Below.refl _ _⟩
  · intro k1 a1 wr1 hI1 J1 K1 hJ1 hK1
    refine hI1 (fun a => Code.wp _ _ _ a _) ?_
    clear hI1 a1
    intro s0 s1 s2 s3 s4 s5 s6 s7 s8 s9 s10 s11 s12 s13 s14 s15 s16 s17 s18 s19 s20 s21 s22 s23 s24 s25 s26 s27 s28 s29 s30 s31 s32 s33 s34 s35 s36 s37 s38 s39 s40 s41 s42 s43 s44 s45 s46 s47 s48 s49 s50 s51 s52 s53 s54 s55 s56 s57 s58 s59 s60 s61 p j hrel
    show Code.wp _ _ _ _ _
    conv => arg 2; whnf
    obtain ⟨h1, h2, hw, hb⟩ := hrel
    by_cases hj : j < all.length / 64
    · have hp : p + 64 ≤ all.length := by omega
      have hlt := hw.lt
      have HE : Hid (hsW firstH all (j + 1) = blockW (hsW firstH all j) ((all.drop p).take 64)) := Lib.hid (by rw [hsW, h2])
      have HI := Lib.hid (And.intro h1 (And.intro h2 (And.intro hw hb)))
      have hpI : (p : Int) + 64 ≤ all.length := by omega
      have hpL : (all.length : Int) ≤ 2000000 := by omega
      have hp0 : (0 : Int) ≤ p := by omega
      have hcl : ((all.drop p).take 64).length = 64 := by simp; omega
      have hhl := hsW_length firstH all rfl j
      have HBk := Lib.hid (fun W => rsha_Block (hsW firstH all j) hhl ((all.drop p).take 64) hcl W)
      have I8 := Lib.hid (size_of8 hhl)
      have IB := Lib.hid (size_ofb hcl)
      have hhl2 := blockW_length (hsW firstH all j) ((all.drop p).take 64) hhl
      have I8' := Lib.hid (size_of8 hhl2)
      have A8 := Lib.hid (wvs_all (blockW (hsW firstH all j) ((all.drop p).take 64)))
      have Z8 : Hid ((wvs (hsW firstH all j)).toArray.size = (wvs (blockW (hsW firstH all j) ((all.drop p).take 64))).toArray.size) := Lib.hid (by rw [List.size_toArray, List.size_toArray, wvs_length, wvs_length, hhl, hhl2])
      clear h1 h2 hw hb hcl hhl hhl2
      go_wp2_with fail
      have FA : Hid (Blk (wr1.alloc (.cells (bvals (fbW ((all.drop p).take 64) 0)).toArray 182)) wr1.heap.size 182 (bvals (fbW ((all.drop p).take 64) 0)).toArray ∧ Below wr1.heap.size wr1 (wr1.alloc (.cells (bvals (fbW ((all.drop p).take 64) 0)).toArray 182))) := Lib.hid ⟨Blk.new _ _ _, by go_grown⟩
      rw [← zeros64b ((all.drop p).take 64)]
      generalize wr1.alloc (.cells (bvals (fbW ((all.drop p).take 64) 0)).toArray 182) = W1 at FA ⊢
      refine rsum_three all hl p hp W1 wr1.heap.size FA.out.1 _ _ ?_ _ _ _ _ _ _ _ _ _ _ _ _ _ _ _ _ _ _ _ _ _ _ _ _ _ _ _ _ _ _ _ _ _ _ _ _ _ _ _ _ _ _ _ _ _ _ _ _ _ _ _ _ _ _ _ _ _ _ _ _
      intro s0 s1 s2 s3 s4 s5 s6 s11 s12 s13 s14 s15 s16 s17 s18 s19 s20 s21 s22 s23 s24 s25 s26 s27 s28 s29 s30 s31 s32 s33 s34 s35 s36 s37 s38 s39 s40 s41 s42 s43 s44 s45 s46 s47 s48 s49 s50 s51 s52 s53 s54 s55 s56 s57 s58 s59 s60 s61 s62 s63 s64 w2 hw2 hg2 hs2
      have FB : Hid (Blk w2 wr1.heap.size 182 (bvals ((all.drop p).take 64)).toArray ∧ Below wr1.heap.size wr1 w2) := Lib.hid ⟨hw2, FA.out.2.grown hg2 FA.out.2.size (by intro k e; injection e with e; omega)⟩
      have FH : Hid (Blk w2 gh 180 (wvs (hsW firstH all j)).toArray) := Lib.hid (HI.out.2.2.1.below FB.out.2 HI.out.2.2.1.lt)
      clear hw2 hg2 hs2 FA
      generalize (wvs (hsW firstH all j)).toArray = hs0 at *
      generalize (bvals ((all.drop p).take 64)).toArray = bs0 at *
      generalize hg1 : (wvs (blockW (hsW firstH all j) ((all.drop p).take 64))).toArray = hs1 at *
      have HG := Lib.hid hg1
      clear hg1
      go_wp2_with (first | ((with_reducible refine at_loadR 60 ?_); refine wpList_load_row rfl 180 _ rfl gh rfl _ _ _ _ FH.out Tryz.underlying180 rfl I8.out ?_) | ((with_reducible refine at_loadR 61 ?_); refine wpList_load_row rfl 182 _ rfl wr1.heap.size rfl _ _ _ _ FB.out.1 Tryz.underlying182 rfl IB.out ?_))
      refine (HBk.out _).mono ?_
      rintro e w3 ⟨rfl, hb3⟩
      have FH3 : Hid (Blk w3 gh 180 hs0 ∧ Below wr1.heap.size wr1 w3) := Lib.hid ⟨FH.out.below hb3 FH.out.lt, FB.out.2.nxt hb3⟩
      clear hb3
      go_wp2_with ((with_reducible refine at_storeR 62 ?_); refine wpList_store_row rfl 180 _ _ rfl gh _ rfl rfl _ _ FH3.out.1 I8'.out Z8.out A8.out ?_)
      refine Handed.intro (all.length / 64 - (j + 1)) ?_ (hJ1 _ _ _ (fun Φ hΦ => hΦ _ _ _ _ _ _ _ _ _ _ _ _ _ _ _ _ _ _ _ _ _ _ _ _ _ _ _ _ _ _ _ _ _ _ _ _ _ _ _ _ _ _ _ _ _ _ _ _ _ _ _ _ _ _ _ _ _ _ _ _ _ _ (p + 64) (j + 1) ?_))
      · have := HI.out.1
        show all.length / 64 - (j + 1) < k1
        omega
      · have := HI.out.1
        refine ⟨by omega, by have := HI.out.2.1; omega, ?_, below_setRow (HI.out.2.2.2.trans (FH3.out.2.mono (by have := HI.out.2.2.2.size; omega))) hBg _⟩
        rw [HE.out]
        rw [HG.out]
        exact setRow_heap w3 gh _ _ _ _ FH3.out.1
    · have e : j = all.length / 64 := by omega
      subst e
      have hpI : ((p : Int) + 64 ≤ all.length) = False := by simp; omega
      have hpL : (all.length : Int) ≤ 2000000 := by omega
      have hp9 : (p : Int) ≤ 2000000 := by omega
      have H := Lib.hid (And.intro hw hb)
      clear hw hb h1 h2
      go_wp2_with fail
      exact HQ.out _ _ _ _ _ _ _ _ _ _ _ _ _ _ _ _ _ _ _ _ _ _ _ _ _ _ _ _ _ _ _ _ _ _ _ _ _ _ _ _ _ _ _ _ _ _ _ _ _ _ _ _ _ _ _ _ _ _ _ _ _ _ _ _ H.out.1 H.out.2
theorem zeros_of (w : World) (z : Nat) (hz : z ≤ 64) : ∃ o, (Instr.makeSlice 71 (.int .i64 (z : Int)) (.int .i64 (z : Int))).run Tryz.prog w = .ok (.slice (some ⟨w.heap.size, 0, none⟩) z z) (w.alloc o) ∧
    (convert 71 9 (.slice (some ⟨w.heap.size, 0, none⟩) z z)).run Tryz.prog (w.alloc o) = .ok (.string ⟨(List.replicate z (0 : UInt8)).toArray⟩) (w.alloc o) := by
  obtain ⟨i0, hi0, hz0, hz1, hz2⟩ := info_parts info_byte
  refine ⟨_, run_make_rowN 71 5 i0 _ Tryz.underlying71 hi0 hz0 .i64 .i64 z z (Nat.le_refl _) (by rw [hz2]; omega) (by omega) w, ?_⟩
  refine conv_reads _ (w.heap.size + 1) _ _ _ (List.replicate z 0) ⟨by simp [bvals], fun _ => ⟨_, rfl, by simp, fun j u hu => ?_⟩⟩
  have ha : (⟨w.heap.size, 0, none⟩ : Addr).add j = ⟨w.heap.size, j, none⟩ := by unfold Addr.add; split <;> simp_all
  rw [ha, World.cell?_alloc_at _ _ _ _ rfl, hz1]
  have hj : j < z := by
    have := (List.getElem?_eq_some_iff.1 hu).1
    simpa [bvals] using this
  rw [← hu]
  simp [madeCells, bvals, hj, Value.cells, Nat.mod_one]
set_option maxRecDepth 100000 in
set_option maxHeartbeats 2000000 in
theorem rsha_Sum (l : List UInt8) (hl : l.length ≤ 1000000) (w : World) :
    Calls Tryz.prog 128 #[.string ⟨l.toArray⟩] w fun e w' => e = .returned (.string ⟨(shaW l).toArray⟩) ∧ Below w.heap.size w w' := by
  have HP : Hid (∀ w', Below w.heap.size w w' → (fun e w' => e = Ending.returned (.string ⟨(shaW l).toArray⟩) ∧ Below w.heap.size w w') (Ending.returned (.string ⟨(tdW (hsW firstH (fullW l) ((fullW l).length / 64)) 8).toArray⟩)) w') := Lib.hid (fun W' a2 => ⟨by rw [shaW_full], a2⟩)
  generalize (fun e w' => e = Ending.returned (.string ⟨(shaW l).toArray⟩) ∧ Below w.heap.size w w') = P at HP ⊢
  have hz : (119 - l.length % 64) % 64 < 64 := Nat.mod_lt _ (by omega)
  have HF : Hid (fullW l = ((l ++ [128]) ++ List.replicate ((119 - l.length % 64) % 64) 0) ++ bitsB l.length 8) := Lib.hid rfl
  have HW := Lib.hid (fullW_whole l)
  have HLf : Hid ((fullW l).length ≤ 2000000) := Lib.hid (by
    unfold fullW
    simp only [List.length_append, List.length_replicate, List.length_cons, List.length_nil, bitsB_length]
    omega)
  have hzI : ((119 : Int) - (l.length : Int) % 64) % 64 = (((119 - l.length % 64) % 64 : Nat) : Int) := by omega
  have hb8 : (l.length : Int) * 8 = ((8 * l.length : Nat) : Int) := by omega
  generalize (119 - l.length % 64) % 64 = z at *
  generalize fullW l = all at *
  have hlI : (l.length : Int) ≤ 1000000 := by omega
  go_enter Tryz.func128, Tryz.ntmps128
  go_wp2_with fail
  have e8 : 8 * (l.length : Int) = ((8 * l.length : Nat) : Int) := by omega
  rw [hzI, e8]
  clear hzI hb8 e8
  refine rsum_one l.length hl w _ _ _ ?_ _ _ _ _ _ _ _ _ _ _ _ _ _ _ _ _ _ _ _ _ _ _ _ _ _ _ _ _ _ _ _ _ _ _ _ _ _ _ _ _ _ _ _ _ _ _ _ _ _ _ _ _ _ _ _ _ _ _ _ _
  intro s1 s2 s4 s6 s7 s8 s9 s10 s11 s12 s13 s14 s15 s16 s17 s18 s19 s20 s21 s22 s23 s24 s25 s26 s27 s28 s29 s30 s31 s32 s33 s34 s35 s36 s37 s38 s39 s40 s41 s42 s43 s44 s45 s46 s47 s48 s49 s50 s51 s52 s53 s54 s55 s56 s57 s58 s59 s60 s61 s62 s63 s64 w2 hb2
  obtain ⟨o2, hmk, hcv⟩ := zeros_of w2 z (by omega)
  have hbl : (bitsB l.length 8).length ≤ 8 := Nat.le_of_eq (bitsB_length l.length 8)
  have hzl : (List.replicate z (0 : UInt8)).length ≤ 64 := by rw [List.length_replicate]; omega
  generalize List.replicate z (0 : UInt8) = zs at *
  have HB2 := Lib.hid hb2
  have hz9 : (z : Int) ≤ 64 := by omega
  clear hb2
  generalize bitsB l.length 8 = en at *
  go_wp2_with fail
  have HB3 : Hid (Below w.heap.size w (w2.alloc o2)) := Lib.hid (HB2.out.nxt (by go_grown))
  clear hmk hcv
  generalize w2.alloc o2 = W3 at HB3 ⊢
  refine (rsha_First _).mono ?_
  rintro e w4 ⟨rfl, hb4⟩
  have HB4 := Lib.hid (HB3.out.nxt hb4)
  clear hb4
  have I8 : Hid ((Tryz.prog.info? 180).map (·.size) = some (wvs firstH).toArray.size) := Lib.hid info_w8
  have A8 := Lib.hid (wvs_all firstH)
  have Z8 : Hid ((#[.int .u32 0, .int .u32 0, .int .u32 0, .int .u32 0, .int .u32 0, .int .u32 0, .int .u32 0, .int .u32 0] : Array Value).size = (wvs firstH).toArray.size) := Lib.hid rfl
  have HAll : Hid (l ++ 128 :: (zs ++ en) = all) := Lib.hid (by rw [HF.out]; simp)
  generalize hgf : (wvs firstH).toArray = fs at *
  have HG := Lib.hid hgf
  clear hgf
  go_wp2_with ((with_reducible refine at_storeR 41 ?_); refine wpList_store_row rfl 180 _ _ rfl w4.heap.size _ rfl rfl _ _ (heap_alloc_new w4 _) I8.out Z8.out A8.out ?_)
  rw [World.setRow_alloc_new]
  rw [HAll.out]
  have FA : Hid (Blk (w4.alloc (.cells fs 180)) w4.heap.size 180 fs ∧ Below w.heap.size w (w4.alloc (.cells fs 180)) ∧ w.heap.size ≤ w4.heap.size ∧ w.heap.size ≤ (w4.alloc (.cells fs 180)).heap.size) := Lib.hid ⟨Blk.new _ _ _, HB4.out.nxt (by go_grown), HB4.out.size, by have := HB4.out.size; simp; omega⟩
  generalize w4.alloc (.cells fs 180) = W5 at FA ⊢
  generalize w4.heap.size = gh at *
  refine rsum_two all HLf.out HW.out w.heap.size W5 gh FA.out.2.2.1 FA.out.2.2.2 (by rw [HG.out]; exact FA.out.1) _ ?_ _ _ _ _ _ _ _ _ _ _ _ _ _ _ _ _ _ _ _ _ _ _ _ _ _ _ _ _ _ _ _ _ _ _ _ _ _ _ _ _ _ _ _ _ _ _ _ _ _ _ _ _ _ _ _ _ _ _ _ _ _ _
  intro s0 s1 s2 s3 s4 s5 s6 s9 s10 s11 s12 s13 s14 s15 s16 s17 s18 s19 s20 s21 s22 s23 s24 s25 s26 s27 s28 s29 s30 s31 s32 s33 s34 s35 s36 s37 s38 s39 s40 s41 s42 s43 s44 s45 s46 s47 s48 s49 s50 s51 s52 s53 s54 s55 s56 s57 s58 s59 s60 s61 s62 s63 s64 w6 hw6 hb6
  have F6 := Lib.hid hw6
  have HB6 := Lib.hid (FA.out.2.1.trans hb6)
  have hhl := hsW_length firstH all rfl (all.length / 64)
  have HT := Lib.hid (fun W => rsha_Told (hsW firstH all (all.length / 64)) hhl W)
  have I9 := Lib.hid (size_of8 hhl)
  clear hw6 hb6 hhl FA
  generalize hsW firstH all (all.length / 64) = hf at *
  go_wp2_with ((with_reducible refine at_loadR 63 ?_); refine wpList_load_row rfl 180 _ rfl gh rfl _ _ _ _ F6.out Tryz.underlying180 rfl I9.out ?_)
  refine (HT.out _).mono ?_
  rintro e w7 ⟨rfl, hb7⟩
  go_wp2_with fail
  exact HP.out _ (HB6.out.nxt hb7)
end Go.Proofs.YtcjafcbekegmlaaGreatDoor

namespace Go.Proofs.YtcjafcbekegmlaaGreatDoor
set_option linter.unusedVariables false
open Go.RowKit Go.Instr
attribute [local go_sem] ByteArray.mk_append_mk
theorem ref04_Tagged (w : World) (tag : Nat) (h2 : tag ≤ 255) (l : List UInt8) (hl : l.length ≤ 999999) :
    Calls Tryz.prog 93 #[.int .i64 (tag : Int), .string ⟨l.toArray⟩] w fun e w' => e = .returned (.string ⟨(shaW (UInt8.ofNat tag :: l)).toArray⟩) ∧ Below w.heap.size w w' := by
  have HS : Hid (∀ W, Calls Tryz.prog 128 #[.string ⟨(UInt8.ofNat tag :: l).toArray⟩] W fun e w' => e = .returned (.string ⟨(shaW (UInt8.ofNat tag :: l)).toArray⟩) ∧ Below W.heap.size W w') := Lib.hid (fun W => rsha_Sum (UInt8.ofNat tag :: l) (by simp; omega) W)
  have HP : Hid (∀ S w', shaW (UInt8.ofNat tag :: l) = S → Below w.heap.size w w' → (fun e w' => e = Ending.returned (.string ⟨(shaW (UInt8.ofNat tag :: l)).toArray⟩) ∧ Below w.heap.size w w') (Ending.returned (.string ⟨S.toArray⟩)) w') := Lib.hid (fun S W' e a2 => ⟨by rw [e], a2⟩)
  generalize (fun e w' => e = Ending.returned (.string ⟨(shaW (UInt8.ofNat tag :: l)).toArray⟩) ∧ Below w.heap.size w w') = P at HP ⊢
  have hw : IntKind.u8.wrap (tag : Int) = (tag : Int) := IntWalk.u8_in _ (by omega)
  have cv := conv1 w (tag : Int) (by omega) (by omega)
  rw [Int.toNat_natCast] at cv
  have hlI : (l.length : Int) ≤ 999999 := by omega
  go_enter Tryz.func93, Tryz.ntmps93
  go_wp2_with fail
  clear cv
  refine (HS.out _).mono ?_
  rintro e w1 ⟨rfl, hb1⟩
  have HQ := Lib.hid (HP.out _ w1 rfl (Below.nxt (by go_grown) hb1))
  clear hb1 HS HP
  generalize shaW (UInt8.ofNat tag :: l) = S at *
  go_wp2_with fail
  exact HQ.out
end Go.Proofs.YtcjafcbekegmlaaGreatDoor

namespace Go.Proofs.YtcjafcbekegmlaaGreatDoor
set_option linter.unusedVariables false
open Go.RowKit
attribute [local go_sem] ba_get ByteArray.mk_append_mk
set_option maxRecDepth 100000 in
set_option maxHeartbeats 400000 in
theorem refnib_Of (s : List UInt8) (w : World) (hs : s.length ≤ 2000) :
    Calls Tryz.prog 73 #[.string ⟨s.toArray⟩] w fun e w' => e = .returned (.string ⟨(Nib.of s).toArray⟩) ∧ Below w.heap.size w w' := by
  go_enter Tryz.func73, Tryz.ntmps73
  go_wp2
  refine wp_loop_ghost_k (fun k a wr => ∀ Φ : Act → Prop, (∀ (s1 s2 s5 s6 s7 s8 s9 s10 s11 s12 s13 s14 s15 s16 s17 s18 s19 s20 s21 s22 s23 : Value) (i : Nat) (t : List UInt8), (i + k = s.length ∧ t.length = 2 * i ∧ t = Nib.of (s.take i) ∧ Below w.heap.size w wr) → Φ { tmps := #[.string ⟨s.toArray⟩, s1, s2, .string ⟨t.toArray⟩, .int .i64 i, s5, s6, s7, s8, s9, s10, s11, s12, s13, s14, s15, s16, s17, s18, s19, s20, s21, s22, s23], defers := [] }) → Φ a) (s.length) ?_ ?_
  · refine fun Φ hΦ => hΦ _ _ _ _ _ _ _ _ _ _ _ _ _ _ _ _ _ _ _ _ _ (0) ([]) ?_
    exact ⟨by omega, rfl, rfl, Below.refl _ _⟩
  · intro k1 a1 wr1 hI1 J1 K1 hJ1 hK1
    refine hI1 (fun a => Code.wp _ _ _ a _) ?_
    clear hI1 a1
    intro s0 s1 s2 s3 s4 s5 s6 s7 s8 s9 s10 s11 s12 s13 s14 s15 s16 s17 s18 s19 s20 i t hrel
    show Code.wp _ _ _ _ _
    obtain ⟨h1, h2, h3, hb⟩ := hrel
    have H3 := Lib.hid h3
    clear h3
    by_cases hi : i < s.length
    · go_wp2
      have hlt := s[i].toNat_lt
      have hq : IntKind.u8.wrap ((s[i].toNat : Int) / 16) = (s[i].toNat : Int) / 16 := IntWalk.u8_in _ (by omega)
      have hc := conv2d (wr1) ((s[i].toNat : Int) / 16) ((s[i].toNat : Int) % 16) (by omega) (by omega) (by omega) (by omega)
      have HE : Hid (t ++ [s[i] / 16, s[i] % 16] = Nib.of (s.take (i + 1))) := Lib.hid (by
        rw [List.take_succ_eq_append_getElem hi, Nib.of_snoc, H3.out])
      clear H3
      go_region
      go_wp2
      refine Handed.intro (s.length - (i + 1)) ?_ (hJ1 _ _ _ (fun Φ hΦ => hΦ _ _ _ _ _ _ _ _ _ _ _ _ _ _ _ _ _ _ _ _ _ (i + 1) (t ++ [s[i] / 16, s[i] % 16]) ?_))
      · omega
      · exact ⟨by omega, by simp; omega, HE.out, (hb.alloc hb.size _).drew⟩
    · have e : s.take i = s := List.take_of_length_le (by omega)
      have e2 : t = Nib.of s := by rw [H3.out, e]
      have E2 := Lib.hid e2
      clear e e2 H3
      go_wp2
      go_ret
      exact ⟨ret_string (by rw [E2.out]), hb⟩
set_option maxRecDepth 100000 in
set_option maxHeartbeats 400000 in
theorem refnib_Fit (s : List UInt8) (w : World) (hs : s.length ≤ 1048576) :
    Calls Tryz.prog 133 #[.string ⟨s.toArray⟩] w fun e w' => e = .returned (.bool (Nib.fit s)) ∧ w = w' := by
  go_enter Tryz.func133, Tryz.ntmps133
  go_wp2
  refine wp_loop_ghost_k (fun k a wr => ∀ Φ : Act → Prop, (∀ (s1 s2 s4 s5 s6 s7 s8 s9 s10 s11 s12 s13 : Value) (i : Nat), (i + k = s.length ∧ Nib.fit (s.take i) = true ∧ wr = w) → Φ { tmps := #[.string ⟨s.toArray⟩, s1, s2, .int .i64 i, s4, s5, s6, s7, s8, s9, s10, s11, s12, s13], defers := [] }) → Φ a) (s.length) ?_ ?_
  · refine fun Φ hΦ => hΦ _ _ _ _ _ _ _ _ _ _ _ _ (0) ?_
    exact ⟨by omega, rfl, rfl⟩
  · intro k1 a1 wr1 hI1 J1 K1 hJ1 hK1
    refine hI1 (fun a => Code.wp _ _ _ a _) ?_
    clear hI1 a1
    intro s0 s1 s2 s3 s4 s5 s6 s7 s8 s9 s10 s11 i hrel
    show Code.wp _ _ _ _ _
    obtain ⟨h1, h2, rfl⟩ := hrel
    have H2 := Lib.hid h2
    clear h2
    by_cases hi : i < s.length
    · have hlt := s[i].toNat_lt
      by_cases hc : s[i] ≤ 15
      · have hq : (s[i].toNat : Int) ≤ 15 := by rw [UInt8.le_iff_toNat_le] at hc; simp at hc; omega
        have HE : Hid (Nib.fit (s.take (i + 1)) = true) := Lib.hid (by rw [Nib.fit_take _ _ hi, H2.out]; simpa using hc)
        clear hc H2
        go_wp2
        refine Handed.intro (s.length - (i + 1)) ?_ (hJ1 _ _ _ (fun Φ hΦ => hΦ _ _ _ _ _ _ _ _ _ _ _ _ (i + 1) ?_))
        · omega
        · exact ⟨by omega, HE.out, rfl⟩
      · have hq : 15 < (s[i].toNat : Int) := by rw [UInt8.le_iff_toNat_le] at hc; simp at hc; omega
        have HE : Hid (Nib.fit s = false) := Lib.hid (Nib.fit_false hi hc)
        clear hc H2
        go_wp2
        go_ret
        exact ⟨by rw [HE.out]; rfl, rfl⟩
    · have HE : Hid (Nib.fit s = true) := Lib.hid (by have := H2.out; rwa [List.take_of_length_le (by omega)] at this)
      clear H2
      go_wp2
      go_ret
      exact ⟨by rw [HE.out]; rfl, rfl⟩
set_option maxRecDepth 100000 in
set_option maxHeartbeats 400000 in
theorem refnib_Common (x y : List UInt8) (w : World) (hx : x.length ≤ 1048576) (hy : y.length ≤ 1048576) :
    Calls Tryz.prog 120 #[.string ⟨x.toArray⟩, .string ⟨y.toArray⟩] w fun e w' => e = .returned (.int .i64 (Nib.common x y)) ∧ Below w.heap.size w w' := by
  go_enter Tryz.func120, Tryz.ntmps120
  go_wp2
  refine wp_loop_ghost_k (fun k a wr => ∀ Φ : Act → Prop, (∀ (s2 s3 s4 s6 s7 s8 s9 s10 s11 s12 s13 s14 s15 s16 s17 s18 s19 s20 s21 s22 s23 s24 s25 s26 s27 : Value) (i : Nat), (i + k = x.length ∧ i ≤ Nib.common x y ∧ Below w.heap.size w wr) → Φ { tmps := #[.string ⟨x.toArray⟩, .string ⟨y.toArray⟩, s2, s3, s4, .int .i64 i, s6, s7, s8, s9, s10, s11, s12, s13, s14, s15, s16, s17, s18, s19, s20, s21, s22, s23, s24, s25, s26, s27], defers := [] }) → Φ a) (x.length) ?_ ?_
  · refine fun Φ hΦ => hΦ _ _ _ _ _ _ _ _ _ _ _ _ _ _ _ _ _ _ _ _ _ _ _ _ _ (0) ?_
    exact ⟨by omega, by omega, Below.refl _ _⟩
  · intro k1 a1 wr1 hI1 J1 K1 hJ1 hK1
    refine hI1 (fun a => Code.wp _ _ _ a _) ?_
    clear hI1 a1
    intro s0 s1 s2 s3 s4 s5 s6 s7 s8 s9 s10 s11 s12 s13 s14 s15 s16 s17 s18 s19 s20 s21 s22 s23 s24 i hrel
    show Code.wp _ _ _ _ _
    obtain ⟨h1, h2, hb⟩ := hrel
    have hcl := Nib.common_le x y
    have fin : ∀ j, j = i → ¬ (i + 1 ≤ Nib.common x y) → Ending.returned (.int .i64 ((j : Nat) : Int)) = .returned (.int .i64 ((Nib.common x y : Nat) : Int)) := fun j e h => ret_int (by omega)
    have Fin := Lib.hid fin
    clear fin
    by_cases hi : i < x.length
    · by_cases hj : i < y.length
      · have hst := Nib.common_step h2 hi hj
        by_cases hc : x[i] = y[i]
        · have hq : ((x[i].toNat : Int) == (y[i].toNat : Int)) = true := by rw [hc]; simp
          have h3 := hst.2 hc
          clear hst hc
          go_wp2
          go_quiet (fail)
          go_wp2
          refine Handed.intro (x.length - (i + 1)) ?_ (hJ1 _ _ _ (fun Φ hΦ => hΦ _ _ _ _ _ _ _ _ _ _ _ _ _ _ _ _ _ _ _ _ _ _ _ _ _ (i + 1) ?_))
          · omega
          · exact ⟨by omega, h3, below_drewN hb _⟩
        · have hq : ((x[i].toNat : Int) == (y[i].toNat : Int)) = false := by
            rw [beq_eq_false_iff_ne]; intro e; exact hc (UInt8.toNat_inj.1 (by omega))
          have h3 := mt hst.1 hc
          have F := Lib.hid (Fin.out i rfl h3)
          clear hst hc h3 Fin
          go_wp2
          go_quiet (fail)
          go_wp2
          go_ret
          exact ⟨F.out, below_drewN hb _⟩
      · have F := Lib.hid (Fin.out i rfl (by omega))
        have hq : decide ((i : Int) < (y.length : Int)) = false := by simp; omega
        clear Fin
        go_wp2
        go_quiet (fail)
        go_wp2
        go_ret
        exact ⟨F.out, below_drewN hb _⟩
    · have F := Lib.hid (Fin.out i rfl (by omega))
      have hq : decide ((i : Int) < (x.length : Int)) = false := by simp; omega
      clear Fin
      go_wp2
      go_quiet (fail)
      go_wp2
      go_ret
      exact ⟨F.out, below_drewN hb _⟩
set_option maxRecDepth 100000 in
set_option maxHeartbeats 400000 in
theorem refnib_Side (x y : List UInt8) (w : World) (hx : x.length ≤ 1048576) (hy : y.length ≤ 1048576) :
    Calls Tryz.prog 118 #[.string ⟨x.toArray⟩, .string ⟨y.toArray⟩] w fun e w' => e = .returned (.int .i64 (Nib.side x y)) ∧ Below w.heap.size w w' := by
  go_enter Tryz.func118, Tryz.ntmps118
  go_wp2
  · have h := ‹(!Op.bytesLess x y) = true›
    go_ret
    exact ⟨ret_int (by rw [Nib.side_eq, if_pos (by simpa using h)]), Below.refl _ _⟩
  · have h := ‹(!Op.bytesLess x y) = false›
    have h2 := ‹x.length ≤ y.length›
    have h3 := ‹((({ data := y.toArray } : ByteArray).extract 0 x.length).toList == x) = true›
    rw [ByteArray.extract_mk, ByteArray.toList_mk] at h3
    go_ret
    exact ⟨ret_int (by rw [Nib.side_eq, if_neg (by simpa using h), if_pos ⟨h2, by simpa using h3⟩]), Below.refl _ _⟩
  · have h := ‹(!Op.bytesLess x y) = false›
    have h3 := ‹((({ data := y.toArray } : ByteArray).extract 0 x.length).toList == x) = false›
    rw [ByteArray.extract_mk, ByteArray.toList_mk] at h3
    go_ret
    exact ⟨ret_int (by rw [Nib.side_eq, if_neg (by simpa using h), if_neg (fun hh => by simp [hh.2] at h3)]), Below.refl _ _⟩
  · have h := ‹(!Op.bytesLess x y) = false›
    have h2 := ‹¬ x.length ≤ y.length›
    go_ret
    exact ⟨ret_int (by rw [Nib.side_eq, if_neg (by simpa using h), if_neg (fun hh => h2 hh.1)]), Below.refl _ _⟩
set_option maxRecDepth 100000 in
set_option maxHeartbeats 400000 in
theorem refnib_Key (s : List UInt8) (w : World) (hs : s.length ≤ 1048576) :
    Calls Tryz.prog 95 #[.string ⟨s.toArray⟩] w fun e w' => e = .returned (.tuple #[.string ⟨(Nib.key s).1.toArray⟩, .int .i64 (Nib.key s).2]) ∧ Below w.heap.size w w' := by
  by_cases hf : Nib.fit s = true
  · by_cases hp : s.length % 2 = 1
    · have HE : Hid (Nib.key s = ([], 4)) := Lib.hid (by unfold Nib.key; rw [if_pos hf, if_pos hp])
      have hq : (((s.length : Nat) : Int) % 2 != 0) = true := by rw [bne_iff_ne]; omega
      have HF := Lib.hid hf
      clear hf hp
      go_enter Tryz.func95, Tryz.ntmps95
      go_wp2_with fail
      refine (refnib_Fit s _ hs).mono ?_
      rintro e w1 ⟨rfl, rfl⟩
      rw [HF.out]
      go_wp2
      go_ret2
      exact ⟨by rw [HE.out]; rfl, Below.refl _ _⟩
    · have HE : Hid (Nib.key s = (Nib.joined s, 0)) := Lib.hid (by unfold Nib.key; rw [if_pos hf, if_neg hp])
      have hq : (((s.length : Nat) : Int) % 2 != 0) = false := by simp; omega
      have hfit : ∀ i, (h : i < s.length) → s[i] ≤ 15 := fun i h => by
        unfold Nib.fit at hf; rw [List.all_eq_true] at hf; simpa using hf s[i] (List.getElem_mem h)
      have HG := Lib.hid hfit
      have HF := Lib.hid hf
      clear hf hfit
      go_enter Tryz.func95, Tryz.ntmps95
      go_wp2_with fail
      refine (refnib_Fit s _ hs).mono ?_
      rintro e w1 ⟨rfl, rfl⟩
      rw [HF.out]
      go_wp2
      refine wp_loop_ghost_k (fun k a wr => ∀ Φ : Act → Prop, (∀ (s1 s2 s6 s7 s8 s9 s10 s11 s12 s13 s14 s15 s16 s17 s18 s19 s20 s21 s22 s23 s24 s25 s26 s27 s28 s29 s30 s31 s32 : Value) (i : Nat) (t : List UInt8), (2 * i + k = s.length ∧ t.length = i ∧ t = Nib.joined (s.take (2 * i)) ∧ Below w.heap.size w wr) → Φ { tmps := #[.string ⟨s.toArray⟩, s1, s2, .int .i64 0, .string ⟨t.toArray⟩, .int .i64 (2 * i : Nat), s6, s7, s8, s9, s10, s11, s12, s13, s14, s15, s16, s17, s18, s19, s20, s21, s22, s23, s24, s25, s26, s27, s28, s29, s30, s31, s32], defers := [] }) → Φ a) (s.length) ?_ ?_
      · refine fun Φ hΦ => hΦ _ _ _ _ _ _ _ _ _ _ _ _ _ _ _ _ _ _ _ _ _ _ _ _ _ _ _ _ _ (0) ([]) ?_
        exact ⟨by omega, rfl, rfl, Below.refl _ _⟩
      · intro k1 a1 wr1 hI1 J1 K1 hJ1 hK1
        refine hI1 (fun a => Code.wp _ _ _ a _) ?_
        clear hI1 a1
        intro s0 s1 s2 s3 s4 s5 s6 s7 s8 s9 s10 s11 s12 s13 s14 s15 s16 s17 s18 s19 s20 s21 s22 s23 s24 s25 s26 s27 s28 i t hrel
        show Code.wp _ _ _ _ _
        obtain ⟨h1, h2, h3, hb⟩ := hrel
        have H3 := Lib.hid h3
        clear h3
        by_cases hi : 2 * i < s.length
        · have h4 : 2 * i + 1 < s.length := by omega
          obtain ⟨bb, hbb⟩ : ∃ bb, bb = s[2 * i] * 16 + s[2 * i + 1] := ⟨_, rfl⟩
          have HE : Hid (t ++ [bb] = Nib.joined (s.take (2 * (i + 1)))) := Lib.hid (by have := Nib.joined_take s i h4; rw [← H3.out, ← hbb] at this; exact this.symm)
          have q9 := u8_pack2 s[2 * i] s[2 * i + 1] (HG.out _ _) (HG.out _ _)
          rw [← hbb] at q9
          clear hbb
          have q2 : IntKind.i64.wrap (2 * (i : Int) + 1) = 2 * (i : Int) + 1 := IntWalk.i64_in _ (by omega)
          have q3 : (2 * (i : Int)).toNat = 2 * i := by omega
          have q4 : (2 * (i : Int) + 1).toNat = 2 * i + 1 := by omega
          have q5 : 2 * (i : Int) < (s.length : Int) := by omega
          have q6 : 2 * (i : Int) + 1 < (s.length : Int) := by omega
          have q7 : 0 ≤ 2 * (i : Int) := by omega
          have q8 : 0 ≤ 2 * (i : Int) + 1 := by omega
          have q10 : ¬ 9223372036854775807 < i + 1 := by omega
          have hc := conv1d wr1 (bb.toNat : Int) (by omega) (by have := bb.toNat_lt; omega)
          go_wp2
          go_region
          all_goals go_wp2
          all_goals (refine Handed.intro (s.length - (2 * i + 2)) ?_ (hJ1 _ _ _ (fun Φ hΦ => hΦ _ _ _ _ _ _ _ _ _ _ _ _ _ _ _ _ _ _ _ _ _ _ _ _ _ _ _ _ _ (i + 1) (t ++ [bb]) ?_)))
          any_goals omega
          all_goals exact ⟨by omega, by simp; omega, HE.out, (hb.alloc hb.size _).drew⟩
        · have HE2 : Hid (t = Nib.joined s) := Lib.hid (by rw [H3.out, List.take_of_length_le (by omega)])
          have q5 : ¬ 2 * (i : Int) < (s.length : Int) := by omega
          clear H3
          go_wp2
          go_ret2
          exact ⟨by rw [HE.out, HE2.out]; rfl, hb⟩
  · have HE : Hid (Nib.key s = ([], 3)) := Lib.hid (by unfold Nib.key; rw [if_neg hf])
    have HF := Lib.hid (show Nib.fit s = false by simpa using hf)
    clear hf
    go_enter Tryz.func95, Tryz.ntmps95
    go_wp2_with fail
    refine (refnib_Fit s _ hs).mono ?_
    rintro e w1 ⟨rfl, rfl⟩
    rw [HF.out]
    go_wp2
    go_ret2
    exact ⟨by rw [HE.out]; rfl, Below.refl _ _⟩
end Go.Proofs.YtcjafcbekegmlaaGreatDoor

namespace Go.Proofs.YtcjafcbekegmlaaGreatDoor
set_option linter.unusedVariables false
open Go.RowKit
attribute [local go_sem] ba_get ByteArray.mk_append_mk ByteArray.extract_mk
theorem packs_key_even (l : List UInt8) (leaf : Bool) (hf : Nib.fit l = true) (hp : l.length % 2 = 0) :
    Nib.key ((if leaf then 2 else 0) :: 0 :: l) = (Nib.packed l leaf, 0) := by
  unfold Nib.key
  have h1 : Nib.fit ((if leaf then 2 else 0) :: 0 :: l) = true := by unfold Nib.fit at hf ⊢; cases leaf <;> simpa using hf
  rw [if_pos h1, if_neg (by simp; omega), Nib.packed_even hp, Nib.joined_cons]
  cases leaf <;> rfl
theorem packs_key_odd (a : UInt8) (r : List UInt8) (leaf : Bool) (hf : Nib.fit (a :: r) = true) (hp : (a :: r).length % 2 = 1) :
    Nib.key ((if leaf then 3 else 1) :: a :: r) = (Nib.packed (a :: r) leaf, 0) := by
  unfold Nib.key
  have h1 : Nib.fit ((if leaf then 3 else 1) :: a :: r) = true := by unfold Nib.fit at hf ⊢; cases leaf <;> simpa using hf
  have hp' : (r.length + 1) % 2 = 1 := by simpa using hp
  rw [if_pos h1, if_neg (by simp; omega), Nib.packed_odd hp, Nib.joined_cons]
  cases leaf <;> rfl
set_option maxHeartbeats 400000 in
theorem refnib_Pack (s : List UInt8) (leaf : Bool) (w : World) (hs : s.length ≤ 1000000) :
    Calls Tryz.prog 151 #[.string ⟨s.toArray⟩, .bool leaf] w fun e w' => e = .returned (.tuple #[.string ⟨(Nib.pack s leaf).1.toArray⟩, .int .i64 (Nib.pack s leaf).2]) ∧ Below w.heap.size w w' := by
  by_cases hf : Nib.fit s = true
  · have e1 : Nib.pack s leaf = (Nib.packed s leaf, 0) := by unfold Nib.pack; rw [if_pos hf]
    rw [e1]
    by_cases hp : s.length % 2 = 1
    · obtain ⟨a, r, rfl⟩ : ∃ a r, s = a :: r := by
        cases s with
        | nil => simp at hp
        | cons a r => exact ⟨a, r, rfl⟩
      have HK := Lib.hid (packs_key_odd a r leaf hf hp)
      have HF := Lib.hid hf
      have hp' : ((r.length : Int) + 1) % 2 = 1 := by simp at hp; omega
      have HP := Lib.hid hp'
      have hq1 : (((r.length : Int) + 1) % 2 == 1) = true := by rw [beq_iff_eq]; exact hp'
      have hs' : r.length ≤ 1000000 := by simp at hs; omega
      have hs2 : (a :: r).length ≤ 1048576 := by simp; omega
      clear hf hp e1 hs
      cases leaf
      · go_enter Tryz.func151, Tryz.ntmps151
        go_wp2_with fail
        refine (refnib_Fit (a :: r) _ hs2).mono ?_
        rintro e w1 ⟨rfl, rfl⟩
        rw [HF.out]
        have hw : IntKind.u8.wrap (((r.length : Int) + 1) % 2) = 1 := by rw [HP.out]; rfl
        have hc1 := fun W n h => conv1s W n h 1 (by omega) (by omega)
        have hc2 := fun W n h => conv2s W n h 1 0 (by omega) (by omega) (by omega) (by omega)
        clear hp'
        go_wp2_with fail
        refine (refnib_Key (1 :: a :: r) _ (by simp; omega)).mono ?_
        rintro e w1 ⟨rfl, hb1⟩
        have hk := HK.out
        simp only [Bool.false_eq_true, if_false, if_true] at hk
        rw [hk]
        go_wp2
        go_ret2
        exact ⟨rfl, Below.nxt (by go_grown) hb1⟩
      · go_enter Tryz.func151, Tryz.ntmps151
        go_wp2_with fail
        refine (refnib_Fit (a :: r) _ hs2).mono ?_
        rintro e w1 ⟨rfl, rfl⟩
        rw [HF.out]
        have hw : IntKind.u8.wrap (((r.length : Int) + 1) % 2) = 1 := by rw [HP.out]; rfl
        have hc1 := fun W n h => conv1s W n h 3 (by omega) (by omega)
        have hc2 := fun W n h => conv2s W n h 3 0 (by omega) (by omega) (by omega) (by omega)
        clear hp'
        go_wp2_with fail
        refine (refnib_Key (3 :: a :: r) _ (by simp; omega)).mono ?_
        rintro e w1 ⟨rfl, hb1⟩
        have hk := HK.out
        simp only [Bool.false_eq_true, if_false, if_true] at hk
        rw [hk]
        go_wp2
        go_ret2
        exact ⟨rfl, Below.nxt (by go_grown) hb1⟩
    · have HK := Lib.hid (packs_key_even s leaf hf (by omega))
      have HF := Lib.hid hf
      have hp' : (s.length : Int) % 2 = 0 := by omega
      have HP := Lib.hid hp'
      have hq1 : ((s.length : Int) % 2 == 1) = false := by rw [beq_eq_false_iff_ne]; omega
      have hs2 : s.length ≤ 1048576 := by omega
      clear hf hp e1
      cases leaf
      · go_enter Tryz.func151, Tryz.ntmps151
        go_wp2_with fail
        refine (refnib_Fit s _ hs2).mono ?_
        rintro e w1 ⟨rfl, rfl⟩
        rw [HF.out]
        have hw : IntKind.u8.wrap ((s.length : Int) % 2) = 0 := by rw [HP.out]; rfl
        have hc1 := fun W n h => conv1s W n h 0 (by omega) (by omega)
        have hc2 := fun W n h => conv2s W n h 0 0 (by omega) (by omega) (by omega) (by omega)
        clear hp'
        go_wp2_with fail
        refine (refnib_Key (0 :: 0 :: s) _ (by simp; omega)).mono ?_
        rintro e w1 ⟨rfl, hb1⟩
        have hk := HK.out
        simp only [Bool.false_eq_true, if_false, if_true] at hk
        rw [hk]
        go_wp2
        go_ret2
        exact ⟨rfl, Below.nxt (by go_grown) hb1⟩
      · go_enter Tryz.func151, Tryz.ntmps151
        go_wp2_with fail
        refine (refnib_Fit s _ hs2).mono ?_
        rintro e w1 ⟨rfl, rfl⟩
        rw [HF.out]
        have hw : IntKind.u8.wrap ((s.length : Int) % 2) = 0 := by rw [HP.out]; rfl
        have hc1 := fun W n h => conv1s W n h 2 (by omega) (by omega)
        have hc2 := fun W n h => conv2s W n h 2 0 (by omega) (by omega) (by omega) (by omega)
        clear hp'
        go_wp2_with fail
        refine (refnib_Key (2 :: 0 :: s) _ (by simp; omega)).mono ?_
        rintro e w1 ⟨rfl, hb1⟩
        have hk := HK.out
        simp only [Bool.false_eq_true, if_false, if_true] at hk
        rw [hk]
        go_wp2
        go_ret2
        exact ⟨rfl, Below.nxt (by go_grown) hb1⟩
  · have e1 : Nib.pack s leaf = ([], 3) := by unfold Nib.pack; rw [if_neg hf]
    rw [e1]
    have HF := Lib.hid (show Nib.fit s = false by simpa using hf)
    clear hf e1
    go_enter Tryz.func151, Tryz.ntmps151
    go_wp2_with fail
    refine (refnib_Fit s _ (by omega)).mono ?_
    rintro e w1 ⟨rfl, rfl⟩
    rw [HF.out]
    go_wp2
    go_ret2
    exact ⟨rfl, Below.refl _ _⟩
end Go.Proofs.YtcjafcbekegmlaaGreatDoor
