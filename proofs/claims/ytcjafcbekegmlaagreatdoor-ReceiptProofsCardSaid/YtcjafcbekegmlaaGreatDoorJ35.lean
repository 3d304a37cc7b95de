import Derived.Test.YtcjafcbekegmlaaGreatDoorJ34
import Derived.Test.YtcjafcbekegmlaaGreatDoorJ32
import Derived.Test.YtcjafcbekegmlaaGreatDoorJ24
import Derived.Test.YtcjafcbekegmlaaGreatDoorJ13
set_option linter.unusedSimpArgs false
set_option linter.unusedVariables false
namespace Go.Proofs.YtcjafcbekegmlaaGreatDoor
set_option linter.unusedVariables false
open Go.RowKit Go.Instr
attribute [local go_sem] ba_get ByteArray.mk_append_mk
theorem zeros64b (c : List UInt8) : (bvals (fbW c 0)).toArray = #[.int .u8 0, .int .u8 0, .int .u8 0, .int .u8 0, .int .u8 0, .int .u8 0, .int .u8 0, .int .u8 0, .int .u8 0, .int .u8 0, .int .u8 0, .int .u8 0, .int .u8 0, .int .u8 0, .int .u8 0, .int .u8 0, .int .u8 0, .int .u8 0, .int .u8 0, .int .u8 0, .int .u8 0, .int .u8 0, .int .u8 0, .int .u8 0, .int .u8 0, .int .u8 0, .int .u8 0, .int .u8 0, .int .u8 0, .int .u8 0, .int .u8 0, .int .u8 0, .int .u8 0, .int .u8 0, .int .u8 0, .int .u8 0, .int .u8 0, .int .u8 0, .int .u8 0, .int .u8 0, .int .u8 0, .int .u8 0, .int .u8 0, .int .u8 0, .int .u8 0, .int .u8 0, .int .u8 0, .int .u8 0, .int .u8 0, .int .u8 0, .int .u8 0, .int .u8 0, .int .u8 0, .int .u8 0, .int .u8 0, .int .u8 0, .int .u8 0, .int .u8 0, .int .u8 0, .int .u8 0, .int .u8 0, .int .u8 0, .int .u8 0, .int .u8 0] := rfl
set_option maxRecDepth 100000 in
set_option maxHeartbeats 2000000 in
theorem rsum_two (all : List UInt8) (hl : all.length ≤ 2000000) (hm : all.length % 64 = 0) (B : Nat) (w0 : World) (gh : Nat) (hBg : B ≤ gh) (hBw : B ≤ w0.heap.size) (hH : Blk w0 gh 180 (wvs firstH).toArray)
    (Q : Exit → Act → World → Prop)
    (hQ : ∀ (s0 s1 s2 s3 s4 s5 s6 s9 s10 s11 s12 s13 s14 s15 s16 s17 s18 s19 s20 s21 s22 s23 s24 s25 s26 s27 s28 s29 s30 s31 s32 s33 s34 s35 s36 s37 s38 s39 s40 s41 s42 s43 s44 s45 s46 s47 s48 s49 s50 s51 s52 s53 s54 s55 s56 s57 s58 s59 s60 s61 s62 s63 s64 : Value) (w2 : World), Blk w2 gh 180 (wvs (hsW firstH all (all.length / 64))).toArray → Below B w0 w2 → Q (.exit 2) { tmps := #[s0, s1, s2, s3, s4, s5, s6, .string ⟨all.toArray⟩, .pointer (some ⟨gh, 0, none⟩), s9, s10, s11, s12, s13, s14, s15, s16, s17, s18, s19, s20, s21, s22, s23, s24, s25, s26, s27, s28, s29, s30, s31, s32, s33, s34, s35, s36, s37, s38, s39, s40, s41, s42, s43, s44, s45, s46, s47, s48, s49, s50, s51, s52, s53, s54, s55, s56, s57, s58, s59, s60, s61, s62, s63, s64], defers := [] } w2)
    (s0 s1 s2 s3 s4 s5 s6 s10 s11 s12 s13 s14 s15 s16 s17 s18 s19 s20 s21 s22 s23 s24 s25 s26 s27 s28 s29 s30 s31 s32 s33 s34 s35 s36 s37 s38 s39 s40 s41 s42 s43 s44 s45 s46 s47 s48 s49 s50 s51 s52 s53 s54 s55 s56 s57 s58 s59 s60 s61 s62 s63 s64 : Value) :
    Code.wp Tryz.prog (.loop (loopAt Tryz.f128 1)) Q { tmps := #[s0, s1, s2, s3, s4, s5, s6, .string ⟨all.toArray⟩, .pointer (some ⟨gh, 0, none⟩), .int .i64 0, s10, s11, s12, s13, s14, s15, s16, s17, s18, s19, s20, s21, s22, s23, s24, s25, s26, s27, s28, s29, s30, s31, s32, s33, s34, s35, s36, s37, s38, s39, s40, s41, s42, s43, s44, s45, s46, s47, s48, s49, s50, s51, s52, s53, s54, s55, s56, s57, s58, s59, s60, s61, s62, s63, s64], defers := [] } w0 := by
  have HQ := Lib.hid hQ
  have HH := Lib.hid hH
  clear hQ hH
  refine wp_loop_ghost_k (fun k a wr => ∀ Φ : Act → Prop, (∀ (s0 s1 s2 s3 s4 s5 s6 s10 s11 s12 s13 s14 s15 s16 s17 s18 s19 s20 s21 s22 s23 s24 s25 s26 s27 s28 s29 s30 s31 s32 s33 s34 s35 s36 s37 s38 s39 s40 s41 s42 s43 s44 s45 s46 s47 s48 s49 s50 s51 s52 s53 s54 s55 s56 s57 s58 s59 s60 s61 s62 s63 s64 : Value) (p j : Nat), (j + k = all.length / 64 ∧ p = 64 * j ∧ Blk wr gh 180 (wvs (hsW firstH all j)).toArray ∧ Below B w0 wr) → Φ { tmps := #[s0, s1, s2, s3, s4, s5, s6, .string ⟨all.toArray⟩, .pointer (some ⟨gh, 0, none⟩), .int .i64 (p : Int), s10, s11, s12, s13, s14, s15, s16, s17, s18, s19, s20, s21, s22, s23, s24, s25, s26, s27, s28, s29, s30, s31, s32, s33, s34, s35, s36, s37, s38, s39, s40, s41, s42, s43, s44, s45, s46, s47, s48, s49, s50, s51, s52, s53, s54, s55, s56, s57, s58, s59, s60, s61, s62, s63, s64], defers := [] }) → Φ a) (all.length / 64) ?_ ?_
  · refine fun Φ hΦ => hΦ _ _ _ _ _ _ _ _ _ _ _ _ _ _ _ _ _ _ _ _ _ _ _ _ _ _ _ _ _ _ _ _ _ _ _ _ _ _ _ _ _ _ _ _ _ _ _ _ _ _ _ _ _ _ _ _ _ _ _ _ _ _ (0) (0) ?_
    exact ⟨by omega, rfl, HH.out, Below.refl _ _⟩
  · intro k1 a1 wr1 hI1 J1 K1 hJ1 hK1
    refine hI1 (fun a => Code.wp _ _ _ a _) ?_
    clear hI1 a1
    intro s0 s1 s2 s3 s4 s5 s6 s7 s8 s9 s10 s11 s12 s13 s14 s15 s16 s17 s18 s19 s20 s21 s22 s23 s24 s25 s26 s27 s28 s29 s30 s31 s32 s33 s34 s35 s36 s37 s38 s39 s40 s41 s42 s43 s44 s45 s46 s47 s48 s49 s50 s51 s52 s53 s54 s55 s56 s57 s58 s59 s60 s61 p j hrel
    show Code.wp _ _ _ _ _
    conv => arg 2; whnf
    obtain ⟨h1, h2, hw, hb⟩ := hrel
    by_cases hj : j < all.length / 64
    · have hp : p + 64 ≤ all.length := by omega
      have hlt := hw.lt
      have HE : Hid (hsW firstH all (j + 1) = blockW (hsW firstH all j) ((all.drop p).take 64)) := Lib.hid (by rw [hsW, h2])
      have HI := Lib.hid (And.intro h1 (And.intro h2 (And.intro hw hb)))
      have hpI : (p : Int) + 64 ≤ all.length := by omega
      have hpL : (all.length : Int) ≤ 2000000 := by omega
      have hp0 : (0 : Int) ≤ p := by omega
      have hcl : ((all.drop p).take 64).length = 64 := by simp; omega
      have hhl := hsW_length firstH all rfl j
      have HBk := Lib.hid (fun W => rsha_Block (hsW firstH all j) hhl ((all.drop p).take 64) hcl W)
      have I8 := Lib.hid (size_of8 hhl)
      have IB := Lib.hid (size_ofb hcl)
      have hhl2 := blockW_length (hsW firstH all j) ((all.drop p).take 64) hhl
      have I8' := Lib.hid (size_of8 hhl2)
      have A8 := Lib.hid (wvs_all (blockW (hsW firstH all j) ((all.drop p).take 64)))
      have Z8 : Hid ((wvs (hsW firstH all j)).toArray.size = (wvs (blockW (hsW firstH all j) ((all.drop p).take 64))).toArray.size) := Lib.hid (by rw [List.size_toArray, List.size_toArray, wvs_length, wvs_length, hhl, hhl2])
      clear h1 h2 hw hb hcl hhl hhl2
      go_wp2_with fail
      have FA : Hid (Blk (wr1.alloc (.cells (bvals (fbW ((all.drop p).take 64) 0)).toArray 182)) wr1.heap.size 182 (bvals (fbW ((all.drop p).take 64) 0)).toArray ∧ Below wr1.heap.size wr1 (wr1.alloc (.cells (bvals (fbW ((all.drop p).take 64) 0)).toArray 182))) := Lib.hid ⟨Blk.new _ _ _, by go_grown⟩
      rw [← zeros64b ((all.drop p).take 64)]
      generalize wr1.alloc (.cells (bvals (fbW ((all.drop p).take 64) 0)).toArray 182) = W1 at FA ⊢
      refine rsum_three all hl p hp W1 wr1.heap.size FA.out.1 _ _ ?_ _ _ _ _ _ _ _ _ _ _ _ _ _ _ _ _ _ _ _ _ _ _ _ _ _ _ _ _ _ _ _ _ _ _ _ _ _ _ _ _ _ _ _ _ _ _ _ _ _ _ _ _ _ _ _ _ _ _ _ _
      intro s0 s1 s2 s3 s4 s5 s6 s11 s12 s13 s14 s15 s16 s17 s18 s19 s20 s21 s22 s23 s24 s25 s26 s27 s28 s29 s30 s31 s32 s33 s34 s35 s36 s37 s38 s39 s40 s41 s42 s43 s44 s45 s46 s47 s48 s49 s50 s51 s52 s53 s54 s55 s56 s57 s58 s59 s60 s61 s62 s63 s64 w2 hw2 hg2 hs2
      have FB : Hid (Blk w2 wr1.heap.size 182 (bvals ((all.drop p).take 64)).toArray ∧ Below wr1.heap.size wr1 w2) := Lib.hid ⟨hw2, FA.out.2.grown hg2 FA.out.2.size (by intro k e; injection e with e; omega)⟩
      have FH : Hid (Blk w2 gh 180 (wvs (hsW firstH all j)).toArray) := Lib.hid (HI.out.2.2.1.below FB.out.2 HI.out.2.2.1.lt)
      clear hw2 hg2 hs2 FA
      generalize (wvs (hsW firstH all j)).toArray = hs0 at *
      generalize (bvals ((all.drop p).take 64)).toArray = bs0 at *
      generalize hg1 : (wvs (blockW (hsW firstH all j) ((all.drop p).take 64))).toArray = hs1 at *
      have HG := Lib.hid hg1
      clear hg1
      go_wp2_with (first | ((with_reducible refine at_loadR 60 ?_); refine wpList_load_row rfl 180 _ rfl gh rfl _ _ _ _ FH.out Tryz.underlying180 rfl I8.out ?_) | ((with_reducible refine at_loadR 61 ?_); refine wpList_load_row rfl 182 _ rfl wr1.heap.size rfl _ _ _ _ FB.out.1 Tryz.underlying182 rfl IB.out ?_))
      refine (HBk.out _).mono ?_
      rintro e w3 ⟨rfl, hb3⟩
      have FH3 : Hid (Blk w3 gh 180 hs0 ∧ Below wr1.heap.size wr1 w3) := Lib.hid ⟨FH.out.below hb3 FH.out.lt, FB.out.2.nxt hb3⟩
      clear hb3
      go_wp2_with ((with_reducible refine at_storeR 62 ?_); refine wpList_store_row rfl 180 _ _ rfl gh _ rfl rfl _ _ FH3.out.1 I8'.out Z8.out A8.out ?_)
      refine Handed.intro (all.length / 64 - (j + 1)) ?_ (hJ1 _ _ _ (fun Φ hΦ => hΦ _ _ _ _ _ _ _ _ _ _ _ _ _ _ _ _ _ _ _ _ _ _ _ _ _ _ _ _ _ _ _ _ _ _ _ _ _ _ _ _ _ _ _ _ _ _ _ _ _ _ _ _ _ _ _ _ _ _ _ _ _ _ (p + 64) (j + 1) ?_))
      · have := HI.out.1
        show all.length / 64 - (j + 1) < k1
        omega
      · have := HI.out.1
        refine ⟨by omega, by have := HI.out.2.1; omega, ?_, below_setRow (HI.out.2.2.2.trans (FH3.out.2.mono (by have := HI.out.2.2.2.size; omega))) hBg _⟩
        rw [HE.out]
        rw [HG.out]
        exact setRow_heap w3 gh _ _ _ _ FH3.out.1
    · have e : j = all.length / 64 := by omega
      subst e
      have hpI : ((p : Int) + 64 ≤ all.length) = False := by simp; omega
      have hpL : (all.length : Int) ≤ 2000000 := by omega
      have hp9 : (p : Int) ≤ 2000000 := by omega
      have H := Lib.hid (And.intro hw hb)
      clear hw hb h1 h2
      go_wp2_with fail
      exact HQ.out _ _ _ _ _ _ _ _ _ _ _ _ _ _ _ _ _ _ _ _ _ _ _ _ _ _ _ _ _ _ _ _ _ _ _ _ _ _ _ _ _ _ _ _ _ _ _ _ _ _ _ _ _ _ _ _ _ _ _ _ _ _ _ _ H.out.1 H.out.2
theorem zeros_of (w : World) (z : Nat) (hz : z ≤ 64) : ∃ o, (Instr.makeSlice 71 (.int .i64 (z : Int)) (.int .i64 (z : Int))).run Tryz.prog w = .ok (.slice (some ⟨w.heap.size, 0, none⟩) z z) (w.alloc o) ∧
    (convert 71 9 (.slice (some ⟨w.heap.size, 0, none⟩) z z)).run Tryz.prog (w.alloc o) = .ok (.string ⟨(List.replicate z (0 : UInt8)).toArray⟩) (w.alloc o) := by
  obtain ⟨i0, hi0, hz0, hz1, hz2⟩ := info_parts info_byte
  refine ⟨_, run_make_rowN 71 5 i0 _ Tryz.underlying71 hi0 hz0 .i64 .i64 z z (Nat.le_refl _) (by rw [hz2]; omega) (by omega) w, ?_⟩
  refine conv_reads _ (w.heap.size + 1) _ _ _ (List.replicate z 0) ⟨by simp [bvals], fun _ => ⟨_, rfl, by simp, fun j u hu => ?_⟩⟩
  have ha : (⟨w.heap.size, 0, none⟩ : Addr).add j = ⟨w.heap.size, j, none⟩ := by unfold Addr.add; split <;> simp_all
  rw [ha, World.cell?_alloc_at _ _ _ _ rfl, hz1]
  have hj : j < z := by
    have := (List.getElem?_eq_some_iff.1 hu).1
    simpa [bvals] using this
  rw [← hu]
  simp [madeCells, bvals, hj, Value.cells, Nat.mod_one]
set_option maxRecDepth 100000 in
set_option maxHeartbeats 2000000 in
theorem rsha_Sum (l : List UInt8) (hl : l.length ≤ 1000000) (w : World) :
    Calls Tryz.prog 128 #[.string ⟨l.toArray⟩] w fun e w' => e = .returned (.string ⟨(shaW l).toArray⟩) ∧ Below w.heap.size w w' := by
  have HP : Hid (∀ w', Below w.heap.size w w' → (fun e w' => e = Ending.returned (.string ⟨(shaW l).toArray⟩) ∧ Below w.heap.size w w') (Ending.returned (.string ⟨(tdW (hsW firstH (fullW l) ((fullW l).length / 64)) 8).toArray⟩)) w') := Lib.hid (fun W' a2 => ⟨by rw [shaW_full], a2⟩)
  generalize (fun e w' => e = Ending.returned (.string ⟨(shaW l).toArray⟩) ∧ Below w.heap.size w w') = P at HP ⊢
  have hz : (119 - l.length % 64) % 64 < 64 := Nat.mod_lt _ (by omega)
  have HF : Hid (fullW l = ((l ++ [128]) ++ List.replicate ((119 - l.length % 64) % 64) 0) ++ bitsB l.length 8) := Lib.hid rfl
  have HW := Lib.hid (fullW_whole l)
  have HLf : Hid ((fullW l).length ≤ 2000000) := Lib.hid (by
    unfold fullW
    simp only [List.length_append, List.length_replicate, List.length_cons, List.length_nil, bitsB_length]
    omega)
  have hzI : ((119 : Int) - (l.length : Int) % 64) % 64 = (((119 - l.length % 64) % 64 : Nat) : Int) := by omega
  have hb8 : (l.length : Int) * 8 = ((8 * l.length : Nat) : Int) := by omega
  generalize (119 - l.length % 64) % 64 = z at *
  generalize fullW l = all at *
  have hlI : (l.length : Int) ≤ 1000000 := by omega
  go_enter Tryz.func128, Tryz.ntmps128
  go_wp2_with fail
  have e8 : 8 * (l.length : Int) = ((8 * l.length : Nat) : Int) := by omega
  rw [hzI, e8]
  clear hzI hb8 e8
  refine rsum_one l.length hl w _ _ _ ?_ _ _ _ _ _ _ _ _ _ _ _ _ _ _ _ _ _ _ _ _ _ _ _ _ _ _ _ _ _ _ _ _ _ _ _ _ _ _ _ _ _ _ _ _ _ _ _ _ _ _ _ _ _ _ _ _ _ _ _ _
  intro s1 s2 s4 s6 s7 s8 s9 s10 s11 s12 s13 s14 s15 s16 s17 s18 s19 s20 s21 s22 s23 s24 s25 s26 s27 s28 s29 s30 s31 s32 s33 s34 s35 s36 s37 s38 s39 s40 s41 s42 s43 s44 s45 s46 s47 s48 s49 s50 s51 s52 s53 s54 s55 s56 s57 s58 s59 s60 s61 s62 s63 s64 w2 hb2
  obtain ⟨o2, hmk, hcv⟩ := zeros_of w2 z (by omega)
  have hbl : (bitsB l.length 8).length ≤ 8 := Nat.le_of_eq (bitsB_length l.length 8)
  have hzl : (List.replicate z (0 : UInt8)).length ≤ 64 := by rw [List.length_replicate]; omega
  generalize List.replicate z (0 : UInt8) = zs at *
  have HB2 := Lib.hid hb2
  have hz9 : (z : Int) ≤ 64 := by omega
  clear hb2
  generalize bitsB l.length 8 = en at *
  go_wp2_with fail
  have HB3 : Hid (Below w.heap.size w (w2.alloc o2)) := Lib.hid (HB2.out.nxt (by go_grown))
  clear hmk hcv
  generalize w2.alloc o2 = W3 at HB3 ⊢
  refine (rsha_First _).mono ?_
  rintro e w4 ⟨rfl, hb4⟩
  have HB4 := Lib.hid (HB3.out.nxt hb4)
  clear hb4
  have I8 : Hid ((Tryz.prog.info? 180).map (·.size) = some (wvs firstH).toArray.size) := Lib.hid info_w8
  have A8 := Lib.hid (wvs_all firstH)
  have Z8 : Hid ((#[.int .u32 0, .int .u32 0, .int .u32 0, .int .u32 0, .int .u32 0, .int .u32 0, .int .u32 0, .int .u32 0] : Array Value).size = (wvs firstH).toArray.size) := Lib.hid rfl
  have HAll : Hid (l ++ 128 :: (zs ++ en) = all) := Lib.hid (by rw [HF.out]; simp)
  generalize hgf : (wvs firstH).toArray = fs at *
  have HG := Lib.hid hgf
  clear hgf
  go_wp2_with ((with_reducible refine at_storeR 41 ?_); refine wpList_store_row rfl 180 _ _ rfl w4.heap.size _ rfl rfl _ _ (heap_alloc_new w4 _) I8.out Z8.out A8.out ?_)
  rw [World.setRow_alloc_new]
  rw [HAll.out]
  have FA : Hid (Blk (w4.alloc (.cells fs 180)) w4.heap.size 180 fs ∧ Below w.heap.size w (w4.alloc (.cells fs 180)) ∧ w.heap.size ≤ w4.heap.size ∧ w.heap.size ≤ (w4.alloc (.cells fs 180)).heap.size) := Lib.hid ⟨Blk.new _ _ _, HB4.out.nxt (by go_grown), HB4.out.size, by have := HB4.out.size; simp; omega⟩
  generalize w4.alloc (.cells fs 180) = W5 at FA ⊢
  generalize w4.heap.size = gh at *
  refine rsum_two all HLf.out HW.out w.heap.size W5 gh FA.out.2.2.1 FA.out.2.2.2 (by rw [HG.out]; exact FA.out.1) _ ?_ _ _ _ _ _ _ _ _ _ _ _ _ _ _ _ _ _ _ _ _ _ _ _ _ _ _ _ _ _ _ _ _ _ _ _ _ _ _ _ _ _ _ _ _ _ _ _ _ _ _ _ _ _ _ _ _ _ _ _ _ _ _
  intro s0 s1 s2 s3 s4 s5 s6 s9 s10 s11 s12 s13 s14 s15 s16 s17 s18 s19 s20 s21 s22 s23 s24 s25 s26 s27 s28 s29 s30 s31 s32 s33 s34 s35 s36 s37 s38 s39 s40 s41 s42 s43 s44 s45 s46 s47 s48 s49 s50 s51 s52 s53 s54 s55 s56 s57 s58 s59 s60 s61 s62 s63 s64 w6 hw6 hb6
  have F6 := Lib.hid hw6
  have HB6 := Lib.hid (FA.out.2.1.trans hb6)
  have hhl := hsW_length firstH all rfl (all.length / 64)
  have HT := Lib.hid (fun W => rsha_Told (hsW firstH all (all.length / 64)) hhl W)
  have I9 := Lib.hid (size_of8 hhl)
  clear hw6 hb6 hhl FA
  generalize hsW firstH all (all.length / 64) = hf at *
  go_wp2_with ((with_reducible refine at_loadR 63 ?_); refine wpList_load_row rfl 180 _ rfl gh rfl _ _ _ _ F6.out Tryz.underlying180 rfl I9.out ?_)
  refine (HT.out _).mono ?_
  rintro e w7 ⟨rfl, hb7⟩
  go_wp2_with fail
  exact HP.out _ (HB6.out.nxt hb7)
end Go.Proofs.YtcjafcbekegmlaaGreatDoor

namespace Go.Proofs.YtcjafcbekegmlaaGreatDoor
set_option linter.unusedVariables false
open Go.RowKit Go.Instr
attribute [local go_sem] ByteArray.mk_append_mk
theorem ref04_Tagged (w : World) (tag : Nat) (h2 : tag ≤ 255) (l : List UInt8) (hl : l.length ≤ 999999) :
    Calls Tryz.prog 93 #[.int .i64 (tag : Int), .string ⟨l.toArray⟩] w fun e w' => e = .returned (.string ⟨(shaW (UInt8.ofNat tag :: l)).toArray⟩) ∧ Below w.heap.size w w' := by
  have HS : Hid (∀ W, Calls Tryz.prog 128 #[.string ⟨(UInt8.ofNat tag :: l).toArray⟩] W fun e w' => e = .returned (.string ⟨(shaW (UInt8.ofNat tag :: l)).toArray⟩) ∧ Below W.heap.size W w') := Lib.hid (fun W => rsha_Sum (UInt8.ofNat tag :: l) (by simp; omega) W)
  have HP : Hid (∀ S w', shaW (UInt8.ofNat tag :: l) = S → Below w.heap.size w w' → (fun e w' => e = Ending.returned (.string ⟨(shaW (UInt8.ofNat tag :: l)).toArray⟩) ∧ Below w.heap.size w w') (Ending.returned (.string ⟨S.toArray⟩)) w') := Lib.hid (fun S W' e a2 => ⟨by rw [e], a2⟩)
  generalize (fun e w' => e = Ending.returned (.string ⟨(shaW (UInt8.ofNat tag :: l)).toArray⟩) ∧ Below w.heap.size w w') = P at HP ⊢
  have hw : IntKind.u8.wrap (tag : Int) = (tag : Int) := IntWalk.u8_in _ (by omega)
  have cv := conv1 w (tag : Int) (by omega) (by omega)
  rw [Int.toNat_natCast] at cv
  have hlI : (l.length : Int) ≤ 999999 := by omega
  go_enter Tryz.func93, Tryz.ntmps93
  go_wp2_with fail
  clear cv
  refine (HS.out _).mono ?_
  rintro e w1 ⟨rfl, hb1⟩
  have HQ := Lib.hid (HP.out _ w1 rfl (Below.nxt (by go_grown) hb1))
  clear hb1 HS HP
  generalize shaW (UInt8.ofNat tag :: l) = S at *
  go_wp2_with fail
  exact HQ.out
end Go.Proofs.YtcjafcbekegmlaaGreatDoor

namespace Go.Proofs.YtcjafcbekegmlaaGreatDoor
set_option linter.unusedVariables false
open Go.RowKit Go.Instr
attribute [local go_sem] ba_get ByteArray.mk_append_mk
set_option maxRecDepth 100000 in
set_option maxHeartbeats 4000000 in
theorem ref08_written1 (w : World) (p v : List UInt8) (K : List (List UInt8)) (hK : K.length = 16) (hf : fineN 1 p v K = true) :
    Calls Tryz.prog 132 #[.agg (nodeV 1 p v K).toArray] w (Ret w (.string ⟨(nodeText 1 p v K).toArray⟩)) := by
  obtain ⟨_, hfit, hp, hv, hs⟩ := fineN_parts hf
  have HP : Hid (∀ s w', nodeText 1 p v K = s → Below w.heap.size w w' → Ret w (.string ⟨(nodeText 1 p v K).toArray⟩) (Ending.returned (.string ⟨s.toArray⟩)) w') := Lib.hid (fun b w' h h2 => by rw [h]; exact ⟨rfl, h2⟩)
  generalize Ret w (.string ⟨(nodeText 1 p v K).toArray⟩) = P at HP ⊢
  rw [show nodeText 1 p v K = 1 :: (textW (Nib.packed p true) ++ textW v) from rfl] at HP
  have hpl := Nib.packed_length p true
  have HPk := Lib.hid (fun W => refnib_Pack p true W (by omega))
  rw [show Nib.pack p true = (Nib.packed p true, 0) by unfold Nib.pack; rw [hfit]; rfl] at HPk
  have HT1 := Lib.hid (fun W => ref02_Text (Nib.packed p true) (by omega) W)
  have HT2 := Lib.hid (fun W => ref02_Text v (by omega) W)
  have l1 := textW_len (Nib.packed p true) (by omega)
  have l2 := textW_len v (by omega)
  have l1 : (textW (Nib.packed p true)).length ≤ 1000 := by omega
  have l2 : (textW v).length ≤ 1000 := by omega
  clear hf hs hpl hfit
  generalize textW (Nib.packed p true) = X at *
  generalize textW v = Y at *
  generalize Nib.packed p true = pk at *
  have m1 : 1 + X.length ≤ 9223372036854775807 := by omega
  have m2 : 1 + X.length + Y.length ≤ 9223372036854775807 := by omega
  have m3 : X.length + 1 + Y.length ≤ 9223372036854775807 := by omega
  go_enter Tryz.func132, Tryz.ntmps132
  go_upto_region 1 with fail
  have F := Live.ha (Lib.hid (Live.start w)) (nodeV 1 p v K).toArray 107
  generalize w.alloc (.cells (nodeV 1 p v K).toArray 107) = W0 at F ⊢
  obtain ⟨q0, q1, q2, RK, _⟩ := NodeAt.of (C := []) (by rw [List.append_nil]; exact F.out.blk 0 rfl)
  have cv := conv1 W0 1 (by omega) (by omega)
  go_upto_region 2 with fail
  have F := Live.ha F #[.int .u8 1] 5
  clear cv q0 q1 q2 RK
  generalize W0.alloc (.cells #[.int .u8 1] 5) = W1 at F ⊢
  replace F : Hid (Live w W1 [(w.heap.size, 107, (nodeV 1 p v K).toArray)]) := Lib.hid (F.out.drop 1)
  obtain ⟨q0, q1, q2, RK, _⟩ := NodeAt.of (C := []) (by rw [List.append_nil]; exact F.out.blk 0 rfl)
  go_wp2_with fail
  refine (HPk.out _).mono ?_
  rintro e w1 ⟨rfl, hb⟩
  (first | have F := Live.hb F hb | have F := Live.hbd F hb); clear hb
  clear q0 q1 q2 RK
  obtain ⟨q0, q1, q2, RK, _⟩ := NodeAt.of (C := []) (by rw [List.append_nil]; exact F.out.blk 0 rfl)
  go_wp2_with fail
  refine (HT1.out _).mono ?_
  rintro e w2 ⟨rfl, hb⟩
  (first | have F := Live.hb F hb | have F := Live.hbd F hb); clear hb
  clear q0 q1 q2 RK
  obtain ⟨q0, q1, q2, RK, _⟩ := NodeAt.of (C := []) (by rw [List.append_nil]; exact F.out.blk 0 rfl)
  go_wp2_with fail
  refine (HT2.out _).mono ?_
  rintro e w3 ⟨rfl, hb⟩
  (first | have F := Live.hb F hb | have F := Live.hbd F hb); clear hb
  go_wp2
  exact HP.out _ _ rfl F.out.b
set_option maxRecDepth 100000 in
set_option maxHeartbeats 4000000 in
theorem ref08_written2 (w : World) (p v : List UInt8) (K : List (List UInt8)) (hK : K.length = 16) (hf : fineN 2 p v K = true) :
    Calls Tryz.prog 132 #[.agg (nodeV 2 p v K).toArray] w (Ret w (.string ⟨(nodeText 2 p v K).toArray⟩)) := by
  obtain ⟨_, hfit, hp, hv, hs⟩ := fineN_parts hf
  have hk0 := (fine_ext hf).1
  have HP : Hid (∀ s w', nodeText 2 p v K = s → Below w.heap.size w w' → Ret w (.string ⟨(nodeText 2 p v K).toArray⟩) (Ending.returned (.string ⟨s.toArray⟩)) w') := Lib.hid (fun b w' h h2 => by rw [h]; exact ⟨rfl, h2⟩)
  generalize Ret w (.string ⟨(nodeText 2 p v K).toArray⟩) = P at HP ⊢
  rw [show nodeText 2 p v K = 2 :: (textW (Nib.packed p false) ++ K.getD 0 []) from rfl] at HP
  have hpl := Nib.packed_length p false
  have HPk := Lib.hid (fun W => refnib_Pack p false W (by omega))
  rw [show Nib.pack p false = (Nib.packed p false, 0) by unfold Nib.pack; rw [hfit]; rfl] at HPk
  have HT1 := Lib.hid (fun W => ref02_Text (Nib.packed p false) (by omega) W)
  have l1 := textW_len (Nib.packed p false) (by omega)
  have l1 : (textW (Nib.packed p false)).length ≤ 1000 := by omega
  have HK0 := Lib.hid (strv_getD (K := K) (i := 0) (by omega))
  clear hf hs hpl hfit
  generalize textW (Nib.packed p false) = X at *
  generalize Nib.packed p false = pk at *
  generalize K.getD 0 [] = k0 at *
  have m1 : 1 + X.length ≤ 9223372036854775807 := by omega
  have m2 : 1 + X.length + k0.length ≤ 9223372036854775807 := by omega
  have m3 : X.length + 1 + k0.length ≤ 9223372036854775807 := by omega
  clear hk0
  go_enter Tryz.func132, Tryz.ntmps132
  go_upto_region 1 with fail
  have F := Live.ha (Lib.hid (Live.start w)) (nodeV 2 p v K).toArray 107
  generalize w.alloc (.cells (nodeV 2 p v K).toArray 107) = W0 at F ⊢
  obtain ⟨q0, q1, q2, RK, _⟩ := NodeAt.of (C := []) (by rw [List.append_nil]; exact F.out.blk 0 rfl)
  have cv := conv1 W0 2 (by omega) (by omega)
  go_upto_region 2 with fail
  have F := Live.ha F #[.int .u8 2] 5
  clear cv q0 q1 q2 RK
  generalize W0.alloc (.cells #[.int .u8 2] 5) = W1 at F ⊢
  replace F : Hid (Live w W1 [(w.heap.size, 107, (nodeV 2 p v K).toArray)]) := Lib.hid (F.out.drop 1)
  obtain ⟨q0, q1, q2, RK, _⟩ := NodeAt.of (C := []) (by rw [List.append_nil]; exact F.out.blk 0 rfl)
  go_wp2_with fail
  refine (HPk.out _).mono ?_
  rintro e w1 ⟨rfl, hb⟩
  (first | have F := Live.hb F hb | have F := Live.hbd F hb); clear hb
  clear q0 q1 q2 RK
  obtain ⟨q0, q1, q2, RK, _⟩ := NodeAt.of (C := []) (by rw [List.append_nil]; exact F.out.blk 0 rfl)
  go_wp2_with fail
  refine (HT1.out _).mono ?_
  rintro e w2 ⟨rfl, hb⟩
  (first | have F := Live.hb F hb | have F := Live.hbd F hb); clear hb
  clear q0 q1 q2 RK
  obtain ⟨q0, q1, q2, RK, _⟩ := NodeAt.of (C := []) (by rw [List.append_nil]; exact F.out.blk 0 rfl)
  have q3 : w2.cell? ⟨w.heap.size, 3, none⟩ = some (.string ⟨k0.toArray⟩) := RK 0 _ HK0.out
  clear RK
  go_wp2
  exact HP.out _ _ rfl F.out.b
theorem ref08_Written (w : World) (k : Nat) (p v : List UInt8) (K : List (List UInt8)) (hK : K.length = 16) (hf : fineN k p v K = true) :
    Calls Tryz.prog 132 #[.agg (nodeV k p v K).toArray] w (Ret w (.string ⟨(nodeText k p v K).toArray⟩)) := by
  obtain ⟨h1 | h1 | h1, _⟩ := id (fineN_parts hf)
  · subst h1; exact ref08_written1 w p v K hK hf
  · subst h1; exact ref08_written2 w p v K hK hf
  · subst h1
    have hp : p = [] := by simp [fineN] at hf; exact hf.1.1.1
    subst hp
    exact ref08_written3 w v K hK hf
set_option maxRecDepth 100000 in
set_option maxHeartbeats 4000000 in
theorem ref08_Digest (w : World) (k : Nat) (p v : List UInt8) (K : List (List UInt8)) (hK : K.length = 16) (hf : fineN k p v K = true) :
    Calls Tryz.prog 137 #[.agg (nodeV k p v K).toArray] w (Ret w (.string ⟨(nodeSum k p v K).toArray⟩)) := by
  have HP : Hid (∀ w', Below w.heap.size w w' → Ret w (.string ⟨(nodeSum k p v K).toArray⟩) (Ending.returned (.string ⟨(nodeSum k p v K).toArray⟩)) w') := Lib.hid (fun w' h2 => ⟨rfl, h2⟩)
  generalize Ret w (.string ⟨(nodeSum k p v K).toArray⟩) = P at HP ⊢
  have HF := Lib.hid (fun W => ref08_Fine W k p v K hK (by have := (fineN_parts hf).2.2.1; omega))
  rw [fineR_eq k p v K hK, hf] at HF
  have HW := Lib.hid (fun W => ref08_Written W k p v K hK hf)
  have hl := nodeText_len hK hf
  have HT : Hid (∀ W, Calls Tryz.prog 93 #[.int .i64 1, .string ⟨(nodeText k p v K).toArray⟩] W (Ret W (.string ⟨(nodeSum k p v K).toArray⟩))) := Lib.hid (fun W => ref04_Tagged W 1 (by omega) _ (by omega))
  clear hl hf
  generalize nodeText k p v K = T at *
  generalize nodeSum k p v K = S at *
  go_enter Tryz.func137, Tryz.ntmps137
  go_upto_region 1 with fail
  have SZ : (Tryz.prog.info? 107).map (·.size) = some (nodeV k p v K).length := by rw [nodeV_size hK]; exact info_node
  have F := Live.ha (Lib.hid (Live.start w)) (nodeV k p v K).toArray 107
  generalize w.alloc (.cells (nodeV k p v K).toArray 107) = W0 at F ⊢
  obtain ⟨_, _, _, _, RA⟩ := NodeAt.of (C := []) (by rw [List.append_nil]; exact F.out.blk 0 rfl)
  go_wp2_with (first | (refine wpList_load_mid rfl 107 _ rfl w.heap.size 0 rfl _ _ RA Tryz.underlying107 rfl SZ ?_))
  refine (HF.out _).mono ?_
  rintro e w1 ⟨rfl, hb⟩
  (first | have F := Live.hb F hb | have F := Live.hbd F hb); clear hb
  clear RA
  obtain ⟨_, _, _, _, RA⟩ := NodeAt.of (C := []) (by rw [List.append_nil]; exact F.out.blk 0 rfl)
  go_wp2_with (first | (refine wpList_load_mid rfl 107 _ rfl w.heap.size 0 rfl _ _ RA Tryz.underlying107 rfl SZ ?_))
  refine (HW.out _).mono ?_
  rintro e w2 ⟨rfl, hb⟩
  (first | have F := Live.hb F hb | have F := Live.hbd F hb); clear hb
  clear RA
  obtain ⟨_, _, _, _, RA⟩ := NodeAt.of (C := []) (by rw [List.append_nil]; exact F.out.blk 0 rfl)
  go_wp2_with fail
  refine (HT.out _).mono ?_
  rintro e w3 ⟨rfl, hb⟩
  (first | have F := Live.hb F hb | have F := Live.hbd F hb); clear hb
  go_wp2
  exact HP.out _ F.out.b
end Go.Proofs.YtcjafcbekegmlaaGreatDoor

namespace Go.Proofs.YtcjafcbekegmlaaGreatDoor
set_option linter.unusedVariables false
open Go.RowKit Go.Instr
attribute [local go_sem] ba_get ByteArray.mk_append_mk
set_option maxRecDepth 100000 in
set_option maxHeartbeats 1000000 in
theorem ref02_RBytes (w : World) (g : Nat) (s : List UInt8 × Nat) (h : RRd w g s) (n : Nat) (hn : n ≤ 1000) :
    Calls Tryz.prog 129 #[.pointer (some ⟨g, 0, none⟩), .int .i64 (n : Int)] w (RRdEnd w g (.string ⟨(bytesS s n).1.toArray⟩) (bytesS s n).2) := by
  obtain ⟨l, c⟩ := s
  obtain ⟨hB, hl⟩ := h
  simp only at hB hl
  have HP : Hid (∀ (t : List UInt8) s' w', bytesS (l, c) n = (t, s') → RRd w' g s' → w.grownBy w' (some g) → RRdEnd w g (.string ⟨(bytesS (l, c) n).1.toArray⟩) (bytesS (l, c) n).2 (.returned (.string ⟨t.toArray⟩)) w') := Lib.hid (fun n s' w' e h1 h2 => by rw [e]; exact ⟨rfl, h1, h2⟩)
  have HX : Hid (bytesS (l, c) n = if c ≠ 0 then ([], (l, c)) else if n ≤ l.length then (l.take n, (l.drop n, 0)) else ([], (l, 20))) := Lib.hid rfl
  generalize RRdEnd w g (.string ⟨(bytesS (l, c) n).1.toArray⟩) (bytesS (l, c) n).2 = P at HP ⊢
  generalize bytesS (l, c) n = X at *
  have c0 : w.cell? ⟨g, 0, none⟩ = some (.string ⟨l.toArray⟩) := hB.cell 0
  have c1 : w.cell? ⟨g, 1, none⟩ = some (.int .i64 (c : Int)) := hB.cell 1
  have f0 : w.frozen? ⟨g, 0, none⟩ = false := hB.frozen 0
  have f1 : w.frozen? ⟨g, 1, none⟩ = false := hB.frozen 1
  have HB := Lib.hid hB
  have HL := Lib.hid hl
  have hn0 : ((n : Int) < 0) = False := by simp
  by_cases hc : c = 0
  · subst hc
    by_cases hle : n ≤ l.length
    · have HE : Hid (X = (l.take n, (l.drop n, 0))) := Lib.hid (by rw [HX.out, if_neg (by simp), if_pos hle])
      have h1 : ((l.length : Int) < (n : Int)) = False := by simp; omega
      have t1 := run_take l n (by omega)
      have t2 := run_drop l n (by omega)
      have HLn : Hid ((l.drop n).length ≤ 1000000) := Lib.hid (by rw [List.length_drop]; omega)
      clear hB hl hle HX
      generalize l.take n = t at *
      generalize l.drop n = d at *
      go_enter Tryz.func129, Tryz.ntmps129
      go_wp2
      exact HP.out _ _ _ HE.out ⟨HB.out.set_ 0 (.string ⟨d.toArray⟩), HLn.out⟩ (grown_set0 (World.grownBy.refl _ _) _ _)
    · have HE : Hid (X = ([], (l, 20))) := Lib.hid (by rw [HX.out, if_neg (by simp), if_neg hle])
      have h1 : (l.length : Int) < (n : Int) := by omega
      clear hB hl hle HX
      go_enter Tryz.func129, Tryz.ntmps129
      go_wp2
      exact HP.out _ _ _ HE.out ⟨HB.out.set_ 1 (.int .i64 20), HL.out⟩ (grown_set0 (World.grownBy.refl _ _) _ _)
  · have HE : Hid (X = ([], (l, c))) := Lib.hid (by rw [HX.out, if_pos hc])
    have hc1 : ((c : Int) != 0) = true := by simp; exact hc
    clear hB hl hc HX
    go_enter Tryz.func129, Tryz.ntmps129
    go_wp2
    exact HP.out _ _ _ HE.out ⟨HB.out, HL.out⟩ (World.grownBy.refl _ _)
end Go.Proofs.YtcjafcbekegmlaaGreatDoor
