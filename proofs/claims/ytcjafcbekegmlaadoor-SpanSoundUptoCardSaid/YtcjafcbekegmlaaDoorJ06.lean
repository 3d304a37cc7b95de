import Derived.Test.YtcjafcbekegmlaaDoorJ05
import Derived.BigRegion
set_option linter.unusedSimpArgs false
set_option linter.unusedVariables false
namespace Go.Proofs.YtcjafcbekegmlaaDoor
set_option linter.unusedVariables false
open Go.RowKit Go.Instr
def padW (rest : List UInt8) (m : Nat) : List UInt8 := ((rest ++ [128]) ++ List.replicate (padN rest.length) 0) ++ bitsB m 8
def hsumW (hs : List UInt32) (rest : List UInt8) (m : Nat) : List UInt8 := tdW (hsW hs (padW rest m) ((padW rest m).length / 64)) 8
set_option maxRecDepth 100000 in
set_option maxHeartbeats 2000000 in
theorem sha_HSum (w : World) (g : Nat) (hs : List UInt32) (hh : hs.length = 8) (rest : List UInt8) (hr : rest.length < 64) (m : Nat) (hm : m ≤ 1000000) (At : Option Addr) (ct : Nat) (hT : Tbl w)
    (hg : Blk w g 135 (hcells hs (.slice At rest.length ct) m)) (HR : Reads w w.heap.size 1 At rest.length (bvals rest)) :
    Calls Tryd.prog 75 #[.pointer (some ⟨g, 0, none⟩)] w fun e w' => e = .returned (.string ⟨(hsumW hs rest m).toArray⟩) ∧ Below w.heap.size w w' := by
  obtain ⟨u0, u1, u2, u3, u4, u5, u6, u7, rfl⟩ := eight hh
  have hb : Blk w g 135 #[.int .u32 (u0.toNat : Int), .int .u32 (u1.toNat : Int), .int .u32 (u2.toNat : Int), .int .u32 (u3.toNat : Int), .int .u32 (u4.toNat : Int), .int .u32 (u5.toNat : Int), .int .u32 (u6.toNat : Int), .int .u32 (u7.toNat : Int), .slice At rest.length ct, .int .i64 m] := hg
  have hlt := hg.lt
  obtain ⟨i0, hi0, hz0, hz1, hz2⟩ := info_parts info_byte
  obtain ⟨⟨c0, c1, c2, c3, c4, c5, c6, c7, c8, c9⟩, ⟨f0, f1, f2, f3, f4, f5, f6, f7, f8, f9⟩⟩ := hfacts hb
  have HP : Hid (∀ z, z = hsW [u0, u1, u2, u3, u4, u5, u6, u7] (padW rest m) ((padW rest m).length / 64) → Ending.returned (.string ⟨(tdW z 8).toArray⟩) = .returned (.string ⟨(hsumW [u0, u1, u2, u3, u4, u5, u6, u7] rest m).toArray⟩)) := Lib.hid (fun z hz => by rw [hz]; rfl)
  have HB := Lib.hid hb
  have HT := Lib.hid hT
  have hpos := hT.pos
  have R1 := Lib.hid HR
  clear hg hb hT HR f0 f1 f2 f3 f4 f5 f6 f7 f8 f9
  generalize Ending.returned (.string ⟨(hsumW [u0, u1, u2, u3, u4, u5, u6, u7] rest m).toArray⟩) = RR at HP ⊢
  go_enter Tryd.func75, Tryd.ntmps75
  go_wp2_with (first | (at_builtin; refine wpList_append_any _ rfl _ _ 87 rfl w.heap.size 5 i0 (.int .u8 0) 1 1 Tryd.underlying87 hi0 hz0 hz1 hz2 rfl (by decide) (.slice none 0 0) 0 [] rfl (World.ownsRow_nil _ _ _ _) w.heap.size At rest.length ct (bvals rest) rfl R1.out (bvals_one _) (by simp only [maxLen]; omega) (by omega) (Nat.le_refl _) ?_; intro v3 w3 own3 hg3 _; have own3' : w3.ownsRow w.heap.size 5 1 v3 rest.length (bvals rest) := (by simpa using own3); obtain ⟨A3, c3', rfl, _, _, _⟩ := own_form own3'; have hb3 : Below w.heap.size w w3 := (Below.refl _ _).grown (row := none) hg3 (Nat.le_refl _) (by simp); have G3 := Lib.hid (And.intro own3' hb3); clear own3 own3' hg3 hb3) | (at_builtin; refine wpList_append_new _ 5 [.int .u8 128] rfl _ _ 87 rfl w.heap.size 1 1 _ info_byte Tryd.underlying87 rfl (by decide) (.slice A3 rest.length c3') rest.length _ rfl G3.out.1 1 1 rfl rfl (by simp [Value.oneCell']) (by simp only [maxLen]; omega) (by omega) w.heap.size w G3.out.2 (Nat.le_refl _) G3.out.2.size ?_; intro v4 w4 own4 hb4 hg4 ho4 hs4; have own4' : w4.ownsRow w.heap.size 5 1 v4 (rest.length + 1) (bvals (rest ++ [128])) := (by rw [bvals_append]; exact own4); obtain ⟨A4, c4', rfl, _, _, _⟩ := own_form own4'; have G4 := Lib.hid (And.intro own4' hb4); clear own4 own4' hb4 hg4 ho4 hs4))
  have hl128 : (rest ++ [128]).length = rest.length + 1 := by simp
  refine pad_loop (rest ++ [128]) (by omega) (by omega) w4 w.heap.size A4 _ c4' (by omega) G4.out.1 G4.out.2.size _ _ ?_ _ _ _ _ _ _ _ _ _ _ _ _ _ _ _ _ _ _ _ _ _ _ _ _ _ _ _ _ _ _ _ _ _ _ _ _ _ _ _ _ _ _ _ _ _ _ _ _ _ _ _
  intro s1 s2 s4 s5 s6 s7 s8 s9 s10 s11 s12 s13 s14 s15 s16 s17 s18 s19 s20 s21 s22 s23 s24 s25 s26 s27 s28 s29 s30 s31 s32 s33 s34 s35 s36 s37 s38 s39 s40 s41 s42 s43 s44 s45 s46 s47 s48 s49 s50 s51 s52 A5 n5 c5' w5 hn5 own5 hb5
  rw [hl128, Nat.add_sub_cancel] at hn5 own5
  have hb5' := G4.out.2.trans hb5
  obtain ⟨⟨c0, c1, c2, c3, c4, c5, c6, c7, c8, c9⟩, _⟩ := hfacts (HB.out.below hb5' hlt)
  have G5 := Lib.hid (And.intro own5 (And.intro hb5' hn5))
  have hn5b : n5 ≤ 200 := by
    rw [hn5]
    simp only [List.length_append, List.length_replicate, List.length_cons, List.length_nil]
    have : padN rest.length < 64 := by unfold padN; omega
    omega
  clear own5 hb5 hb5' hn5 G3 G4 hl128
  go_wp2_with fail
  have G5n : n5 = (rest ++ [128] ++ List.replicate (padN rest.length) 0).length := G5.out.2.2
  refine bits_loop (rest ++ [128] ++ List.replicate (padN rest.length) 0) (by omega) m hm _ ?hX w5 w.heap.size A5 n5 c5' G5n G5.out.1 G5.out.2.1.size _ _ ?_ _ _ _ _ _ _ _ _ _ _ _ _ _ _ _ _ _ _ _ _ _ _ _ _ _ _ _ _ _ _ _ _ _ _ _ _ _ _ _ _ _ _ _ _ _ _ _ _ _
  case hX =>
    first | (simp; done) | (simp; omega) | omega
  intro s1 s2 s4 s5 s6 s7 s8 s9 s10 s11 s12 s13 s14 s15 s16 s17 s18 s19 s20 s21 s22 s23 s24 s25 s26 s27 s28 s29 s30 s31 s32 s33 s34 s35 s36 s37 s38 s39 s40 s41 s42 s43 s44 s45 s46 s47 s48 s49 s50 s51 s52 A6 n6 c6' w6 hn6 own6 hb6
  have hb6' := G5.out.2.1.trans hb6
  obtain ⟨⟨c0, c1, c2, c3, c4, c5, c6, c7, c8, c9⟩, _⟩ := hfacts (HB.out.below hb6' hlt)
  have hpad : n6 = (padW rest m).length := hn6
  have own6' : w6.ownsRow w.heap.size 5 1 (.slice A6 n6 c6') n6 (bvals (padW rest m)) := own6
  have hn6b : (padW rest m).length ≤ 1000000 := by
    rw [← hpad, hn6, List.length_append, ← G5n, bitsB_length]
    omega
  clear own6 hn6 hb6 G5 G5n hn5b
  generalize padW rest m = E at *
  subst hpad
  obtain ⟨_, _, e6, hr6, hc6, _⟩ := own_form own6'
  injection e6 with e61 _ e62
  subst e61
  subst e62
  have HC : Hid (Calls Tryd.prog 89 #[.agg #[.int .u32 (u0.toNat : Int), .int .u32 (u1.toNat : Int), .int .u32 (u2.toNat : Int), .int .u32 (u3.toNat : Int), .int .u32 (u4.toNat : Int), .int .u32 (u5.toNat : Int), .int .u32 (u6.toNat : Int), .int .u32 (u7.toNat : Int)], .slice A6 E.length c6'] w6 (BlocksEnd w6 [u0, u1, u2, u3, u4, u5, u6, u7] E)) := Lib.hid (sha_blocks _ rfl E hn6b A6 c6' hc6 w6 (HT.out.below hb6' hpos) hr6)
  have B6 := Lib.hid hb6'
  obtain ⟨z0, z1, z2, z3, z4, z5, z6, z7, hz⟩ := eight (hsW_length [u0, u1, u2, u3, u4, u5, u6, u7] E rfl (E.length / 64))
  have HZ : Hid ((wvs (hsW [u0, u1, u2, u3, u4, u5, u6, u7] E (E.length / 64))).toArray = #[.int .u32 (z0.toNat : Int), .int .u32 (z1.toNat : Int), .int .u32 (z2.toNat : Int), .int .u32 (z3.toNat : Int), .int .u32 (z4.toNat : Int), .int .u32 (z5.toNat : Int), .int .u32 (z6.toNat : Int), .int .u32 (z7.toNat : Int)]) := Lib.hid (by rw [hz]; rfl)
  have HR2 := Lib.hid (HP.out _ hz.symm)
  have HTD : Hid (∀ w7, Calls Tryd.prog 90 #[.agg #[.int .u32 (z0.toNat : Int), .int .u32 (z1.toNat : Int), .int .u32 (z2.toNat : Int), .int .u32 (z3.toNat : Int), .int .u32 (z4.toNat : Int), .int .u32 (z5.toNat : Int), .int .u32 (z6.toNat : Int), .int .u32 (z7.toNat : Int)]] w7 fun e w' => e = .returned (.string ⟨(tdW [z0, z1, z2, z3, z4, z5, z6, z7] 8).toArray⟩) ∧ Below w7.heap.size w7 w') := Lib.hid (fun w7 => sha_told [z0, z1, z2, z3, z4, z5, z6, z7] rfl w7)
  generalize tdW [z0, z1, z2, z3, z4, z5, z6, z7] 8 = S at *
  clear hz HP hb6' own6' hr6 hc6 HB R1 HT
  go_wp2_with fail
  refine HC.out.mono ?_
  unfold BlocksEnd
  rw [HZ.out]
  rintro e w7 ⟨v7, rfl, own7, hb7⟩
  obtain ⟨A7, c7', rfl, _, _, _⟩ := own_form own7
  have B7 := Lib.hid (B6.out.trans (hb7.mono B6.out.size))
  clear own7 hb7
  go_wp2_with fail
  refine (HTD.out _).mono ?_
  rintro e w8 ⟨rfl, hb8⟩
  have B8 : Hid (Below w.heap.size w w8) := Lib.hid ((B7.out.alloc B7.out.size _).trans (hb8.mono (by rw [World.size_alloc]; have := B7.out.size; omega)))
  clear hb8
  go_wp2
  go_ret
  exact ⟨HR2.out, B8.out⟩
end Go.Proofs.YtcjafcbekegmlaaDoor

namespace Go.Proofs.YtcjafcbekegmlaaDoor
set_option linter.unusedVariables false
open Go.RowKit Go.Instr
def shaW (l : List UInt8) : List UInt8 := hsumW (hsW firstH l (l.length / 64)) (l.drop (64 * (l.length / 64))) l.length
theorem shaW_length (l : List UInt8) : (shaW l).length = 32 := by
  unfold shaW hsumW
  rw [tdW_length]
theorem sha_Sum (w : World) (l : List UInt8) (hl : l.length ≤ 1000000) (hT : Tbl w) :
    Calls Tryd.prog 60 #[.string ⟨l.toArray⟩] w fun e w' => e = .returned (.string ⟨(shaW l).toArray⟩) ∧ Below w.heap.size w w' := by
  have hpos := hT.pos
  have HT := Lib.hid hT
  have HS : Hid (shaW l = hsumW (hsW firstH l (l.length / 64)) (l.drop (64 * (l.length / 64))) l.length) := Lib.hid rfl
  generalize shaW l = S at *
  clear hT
  go_enter Tryd.func60, Tryd.ntmps60
  go_wp2_with fail
  refine (sha_New w).mono ?_
  rintro e w1 ⟨g, rfl, hg, hb, h1⟩
  go_wp2_with fail
  refine (sha_Write w1 g l hl (HT.out.next h1) hb (by omega)).mono ?_
  rintro e w2 ⟨rfl, A, c, hb2, own2, hg2⟩
  have B2 : Below w.heap.size w w2 := h1.grown hg2 h1.size (by intro k e; injection e with e; omega)
  obtain ⟨_, _, e6, hr2, hc2, _⟩ := own_form own2
  injection e6 with e61 _ e62
  subst e61
  subst e62
  have hrl : (l.drop (64 * (l.length / 64))).length < 64 := by rw [List.length_drop]; omega
  have K2 := Lib.hid (And.intro hb2 (And.intro hr2 (And.intro B2 hrl)))
  clear hb2 own2 hg2 hr2 B2 hb h1 hrl
  go_wp2_with fail
  refine (sha_HSum w2 g _ (hsW_length firstH l rfl _) _ K2.out.2.2.2 l.length hl A c (HT.out.next K2.out.2.2.1) K2.out.1 K2.out.2.1).mono ?_
  rintro e w3 ⟨rfl, hb3⟩
  rw [← HS.out]
  have B3 := Lib.hid (K2.out.2.2.1.nxt hb3)
  clear hb3
  go_wp2
  go_ret
  exact ⟨rfl, B3.out⟩
theorem digest_Sum (w : World) (tag : Nat) (h1 : 1 ≤ tag) (h2 : tag ≤ 255) (l : List UInt8) (hl : l.length ≤ 999999) (hT : Tbl w) :
    Calls Tryd.prog 46 #[.int .i64 (tag : Int), .string ⟨l.toArray⟩] w fun e w' => e = .returned (.tuple #[.string ⟨(shaW (UInt8.ofNat tag :: l)).toArray⟩, .int .i64 0]) ∧ Below w.heap.size w w' := by
  have g1 : ((tag : Int) < 1) = False := by simp; omega
  have g2 : ((255 : Int) < tag) = False := by simp; omega
  have g3 : (tag : Int) < 256 := by omega
  have g4 : (0 : Int) ≤ tag := by omega
  have hcv := conv1 w (tag : Int) g4 g3
  have HT := Lib.hid hT
  have hpos := hT.pos
  have HC := Lib.hid (fun w' hT' => sha_Sum w' (UInt8.ofNat tag :: l) (by rw [List.length_cons]; omega) hT')
  clear hT
  generalize shaW (UInt8.ofNat tag :: l) = S at *
  go_enter Tryd.func46, Tryd.ntmps46
  go_wp2_with fail
  rw [show ((⟨#[UInt8.ofNat tag]⟩ : ByteArray) ++ ⟨l.toArray⟩) = ⟨(UInt8.ofNat tag :: l).toArray⟩ from by rw [ByteArray.mk_append_mk]; congr 1]
  refine (HC.out _ (HT.out.next (by go_grown))).mono ?_
  rintro e w1 ⟨rfl, hb1⟩
  have B1 : Hid (Below w.heap.size w w1) := Lib.hid ((((Below.refl _ _).alloc (Nat.le_refl _) _)).trans (hb1.mono (by rw [World.size_alloc]; omega)))
  clear hb1 hcv
  go_wp2
  go_ret2
  exact ⟨rfl, B1.out⟩
end Go.Proofs.YtcjafcbekegmlaaDoor

namespace Go.Proofs.YtcjafcbekegmlaaDoor
set_option linter.unusedVariables false
open Go.RowKit Go.Instr
def beB (n : Nat) : List UInt8 := if h : n = 0 then [] else beB (n / 256) ++ [UInt8.ofNat n]
termination_by n
theorem beB_zero : beB 0 = [] := by rw [beB]; simp
theorem beB_pos {n : Nat} (h : 0 < n) : beB n = beB (n / 256) ++ [UInt8.ofNat n] := by
  rw [beB, dif_neg (by omega)]
def numW (n : Nat) : List UInt8 := UInt8.ofNat (beB n).length :: beB n
theorem rep_set (k : Nat) (x : UInt8) (D : List UInt8) : (List.replicate (k + 1) (0 : UInt8) ++ D).set k x = List.replicate k 0 ++ (x :: D) := by
  rw [List.replicate_succ', List.append_assoc, List.set_append_right _ _ (by simp)]
  simp
set_option maxRecDepth 100000 in
set_option maxHeartbeats 1000000 in
theorem num_loop (n : Nat) (hn : n < 9223372036854775808) (w0 : World) (gb : Nat) (hB : Blk w0 gb 147 (bvals (List.replicate 8 0)).toArray)
    (Q : Exit → Act → World → Prop)
    (hQ : ∀ (s0 s1 s2 s5 s6 s7 s8 s9 s10 s11 s12 s13 s14 s15 s16 s17 s18 s19 s20 s21 s22 s23 : Value) (k : Nat) (w2 : World), k + (beB n).length = 8 → Blk w2 gb 147 (bvals (List.replicate k 0 ++ beB n)).toArray → w0.grownBy w2 (some gb) → w2.heap.size = w0.heap.size → Q (.exit 0) { tmps := #[s0, s1, s2, .pointer (some ⟨gb, 0, none⟩), .int .i64 (k : Int), s5, s6, s7, s8, s9, s10, s11, s12, s13, s14, s15, s16, s17, s18, s19, s20, s21, s22, s23], defers := [] } w2)
    (s1 s2 s5 s6 s7 s8 s9 s10 s11 s12 s13 s14 s15 s16 s17 s18 s19 s20 s21 s22 s23 : Value) :
    Code.wp Tryd.prog (.loop (loopAt Tryd.f96 0)) Q { tmps := #[.int .i64 (n : Int), s1, s2, .pointer (some ⟨gb, 0, none⟩), .int .i64 8, s5, s6, s7, s8, s9, s10, s11, s12, s13, s14, s15, s16, s17, s18, s19, s20, s21, s22, s23], defers := [] } w0 := by
  have HQ := Lib.hid hQ
  clear hQ
  refine wp_loop_ghost_k (fun k a wr => ∀ Φ : Act → Prop, (∀ (s1 s2 s5 s6 s7 s8 s9 s10 s11 s12 s13 s14 s15 s16 s17 s18 s19 s20 s21 s22 s23 : Value) (m : Nat) (k1' : Nat) (D : List UInt8), (k = k1' ∧ k1' + D.length = 8 ∧ m < 256 ^ k1' ∧ m < 9223372036854775808 ∧ beB n = beB m ++ D ∧ Blk wr gb 147 (bvals (List.replicate k1' 0 ++ D)).toArray ∧ w0.grownBy wr (some gb) ∧ wr.heap.size = w0.heap.size) → Φ { tmps := #[.int .i64 (m : Int), s1, s2, .pointer (some ⟨gb, 0, none⟩), .int .i64 (k1' : Int), s5, s6, s7, s8, s9, s10, s11, s12, s13, s14, s15, s16, s17, s18, s19, s20, s21, s22, s23], defers := [] }) → Φ a) (8) ?_ ?_
  · refine fun Φ hΦ => hΦ _ _ _ _ _ _ _ _ _ _ _ _ _ _ _ _ _ _ _ _ _ (n) (8) ([]) ?_
    exact ⟨rfl, rfl, by omega, hn, by simp, by simpa using hB, World.grownBy.refl _ _, rfl⟩
  · intro k1 a1 wr1 hI1 J1 K1 hJ1 hK1
    refine hI1 (fun a => Code.wp _ _ _ a _) ?_
    clear hI1 a1
    intro s0 s1 s2 s3 s4 s5 s6 s7 s8 s9 s10 s11 s12 s13 s14 s15 s16 s17 s18 s19 s20 m k2 D hrel
    show Code.wp _ _ _ _ _
    conv => arg 2; whnf
    obtain ⟨h1, h2, h3, h4, h5, hw, hg, hs⟩ := hrel
    by_cases hm : 0 < m
    · obtain ⟨k, rfl⟩ : ∃ k, k2 = k + 1 := ⟨k2 - 1, by
        rcases k2 with _ | k
        · simp at h3; omega
        · rfl⟩
      have hm1 : (0 : Int) < m := by omega
      have hm2 : (m : Int) ≤ 9223372036854775807 := by omega
      have hk : k < 8 := by omega
      have hk1 : (k : Int) < 8 := by omega
      have c0 : wr1.cell? ⟨gb, k, none⟩ = some (.int .u8 (((List.replicate (k + 1) 0 ++ D).getD k 0).toNat : Int)) := (hw.cell _).trans (bvals_at (by simp; omega))
      have f0 : wr1.frozen? ⟨gb, k, none⟩ = false := hw.frozen _
      have e8 := u8_wrap_nat m
      have HE := Lib.hid (beB_pos hm)
      have H := Lib.hid (And.intro h1 (And.intro h2 (And.intro h3 (And.intro h4 (And.intro h5 (And.intro hw (And.intro hg hs)))))))
      generalize (List.replicate (k + 1) 0 ++ D).getD k 0 = y at *
      clear h1 h2 h3 h4 h5 hw hg hs
      go_wp2
      refine Handed.intro (k) ?_ (hJ1 _ _ _ (fun Φ hΦ => hΦ _ _ _ _ _ _ _ _ _ _ _ _ _ _ _ _ _ _ _ _ _ (m / 256) (k) (UInt8.ofNat m :: D) ?_))
      · have := H.out.1
        show k < k1
        omega
      · obtain ⟨h1, h2, h3, h4, h5, hw, hg, hs⟩ := H.out
        have hw2 := hw.set_ k (.int .u8 ((UInt8.ofNat m).toNat : Int))
        rw [bvals_set, rep_set] at hw2
        refine ⟨rfl, by rw [List.length_cons]; omega, ?_, by omega, ?_, hw2, grown_set0 hg _ _, by simp [hs]⟩
        · rw [Nat.pow_succ] at h3
          exact Nat.div_lt_of_lt_mul (by rw [Nat.mul_comm]; exact h3)
        · rw [h5, HE.out, List.append_assoc]
          rfl
    · have e : m = 0 := by omega
      subst e
      rw [beB_zero, List.nil_append] at h5
      rw [← h5] at hw h2
      have H := Lib.hid (And.intro h2 (And.intro hw (And.intro hg hs)))
      clear h1 h2 h3 h4 h5 hw hg hs
      go_wp2
      exact HQ.out _ _ _ _ _ _ _ _ _ _ _ _ _ _ _ _ _ _ _ _ _ _ _ _ H.out.1 H.out.2.1 H.out.2.2.1 H.out.2.2.2
end Go.Proofs.YtcjafcbekegmlaaDoor

namespace Go.Proofs.YtcjafcbekegmlaaDoor
set_option linter.unusedVariables false
open Go.RowKit Go.Instr
attribute [local go_sem] ByteArray.mk_append_mk
theorem zeros8 : (bvals (List.replicate 8 0)).toArray = #[.int .u8 0, .int .u8 0, .int .u8 0, .int .u8 0, .int .u8 0, .int .u8 0, .int .u8 0, .int .u8 0] := rfl
set_option maxRecDepth 100000 in
set_option maxHeartbeats 1000000 in
theorem code_num (n : Nat) (hn : n < 9223372036854775808) (w : World) :
    Calls Tryd.prog 96 #[.int .i64 (n : Int)] w fun e w' => e = .returned (.string ⟨(numW n).toArray⟩) ∧ Below w.heap.size w w' := by
  have h8 := Lib.hid zeros8
  have HS : Hid (numW n = UInt8.ofNat (beB n).length :: beB n) := Lib.hid rfl
  generalize numW n = S at *
  go_enter Tryd.func96, Tryd.ntmps96
  go_wp2
  rw [← h8.out]
  have F0 : Hid (Blk (w.alloc (.cells (bvals (List.replicate 8 0)).toArray 147)) w.heap.size 147 (bvals (List.replicate 8 0)).toArray ∧ Below w.heap.size w (w.alloc (.cells (bvals (List.replicate 8 0)).toArray 147))) := Lib.hid ⟨Blk.new _ _ _, by go_grown⟩
  generalize w.alloc (.cells (bvals (List.replicate 8 0)).toArray 147) = W0 at F0 ⊢
  refine num_loop n hn W0 w.heap.size F0.out.1 _ ?_ _ _ _ _ _ _ _ _ _ _ _ _ _ _ _ _ _ _ _ _ _
  intro s0 s1 s2 s5 s6 s7 s8 s9 s10 s11 s12 s13 s14 s15 s16 s17 s18 s19 s20 s21 s22 s23 k w2 hk hb2 hg2 hs2
  have B2 : Below w.heap.size w w2 := F0.out.2.grown hg2 F0.out.2.size (by intro j e; injection e with e; omega)
  generalize beB n = D at *
  have hlt := hb2.lt
  have hk8 : k ≤ 8 := by omega
  have cv1 := conv1 w2.drew ((8 : Int) - k) (by omega) (by omega)
  have cv1' := conv1 w2 ((8 : Int) - k) (by omega) (by omega)
  rw [show UInt8.ofNat ((8 : Int) - k).toNat = UInt8.ofNat D.length by congr 1; omega] at cv1 cv1'
  have ek : (8 : Int) - k = D.length := by omega
  have cvD : ∀ w' A, (A = some (if 8 = k then (⟨w.heap.size, 0, none⟩ : Addr) else ⟨w.heap.size, k, none⟩)) → w'.heap[w.heap.size]? = w2.heap[w.heap.size]? → (convert 87 9 (.slice A (8 - k) (8 - k))).run Tryd.prog w' = .ok (.string ⟨D.toArray⟩) w' := by
    intro w' A hA hw'
    subst hA
    have hb3 : Blk w' w.heap.size 147 (bvals (List.replicate k 0 ++ D)).toArray := hw'.trans hb2
    refine conv_reads w' w'.heap.size _ (8 - k) (8 - k) D ⟨by rw [bvals_length]; omega, fun h0 => ?_⟩
    rw [if_neg (by omega)]
    refine ⟨_, rfl, hb3.lt, fun j v hv => ?_⟩
    rw [Addr.add_mid, hb3.cell]
    rw [bvals_append]
    have : (bvals (List.replicate k (0 : UInt8))).length = k := by rw [bvals_length, List.length_replicate]
    simp only [List.getElem?_toArray]
    rw [List.getElem?_append_right (by omega), this, Nat.add_sub_cancel_left]
    exact hv
  have K2 := Lib.hid (And.intro B2 (And.intro hlt cvD))
  clear hb2 hg2 hs2 F0 hlt cvD
  have kk1 : (0 : Int) ≤ 8 - k := by omega
  have kk2 : (8 : Int) - k < 256 := by omega
  have kk3 : (k : Int) ≤ 8 := by omega
  have E1 := conv1d w2 ((8 : Int) - k) kk1 kk2
  rw [show UInt8.ofNat ((8 : Int) - k).toNat = UInt8.ofNat D.length by congr 1; omega] at E1
  clear cv1 cv1' ek
  by_cases hk88 : k = 8
  · subst hk88
    have hD : D = [] := List.eq_nil_of_length_eq_zero (by omega)
    subst hD
    have z1 : IntKind.i64.wrap 0 = 0 := rfl
    have z2 : IntKind.u8.wrap 0 = 0 := rfl
    have z3 : (8 : Int) - (8 : Nat) = 0 := rfl
    have E1' := conv1d w2 0 (by omega) (by omega)
    have E2 := K2.out.2.2 w2.drew (some ⟨w.heap.size, 0, none⟩) (by simp) rfl
    have E3 := K2.out.2.2 (w2.alloc (.cells #[.int .u8 0] 5)).drew (some ⟨w.heap.size, 0, none⟩) (by simp) (Below.heap_alloc _ _ _ K2.out.2.1)
    rw [show (8 - 8 : Nat) = 0 from rfl] at E2 E3
    clear E1
    go_wp2
    go_region
    rw [show (#[0] : Array UInt8) = S.toArray from congrArg List.toArray HS.out.symm]
    go_wp2
    go_ret
    refine ⟨rfl, ?_⟩
    exact (K2.out.1.alloc K2.out.1.size _).drew
  · have E2 := K2.out.2.2 w2.drew (some ⟨w.heap.size, k, none⟩) (by rw [if_neg (fun e => hk88 e.symm)]) rfl
    have E3 := K2.out.2.2 (w2.alloc (.cells #[.int .u8 ((8 : Int) - k)] 5)).drew (some ⟨w.heap.size, k, none⟩) (by rw [if_neg (fun e => hk88 e.symm)]) (Below.heap_alloc _ _ _ K2.out.2.1)
    have kk4 : (k : Int) < 8 := by omega
    have kk5 : k < 8 := by omega
    go_wp2
    go_region
    rw [← HS.out]
    go_wp2
    go_ret
    refine ⟨rfl, ?_⟩
    exact (K2.out.1.alloc K2.out.1.size _).drew
end Go.Proofs.YtcjafcbekegmlaaDoor
