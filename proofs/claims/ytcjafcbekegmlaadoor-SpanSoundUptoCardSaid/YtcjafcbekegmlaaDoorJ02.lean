import Derived.Test.YtcjafcbekegmlaaDoorJ01
import Derived.Laws.BitsAllLaws
import Derived.StillTailTactics
import Derived.IntWalk
set_option linter.unusedSimpArgs false
set_option linter.unusedVariables false
namespace Go.Proofs.YtcjafcbekegmlaaDoor
set_option linter.unusedVariables false
open Go.RowKit
def loopsOf : Code → List Code
  | .loop c => c :: loopsOf c
  | .seq a b => loopsOf a ++ loopsOf b
  | .block _ c => loopsOf c
  | .scope c => loopsOf c
  | .cond _ a b => loopsOf a ++ loopsOf b
  | _ => []
noncomputable def loopAt (f : Func) (n : Nat) : Code := (((f.body.map loopsOf).getD [])[n]?).getD .skip
end Go.Proofs.YtcjafcbekegmlaaDoor

namespace Go.Proofs.YtcjafcbekegmlaaDoor
set_option linter.unusedVariables false
open Go.RowKit Go.Instr
def wv (x : UInt32) : Value := .int .u32 (x.toNat : Int)
def wvs (l : List UInt32) : List Value := l.map wv
theorem wvs_length (l : List UInt32) : (wvs l).length = l.length := by simp [wvs]
theorem wvs_one (l : List UInt32) : ∀ u ∈ wvs l, u.oneCell' = true := by
  intro u hu
  simp [wvs] at hu
  obtain ⟨n, _, rfl⟩ := hu
  rfl
theorem u32_lt (x : UInt32) : x.toNat < 4294967296 := x.toNat_lt
def orW (a b : UInt32) : UInt32 := a ||| b
def xorW (a b : UInt32) : UInt32 := a ^^^ b
def andW (a b : UInt32) : UInt32 := a &&& b
def addW (a b : UInt32) : UInt32 := a + b
def notW (a : UInt32) : UInt32 := ~~~ a
def shrW (a : UInt32) (n : Nat) : UInt32 := a >>> n.toUInt32
def shlW (a : UInt32) (n : Nat) : UInt32 := a <<< n.toUInt32
def ofB (b : UInt8) : UInt32 := b.toUInt32
def toB (a : UInt32) : UInt8 := a.toUInt8
def rotW (x : UInt32) (n : Nat) : UInt32 := orW (shrW x n) (shlW x (32 - n))
theorem w_or (a b : UInt32) : bits .or .u32 (a.toNat : Int) (b.toNat : Int) = ((orW a b).toNat : Int) := by
  rw [u32_or_nat _ _ (u32_lt a) (u32_lt b), orW, UInt32.toNat_or]
theorem w_xor (a b : UInt32) : bits .xor .u32 (a.toNat : Int) (b.toNat : Int) = ((xorW a b).toNat : Int) := by
  rw [u32_xor_nat _ _ (u32_lt a) (u32_lt b), xorW, UInt32.toNat_xor]
theorem w_and (a b : UInt32) : bits .and .u32 (a.toNat : Int) (b.toNat : Int) = ((andW a b).toNat : Int) := by
  rw [u32_and_nat _ _ (u32_lt a) (u32_lt b), andW, UInt32.toNat_and]
theorem w_add (a b : UInt32) : IntKind.u32.wrap ((a.toNat : Int) + (b.toNat : Int)) = ((addW a b).toNat : Int) := by
  rw [IntKind.wrap_u32', addW, UInt32.toNat_add]
  omega
theorem w_shr (x : UInt32) (n : Nat) (h : n < 32) : (x.toNat : Int) / 2 ^ n = ((shrW x n).toNat : Int) := by
  rw [shrW, UInt32.toNat_shiftRight]
  have : n.toUInt32.toNat % 32 = n := by
    simp
    omega
  rw [this, Nat.shiftRight_eq_div_pow]
  simp
theorem w_shl (x : UInt32) (n : Nat) (h : n < 32) : ((x.toNat : Int) * 2 ^ n) % 4294967296 = ((shlW x n).toNat : Int) := by
  rw [shlW, UInt32.toNat_shiftLeft]
  have : n.toUInt32.toNat % 32 = n := by
    simp
    omega
  rw [this, Nat.shiftLeft_eq]
  simp
theorem w_rot (x : UInt32) (n : Nat) (h0 : 0 < n) (h1 : n < 32) : bits .or .u32 ((x.toNat : Int) / 2 ^ n) ((x.toNat : Int) * 2 ^ (32 - n) % 4294967296) = ((rotW x n).toNat : Int) := by
  rw [w_shr x n h1, w_shl x (32 - n) (by omega), w_or]
  rfl
theorem ofB_toNat (x : UInt8) : (ofB x).toNat = x.toNat := by simp [ofB]
theorem w_u8 (x : UInt8) : IntKind.u32.wrap (x.toNat : Int) = ((ofB x).toNat : Int) := by
  rw [IntKind.wrap_u32', ofB_toNat]
  have := x.toNat_lt
  omega
theorem w_shl24 (x : UInt32) : IntKind.u32.wrap ((x.toNat : Int) * 16777216) = ((shlW x 24).toNat : Int) := by
  rw [IntKind.wrap_u32']; exact w_shl x 24 (by omega)
theorem w_shl16 (x : UInt32) : IntKind.u32.wrap ((x.toNat : Int) * 65536) = ((shlW x 16).toNat : Int) := by
  rw [IntKind.wrap_u32']; exact w_shl x 16 (by omega)
theorem w_shl8 (x : UInt32) : IntKind.u32.wrap ((x.toNat : Int) * 256) = ((shlW x 8).toNat : Int) := by
  rw [IntKind.wrap_u32']; exact w_shl x 8 (by omega)
theorem w_shr3 (x : UInt32) : (x.toNat : Int) / 8 = ((shrW x 3).toNat : Int) := w_shr x 3 (by omega)
theorem w_shr10 (x : UInt32) : (x.toNat : Int) / 1024 = ((shrW x 10).toNat : Int) := w_shr x 10 (by omega)
theorem w_shr8 (x : UInt32) : (x.toNat : Int) / 256 = ((shrW x 8).toNat : Int) := w_shr x 8 (by omega)
theorem w_shr16 (x : UInt32) : (x.toNat : Int) / 65536 = ((shrW x 16).toNat : Int) := w_shr x 16 (by omega)
theorem w_shr24 (x : UInt32) : (x.toNat : Int) / 16777216 = ((shrW x 24).toNat : Int) := w_shr x 24 (by omega)
theorem w_toB (x : UInt32) : IntKind.u8.wrap (x.toNat : Int) = ((toB x).toNat : Int) := by
  simp [IntKind.wrap, IntKind.bits, IntKind.signed, toB]
end Go.Proofs.YtcjafcbekegmlaaDoor

namespace Go.Proofs.YtcjafcbekegmlaaDoor
set_option linter.unusedVariables false
open Go.RowKit Go.Instr
theorem sha_rot (x : UInt32) (n : Nat) (h0 : 0 < n) (h1 : n < 32) (w : World) :
    Calls Tryd.prog 98 #[.int .u32 (x.toNat : Int), .int .u64 (n : Int)] w fun e w' => e = .returned (.int .u32 ((rotW x n).toNat : Int)) ∧ w' = w := by
  have h := w_rot x n h0 h1
  go_enter Tryd.func98, Tryd.ntmps98
  go_wp2
  go_ret
  exact ⟨rfl, rfl⟩
theorem sha_rot2 (x : UInt32) (w : World) : Calls Tryd.prog 98 #[.int .u32 (x.toNat : Int), .int .u64 2] w fun e w' => e = .returned (.int .u32 ((rotW x 2).toNat : Int)) ∧ w' = w := sha_rot x 2 (by omega) (by omega) w
theorem sha_rot6 (x : UInt32) (w : World) : Calls Tryd.prog 98 #[.int .u32 (x.toNat : Int), .int .u64 6] w fun e w' => e = .returned (.int .u32 ((rotW x 6).toNat : Int)) ∧ w' = w := sha_rot x 6 (by omega) (by omega) w
theorem sha_rot7 (x : UInt32) (w : World) : Calls Tryd.prog 98 #[.int .u32 (x.toNat : Int), .int .u64 7] w fun e w' => e = .returned (.int .u32 ((rotW x 7).toNat : Int)) ∧ w' = w := sha_rot x 7 (by omega) (by omega) w
theorem sha_rot11 (x : UInt32) (w : World) : Calls Tryd.prog 98 #[.int .u32 (x.toNat : Int), .int .u64 11] w fun e w' => e = .returned (.int .u32 ((rotW x 11).toNat : Int)) ∧ w' = w := sha_rot x 11 (by omega) (by omega) w
theorem sha_rot13 (x : UInt32) (w : World) : Calls Tryd.prog 98 #[.int .u32 (x.toNat : Int), .int .u64 13] w fun e w' => e = .returned (.int .u32 ((rotW x 13).toNat : Int)) ∧ w' = w := sha_rot x 13 (by omega) (by omega) w
theorem sha_rot17 (x : UInt32) (w : World) : Calls Tryd.prog 98 #[.int .u32 (x.toNat : Int), .int .u64 17] w fun e w' => e = .returned (.int .u32 ((rotW x 17).toNat : Int)) ∧ w' = w := sha_rot x 17 (by omega) (by omega) w
theorem sha_rot18 (x : UInt32) (w : World) : Calls Tryd.prog 98 #[.int .u32 (x.toNat : Int), .int .u64 18] w fun e w' => e = .returned (.int .u32 ((rotW x 18).toNat : Int)) ∧ w' = w := sha_rot x 18 (by omega) (by omega) w
theorem sha_rot19 (x : UInt32) (w : World) : Calls Tryd.prog 98 #[.int .u32 (x.toNat : Int), .int .u64 19] w fun e w' => e = .returned (.int .u32 ((rotW x 19).toNat : Int)) ∧ w' = w := sha_rot x 19 (by omega) (by omega) w
theorem sha_rot22 (x : UInt32) (w : World) : Calls Tryd.prog 98 #[.int .u32 (x.toNat : Int), .int .u64 22] w fun e w' => e = .returned (.int .u32 ((rotW x 22).toNat : Int)) ∧ w' = w := sha_rot x 22 (by omega) (by omega) w
theorem sha_rot25 (x : UInt32) (w : World) : Calls Tryd.prog 98 #[.int .u32 (x.toNat : Int), .int .u64 25] w fun e w' => e = .returned (.int .u32 ((rotW x 25).toNat : Int)) ∧ w' = w := sha_rot x 25 (by omega) (by omega) w
end Go.Proofs.YtcjafcbekegmlaaDoor

namespace Go.Proofs.YtcjafcbekegmlaaDoor
set_option linter.unusedVariables false
open Go.RowKit Go.Instr
attribute [local go_sem] w_or w_u8 w_shl24 w_shl16 w_shl8 w_xor w_add w_shr3 w_shr10
def wdAt (b : List UInt8) (i : Nat) : UInt32 := orW (orW (orW (shlW (ofB (b.getD (4 * i) 0)) 24) (shlW (ofB (b.getD (4 * i + 1) 0)) 16)) (shlW (ofB (b.getD (4 * i + 2) 0)) 8)) (ofB (b.getD (4 * i + 3) 0))
def ldW (b : List UInt8) : Nat → List UInt32
  | 0 => List.replicate 64 0
  | i + 1 => (ldW b i).set i (wdAt b i)
def sgA (x : UInt32) : UInt32 := xorW (xorW (rotW x 7) (rotW x 18)) (shrW x 3)
def sgB (y : UInt32) : UInt32 := xorW (xorW (rotW y 17) (rotW y 19)) (shrW y 10)
def exW (l : List UInt32) : Nat → List UInt32
  | 0 => l
  | k + 1 => let m := exW l k; m.set (16 + k) (addW (addW (addW (m.getD k 0) (sgA (m.getD (k + 1) 0))) (m.getD (k + 9) 0)) (sgB (m.getD (k + 14) 0)))
def spreadW (b : List UInt8) : List UInt32 := exW (ldW b 16) 48
theorem ldW_length (b : List UInt8) : ∀ i, (ldW b i).length = 64
  | 0 => rfl
  | i + 1 => by rw [ldW, List.length_set, ldW_length b i]
theorem exW_length (l : List UInt32) (h : l.length = 64) : ∀ k, (exW l k).length = 64
  | 0 => h
  | k + 1 => by
    have := exW_length l h k
    simp only [exW, List.length_set, this]
theorem wvs_set (l : List UInt32) (i : Nat) (x : UInt32) : (wvs l).toArray.setIfInBounds i (.int .u32 (x.toNat : Int)) = (wvs (l.set i x)).toArray := by
  simp [wvs, wv, List.map_set]
theorem wvs_at {l : List UInt32} {i : Nat} (h : i < l.length) : (wvs l).toArray[i]? = some (.int .u32 ((l.getD i 0).toNat : Int)) := by
  simp [wvs, wv, h]
theorem bvals_at {l : List UInt8} {i : Nat} (h : i < l.length) : (bvals l).toArray[i]? = some (.int .u8 ((l.getD i 0).toNat : Int)) := by
  simp [bvals, h]
theorem grown_set {w w' : World} {g : Nat} (h : w.grownBy w' (some g)) (i : Nat) (v : Value) : w.grownBy (w'.setCell ⟨g, i, none⟩ v).drew (some g) :=
  ⟨h.os, h.tape, h.output, by rw [World.size_drew, World.size_setCell]; exact h.size, fun k hk hne => (Below.heap_setCell w' ⟨g, i, none⟩ v k (fun e => hne (by rw [e]))).trans (h.block k hk hne)⟩
set_option maxRecDepth 100000 in
theorem spread_one (b : List UInt8) (hb : b.length = 64) (w0 : World) (gb gw : Nat) (hB : Blk w0 gb 113 (bvals b).toArray) (hW : Blk w0 gw 140 (wvs (ldW b 0)).toArray)
    (Q : Exit → Act → World → Prop)
    (p2 : Value)
    (hQ : ∀ (s0 s4 s5 s6 s7 s8 s9 s10 s11 s12 s13 s14 s15 s16 s17 s18 s19 s20 s21 s22 s23 s24 s25 s26 s27 s28 s29 s30 s31 s32 s33 s34 s35 s36 s37 s38 s39 s40 s41 s42 s43 s44 s45 s46 s47 s48 s49 s50 s51 s52 s53 s54 s55 s56 s57 s58 s59 s60 s61 s62 s63 s64 s65 s66 s67 s68 s69 s70 s71 s72 s73 s74 s75 s76 s77 s78 s79 s80 s81 s82 s83 s84 : Value) (w2 : World), Blk w2 gw 140 (wvs (ldW b 16)).toArray → w0.grownBy w2 (some gw) → w2.heap.size = w0.heap.size → Q (.exit 0) { tmps := #[s0, .pointer (some ⟨gb, 0, none⟩), p2, .pointer (some ⟨gw, 0, none⟩), s4, s5, s6, s7, s8, s9, s10, s11, s12, s13, s14, s15, s16, s17, s18, s19, s20, s21, s22, s23, s24, s25, s26, s27, s28, s29, s30, s31, s32, s33, s34, s35, s36, s37, s38, s39, s40, s41, s42, s43, s44, s45, s46, s47, s48, s49, s50, s51, s52, s53, s54, s55, s56, s57, s58, s59, s60, s61, s62, s63, s64, s65, s66, s67, s68, s69, s70, s71, s72, s73, s74, s75, s76, s77, s78, s79, s80, s81, s82, s83, s84], defers := [] } w2)
    (s0 s4 s5 s6 s7 s9 s10 s11 s12 s13 s14 s15 s16 s17 s18 s19 s20 s21 s22 s23 s24 s25 s26 s27 s28 s29 s30 s31 s32 s33 s34 s35 s36 s37 s38 s39 s40 s41 s42 s43 s44 s45 s46 s47 s48 s49 s50 s51 s52 s53 s54 s55 s56 s57 s58 s59 s60 s61 s62 s63 s64 s65 s66 s67 s68 s69 s70 s71 s72 s73 s74 s75 s76 s77 s78 s79 s80 s81 s82 s83 s84 : Value) :
    Code.wp Tryd.prog (.loop (loopAt Tryd.f97 0)) Q { tmps := #[s0, .pointer (some ⟨gb, 0, none⟩), p2, .pointer (some ⟨gw, 0, none⟩), s4, s5, s6, s7, .int .i64 0, s9, s10, s11, s12, s13, s14, s15, s16, s17, s18, s19, s20, s21, s22, s23, s24, s25, s26, s27, s28, s29, s30, s31, s32, s33, s34, s35, s36, s37, s38, s39, s40, s41, s42, s43, s44, s45, s46, s47, s48, s49, s50, s51, s52, s53, s54, s55, s56, s57, s58, s59, s60, s61, s62, s63, s64, s65, s66, s67, s68, s69, s70, s71, s72, s73, s74, s75, s76, s77, s78, s79, s80, s81, s82, s83, s84], defers := [] } w0 := by
  have HQ := Lib.hid hQ
  clear hQ
  refine wp_loop_ghost_k (fun k a wr => ∀ Φ : Act → Prop, (∀ (s0 s4 s5 s6 s7 s9 s10 s11 s12 s13 s14 s15 s16 s17 s18 s19 s20 s21 s22 s23 s24 s25 s26 s27 s28 s29 s30 s31 s32 s33 s34 s35 s36 s37 s38 s39 s40 s41 s42 s43 s44 s45 s46 s47 s48 s49 s50 s51 s52 s53 s54 s55 s56 s57 s58 s59 s60 s61 s62 s63 s64 s65 s66 s67 s68 s69 s70 s71 s72 s73 s74 s75 s76 s77 s78 s79 s80 s81 s82 s83 s84 : Value) (i : Nat), (i + k = 16 ∧ Blk wr gw 140 (wvs (ldW b i)).toArray ∧ w0.grownBy wr (some gw) ∧ wr.heap.size = w0.heap.size) → Φ { tmps := #[s0, .pointer (some ⟨gb, 0, none⟩), p2, .pointer (some ⟨gw, 0, none⟩), s4, s5, s6, s7, .int .i64 i, s9, s10, s11, s12, s13, s14, s15, s16, s17, s18, s19, s20, s21, s22, s23, s24, s25, s26, s27, s28, s29, s30, s31, s32, s33, s34, s35, s36, s37, s38, s39, s40, s41, s42, s43, s44, s45, s46, s47, s48, s49, s50, s51, s52, s53, s54, s55, s56, s57, s58, s59, s60, s61, s62, s63, s64, s65, s66, s67, s68, s69, s70, s71, s72, s73, s74, s75, s76, s77, s78, s79, s80, s81, s82, s83, s84], defers := [] }) → Φ a) (16) ?_ ?_
  · refine fun Φ hΦ => hΦ _ _ _ _ _ _ _ _ _ _ _ _ _ _ _ _ _ _ _ _ _ _ _ _ _ _ _ _ _ _ _ _ _ _ _ _ _ _ _ _ _ _ _ _ _ _ _ _ _ _ _ _ _ _ _ _ _ _ _ _ _ _ _ _ _ _ _ _ _ _ _ _ _ _ _ _ _ _ _ _ _ (0) ?_
    exact ⟨by omega, hW, World.grownBy.refl _ _, rfl⟩
  · intro k1 a1 wr1 hI1 J1 K1 hJ1 hK1
    refine hI1 (fun a => Code.wp _ _ _ a _) ?_
    clear hI1 a1
    intro s0 s1 s2 s3 s4 s5 s6 s7 s8 s9 s10 s11 s12 s13 s14 s15 s16 s17 s18 s19 s20 s21 s22 s23 s24 s25 s26 s27 s28 s29 s30 s31 s32 s33 s34 s35 s36 s37 s38 s39 s40 s41 s42 s43 s44 s45 s46 s47 s48 s49 s50 s51 s52 s53 s54 s55 s56 s57 s58 s59 s60 s61 s62 s63 s64 s65 s66 s67 s68 s69 s70 s71 s72 s73 s74 s75 s76 s77 s78 s79 s80 i hrel
    show Code.wp _ _ _ _ _
    conv => arg 2; whnf
    obtain ⟨h1, hw, hg, hs⟩ := hrel
    by_cases hi : i < 16
    · have hne : gb ≠ gw := hB.ne_ hW (by decide)
      have hbb := hB.grown hg (by intro e; injection e with e; exact hne e)
      have q0 : wr1.cell? ⟨gb, 4 * i, none⟩ = some (.int .u8 ((b.getD (4 * i) 0).toNat : Int)) := (hbb.cell _).trans (bvals_at (by omega))
      have q1 : wr1.cell? ⟨gb, 4 * i + 1, none⟩ = some (.int .u8 ((b.getD (4 * i + 1) 0).toNat : Int)) := (hbb.cell _).trans (bvals_at (by omega))
      have q2 : wr1.cell? ⟨gb, 4 * i + 2, none⟩ = some (.int .u8 ((b.getD (4 * i + 2) 0).toNat : Int)) := (hbb.cell _).trans (bvals_at (by omega))
      have q3 : wr1.cell? ⟨gb, 4 * i + 3, none⟩ = some (.int .u8 ((b.getD (4 * i + 3) 0).toNat : Int)) := (hbb.cell _).trans (bvals_at (by omega))
      have c0 : wr1.cell? ⟨gw, i, none⟩ = some (.int .u32 (((ldW b i).getD i 0).toNat : Int)) := (hw.cell _).trans (wvs_at (by rw [ldW_length]; omega))
      have f0 : wr1.frozen? ⟨gw, i, none⟩ = false := hw.frozen _
      have hi1 : (i : Int) < 16 := by omega
      have H := Lib.hid (And.intro h1 (And.intro hw (And.intro hg hs)))
      have E : Hid (ldW b (i + 1) = (ldW b i).set i (wdAt b i)) := Lib.hid rfl
      unfold wdAt at E
      generalize b.getD (4 * i) 0 = x0 at *
      generalize b.getD (4 * i + 1) 0 = x1 at *
      generalize b.getD (4 * i + 2) 0 = x2 at *
      generalize b.getD (4 * i + 3) 0 = x3 at *
      generalize ((ldW b i).getD i 0) = x4 at *
      clear h1 hw hg hs hbb
      have v0 : IntKind.i64.wrap (4 * (i : Int)) = 4 * (i : Int) := IntWalk.i64_in _ (by omega)
      have v1 : IntKind.i64.wrap (4 * (i : Int) + 1) = 4 * (i : Int) + 1 := IntWalk.i64_in _ (by omega)
      have v2 : IntKind.i64.wrap (4 * (i : Int) + 2) = 4 * (i : Int) + 2 := IntWalk.i64_in _ (by omega)
      have v3 : IntKind.i64.wrap (4 * (i : Int) + 3) = 4 * (i : Int) + 3 := IntWalk.i64_in _ (by omega)
      have z0 : 0 ≤ 4 * (i : Int) := by omega
      have z1 : 0 ≤ 4 * (i : Int) + 1 := by omega
      have z2 : 0 ≤ 4 * (i : Int) + 2 := by omega
      have z3 : 0 ≤ 4 * (i : Int) + 3 := by omega
      have l0 : 4 * (i : Int) < 64 := by omega
      have l1 : 4 * (i : Int) + 1 < 64 := by omega
      have l2 : 4 * (i : Int) + 2 < 64 := by omega
      have l3 : 4 * (i : Int) + 3 < 64 := by omega
      have t0 : (4 * (i : Int)).toNat = 4 * i := by omega
      have t1 : (4 * (i : Int) + 1).toNat = 4 * i + 1 := by omega
      have t2 : (4 * (i : Int) + 2).toNat = 4 * i + 2 := by omega
      have t3 : (4 * (i : Int) + 3).toNat = 4 * i + 3 := by omega
      have l4 : (i : Int) < 64 := by omega
      go_wp2
      go_still_tail 31, (by kernel_rfl)
      go_wp2
      refine Handed.intro (16 - (i + 1)) ?_ (hJ1 _ _ _ (fun Φ hΦ => hΦ _ _ _ _ _ _ _ _ _ _ _ _ _ _ _ _ _ _ _ _ _ _ _ _ _ _ _ _ _ _ _ _ _ _ _ _ _ _ _ _ _ _ _ _ _ _ _ _ _ _ _ _ _ _ _ _ _ _ _ _ _ _ _ _ _ _ _ _ _ _ _ _ _ _ _ _ _ _ _ _ _ (i + 1) ?_))
      · have := H.out.1
        omega
      · obtain ⟨h1, hw, hg, hs⟩ := H.out
        have e := E.out
        have hw2 := hw.set_ i (.int .u32 ((orW (orW (orW (shlW (ofB x0) 24) (shlW (ofB x1) 16)) (shlW (ofB x2) 8)) (ofB x3)).toNat : Int))
        rw [wvs_set, ← e] at hw2
        refine ⟨by omega, hw2.drew, grown_set hg _ _, ?_⟩
        simp [hs]
    · have e : i = 16 := by omega
      subst e
      have H := Lib.hid (And.intro hw (And.intro hg hs))
      clear hw hg hs h1
      go_wp2
      exact HQ.out _ _ _ _ _ _ _ _ _ _ _ _ _ _ _ _ _ _ _ _ _ _ _ _ _ _ _ _ _ _ _ _ _ _ _ _ _ _ _ _ _ _ _ _ _ _ _ _ _ _ _ _ _ _ _ _ _ _ _ _ _ _ _ _ _ _ _ _ _ _ _ _ _ _ _ _ _ _ _ _ _ _ _ H.out.1 H.out.2.1 H.out.2.2
end Go.Proofs.YtcjafcbekegmlaaDoor
