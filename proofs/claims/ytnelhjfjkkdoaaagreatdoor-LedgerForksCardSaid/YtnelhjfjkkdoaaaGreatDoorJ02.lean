import Derived.Test.YtnelhjfjkkdoaaaGreatDoorJ01
import Derived.IntWalk
import Derived.BigQuiet
import Derived.Laws.Tables
import Derived.Laws.CopyOwn
set_option linter.unusedSimpArgs false
set_option linter.unusedVariables false
namespace Go.Proofs.YtnelhjfjkkdoaaaGreatDoor
open Go.RowKit Go.Instr
attribute [local go_sem] w_or w_u8 w_shl24 w_shl16 w_shl8 w_xor w_add w_shr3 w_shr10
def wdAt (b : List UInt8) (i : Nat) : UInt32:=orW (orW (orW (shlW (ofB (b.getD (4 * i) 0)) 24) (shlW (ofB (b.getD (4 * i + 1) 0)) 16)) (shlW (ofB (b.getD (4 * i + 2) 0)) 8)) (ofB (b.getD (4 * i + 3) 0))
def ldW (b : List UInt8) : Nat → List UInt32
 | 0=>List.replicate 64 0
 | i + 1=>(ldW b i).set i (wdAt b i)
def sgA (x : UInt32) : UInt32:=xorW (xorW (rotW x 7) (rotW x 18)) (shrW x 3)
def sgB (y : UInt32) : UInt32:=xorW (xorW (rotW y 17) (rotW y 19)) (shrW y 10)
def exW (l : List UInt32) : Nat → List UInt32
 | 0=>l
 | k + 1=>let m:=exW l k; m.set (16 + k) (addW (addW (addW (m.getD k 0) (sgA (m.getD (k + 1) 0))) (m.getD (k + 9) 0)) (sgB (m.getD (k + 14) 0)))
def spreadW (b : List UInt8) : List UInt32:=exW (ldW b 16) 48
theorem ldW_length (b : List UInt8) : ∀ i,(ldW b i).length = 64
 | 0=>rfl
 | i + 1=>by rw [ldW,List.length_set,ldW_length b i]
theorem exW_length (l : List UInt32) (h : l.length = 64) : ∀ k,(exW l k).length = 64
 | 0=>h
 | k + 1=>by
  have:=exW_length l h k
  simp only [exW,List.length_set,this]
theorem wvs_set (l : List UInt32) (i : Nat) (x : UInt32) : (wvs l).toArray.setIfInBounds i (.int .u32 (x.toNat : Int)) = (wvs (l.set i x)).toArray:=by
 simp [wvs,wv,List.map_set]
theorem wvs_at {l : List UInt32} {i : Nat} (h : i < l.length) : (wvs l).toArray[i]? = some (.int .u32 ((l.getD i 0).toNat : Int)):=by
 simp [wvs,wv,h]
theorem bvals_at {l : List UInt8} {i : Nat} (h : i < l.length) : (bvals l).toArray[i]? = some (.int .u8 ((l.getD i 0).toNat : Int)):=by
 simp [bvals,h]
theorem grown_set {w w' : World} {g : Nat} (h : w.grownBy w' (some g)) (i : Nat) (v : Value) : w.grownBy (w'.setCell ⟨g,i,none⟩ v).drew (some g) :=
 ⟨h.os,h.tape,h.output,by rw [World.size_drew,World.size_setCell]; exact h.size,fun k hk hne=>(Below.heap_setCell w' ⟨g,i,none⟩ v k (fun e=>hne (by rw [e]))).trans (h.block k hk hne)⟩
set_option maxRecDepth 100000 in
theorem spread_one (b : List UInt8) (hb : b.length = 64) (w0 : World) (gb gw : Nat) (hB : Blk w0 gb 226 (bvals b).toArray) (hW : Blk w0 gw 285 (wvs (ldW b 0)).toArray)
  (Q : Exit → Act → World → Prop)
  (p2 : Value)
  (hQ : ∀ (s0 s4 s5 s6 s7 s8 s9 s10 s11 s12 s13 s14 s15 s16 s17 s18 s19 s20 s21 s22 s23 s24 s25 s26 s27 s28 s29 s30 s31 s32 s33 s34 s35 s36 s37 s38 s39 s40 s41 s42 s43 s44 s45 s46 s47 s48 s49 s50 s51 s52 s53 s54 s55 s56 s57 s58 s59 s60 s61 s62 s63 s64 s65 s66 s67 s68 s69 s70 s71 s72 s73 s74 s75 s76 s77 s78 s79 s80 s81 s82 s83 s84 : Value) (w2 : World),Blk w2 gw 285 (wvs (ldW b 16)).toArray → w0.grownBy w2 (some gw) → w2.heap.size = w0.heap.size → Q (.exit 0) { tmps:=#[s0,.pointer (some ⟨gb,0,none⟩),p2,.pointer (some ⟨gw,0,none⟩),s4,s5,s6,s7,s8,s9,s10,s11,s12,s13,s14,s15,s16,s17,s18,s19,s20,s21,s22,s23,s24,s25,s26,s27,s28,s29,s30,s31,s32,s33,s34,s35,s36,s37,s38,s39,s40,s41,s42,s43,s44,s45,s46,s47,s48,s49,s50,s51,s52,s53,s54,s55,s56,s57,s58,s59,s60,s61,s62,s63,s64,s65,s66,s67,s68,s69,s70,s71,s72,s73,s74,s75,s76,s77,s78,s79,s80,s81,s82,s83,s84],defers := [] } w2)
  (s0 s4 s5 s6 s7 s9 s10 s11 s12 s13 s14 s15 s16 s17 s18 s19 s20 s21 s22 s23 s24 s25 s26 s27 s28 s29 s30 s31 s32 s33 s34 s35 s36 s37 s38 s39 s40 s41 s42 s43 s44 s45 s46 s47 s48 s49 s50 s51 s52 s53 s54 s55 s56 s57 s58 s59 s60 s61 s62 s63 s64 s65 s66 s67 s68 s69 s70 s71 s72 s73 s74 s75 s76 s77 s78 s79 s80 s81 s82 s83 s84 : Value) :
  Code.wp Tryz.prog (.loop (loopAt Tryz.f217 0)) Q { tmps:=#[s0,.pointer (some ⟨gb,0,none⟩),p2,.pointer (some ⟨gw,0,none⟩),s4,s5,s6,s7,.int .i64 0,s9,s10,s11,s12,s13,s14,s15,s16,s17,s18,s19,s20,s21,s22,s23,s24,s25,s26,s27,s28,s29,s30,s31,s32,s33,s34,s35,s36,s37,s38,s39,s40,s41,s42,s43,s44,s45,s46,s47,s48,s49,s50,s51,s52,s53,s54,s55,s56,s57,s58,s59,s60,s61,s62,s63,s64,s65,s66,s67,s68,s69,s70,s71,s72,s73,s74,s75,s76,s77,s78,s79,s80,s81,s82,s83,s84],defers := [] } w0:=by
 have HQ:=Lib.hid hQ
 clear hQ
 refine wp_loop_ghost_k (fun k a wr => ∀ Φ : Act → Prop,(∀ (s0 s4 s5 s6 s7 s9 s10 s11 s12 s13 s14 s15 s16 s17 s18 s19 s20 s21 s22 s23 s24 s25 s26 s27 s28 s29 s30 s31 s32 s33 s34 s35 s36 s37 s38 s39 s40 s41 s42 s43 s44 s45 s46 s47 s48 s49 s50 s51 s52 s53 s54 s55 s56 s57 s58 s59 s60 s61 s62 s63 s64 s65 s66 s67 s68 s69 s70 s71 s72 s73 s74 s75 s76 s77 s78 s79 s80 s81 s82 s83 s84 : Value) (i : Nat),(i + k = 16 ∧ Blk wr gw 285 (wvs (ldW b i)).toArray ∧ w0.grownBy wr (some gw) ∧ wr.heap.size = w0.heap.size) → Φ { tmps:=#[s0,.pointer (some ⟨gb,0,none⟩),p2,.pointer (some ⟨gw,0,none⟩),s4,s5,s6,s7,.int .i64 i,s9,s10,s11,s12,s13,s14,s15,s16,s17,s18,s19,s20,s21,s22,s23,s24,s25,s26,s27,s28,s29,s30,s31,s32,s33,s34,s35,s36,s37,s38,s39,s40,s41,s42,s43,s44,s45,s46,s47,s48,s49,s50,s51,s52,s53,s54,s55,s56,s57,s58,s59,s60,s61,s62,s63,s64,s65,s66,s67,s68,s69,s70,s71,s72,s73,s74,s75,s76,s77,s78,s79,s80,s81,s82,s83,s84],defers := [] }) → Φ a) (16) ?_ ?_
 ·refine fun Φ hΦ=>hΦ _ _ _ _ _ _ _ _ _ _ _ _ _ _ _ _ _ _ _ _ _ _ _ _ _ _ _ _ _ _ _ _ _ _ _ _ _ _ _ _ _ _ _ _ _ _ _ _ _ _ _ _ _ _ _ _ _ _ _ _ _ _ _ _ _ _ _ _ _ _ _ _ _ _ _ _ _ _ _ _ _ (0) ?_
  exact ⟨by omega,hW,World.grownBy.refl _ _,rfl⟩
 ·intro k1 a1 wr1 hI1 J1 K1 hJ1 hK1
  refine hI1 (fun a=>Code.wp _ _ _ a _) ?_
  clear hI1 a1
  intro s0 s1 s2 s3 s4 s5 s6 s7 s8 s9 s10 s11 s12 s13 s14 s15 s16 s17 s18 s19 s20 s21 s22 s23 s24 s25 s26 s27 s28 s29 s30 s31 s32 s33 s34 s35 s36 s37 s38 s39 s40 s41 s42 s43 s44 s45 s46 s47 s48 s49 s50 s51 s52 s53 s54 s55 s56 s57 s58 s59 s60 s61 s62 s63 s64 s65 s66 s67 s68 s69 s70 s71 s72 s73 s74 s75 s76 s77 s78 s79 s80 i hrel
  show Code.wp _ _ _ _ _
  conv=>arg 2; whnf
  obtain ⟨h1,hw,hg,hs⟩:=hrel
  by_cases hi : i < 16
  ·have hne : gb ≠ gw:=hB.ne_ hW (by decide)
   have hbb:=hB.grown hg (by intro e; injection e with e; exact hne e)
   have q0 : wr1.cell? ⟨gb,4 * i,none⟩ = some (.int .u8 ((b.getD (4 * i) 0).toNat : Int)):=(hbb.cell _).trans (bvals_at (by omega))
   have q1 : wr1.cell? ⟨gb,4 * i + 1,none⟩ = some (.int .u8 ((b.getD (4 * i + 1) 0).toNat : Int)):=(hbb.cell _).trans (bvals_at (by omega))
   have q2 : wr1.cell? ⟨gb,4 * i + 2,none⟩ = some (.int .u8 ((b.getD (4 * i + 2) 0).toNat : Int)):=(hbb.cell _).trans (bvals_at (by omega))
   have q3 : wr1.cell? ⟨gb,4 * i + 3,none⟩ = some (.int .u8 ((b.getD (4 * i + 3) 0).toNat : Int)):=(hbb.cell _).trans (bvals_at (by omega))
   have c0 : wr1.cell? ⟨gw,i,none⟩ = some (.int .u32 (((ldW b i).getD i 0).toNat : Int)):=(hw.cell _).trans (wvs_at (by rw [ldW_length]; omega))
   have f0 : wr1.frozen? ⟨gw,i,none⟩ = false:=hw.frozen _
   have hi1 : (i : Int) < 16:=by omega
   have H:=Lib.hid (And.intro h1 (And.intro hw (And.intro hg hs)))
   have E : Hid (ldW b (i + 1) = (ldW b i).set i (wdAt b i)):=Lib.hid rfl
   unfold wdAt at E
   generalize b.getD (4 * i) 0 = x0 at *
   generalize b.getD (4 * i + 1) 0 = x1 at *
   generalize b.getD (4 * i + 2) 0 = x2 at *
   generalize b.getD (4 * i + 3) 0 = x3 at *
   generalize ((ldW b i).getD i 0) = x4 at *
   clear h1 hw hg hs hbb
   have v0 : IntKind.i64.wrap (4 * (i : Int)) = 4 * (i : Int):=IntWalk.i64_in _ (by omega)
   have v1 : IntKind.i64.wrap (4 * (i : Int) + 1) = 4 * (i : Int) + 1:=IntWalk.i64_in _ (by omega)
   have v2 : IntKind.i64.wrap (4 * (i : Int) + 2) = 4 * (i : Int) + 2:=IntWalk.i64_in _ (by omega)
   have v3 : IntKind.i64.wrap (4 * (i : Int) + 3) = 4 * (i : Int) + 3:=IntWalk.i64_in _ (by omega)
   have z0 : 0 ≤ 4 * (i : Int):=by omega
   have z1 : 0 ≤ 4 * (i : Int) + 1:=by omega
   have z2 : 0 ≤ 4 * (i : Int) + 2:=by omega
   have z3 : 0 ≤ 4 * (i : Int) + 3:=by omega
   have l0 : 4 * (i : Int) < 64:=by omega
   have l1 : 4 * (i : Int) + 1 < 64:=by omega
   have l2 : 4 * (i : Int) + 2 < 64:=by omega
   have l3 : 4 * (i : Int) + 3 < 64:=by omega
   have t0 : (4 * (i : Int)).toNat = 4 * i:=by omega
   have t1 : (4 * (i : Int) + 1).toNat = 4 * i + 1:=by omega
   have t2 : (4 * (i : Int) + 2).toNat = 4 * i + 2:=by omega
   have t3 : (4 * (i : Int) + 3).toNat = 4 * i + 3:=by omega
   have l4 : (i : Int) < 64:=by omega
   go_wp2
   go_still_tail 31,(by kernel_rfl)
   go_wp2
   refine Handed.intro (16 - (i + 1)) ?_ (hJ1 _ _ _ (fun Φ hΦ=>hΦ _ _ _ _ _ _ _ _ _ _ _ _ _ _ _ _ _ _ _ _ _ _ _ _ _ _ _ _ _ _ _ _ _ _ _ _ _ _ _ _ _ _ _ _ _ _ _ _ _ _ _ _ _ _ _ _ _ _ _ _ _ _ _ _ _ _ _ _ _ _ _ _ _ _ _ _ _ _ _ _ _ (i + 1) ?_))
   ·have:=H.out.1
    omega
   ·obtain ⟨h1,hw,hg,hs⟩:=H.out
    have e:=E.out
    have hw2:=hw.set_ i (.int .u32 ((orW (orW (orW (shlW (ofB x0) 24) (shlW (ofB x1) 16)) (shlW (ofB x2) 8)) (ofB x3)).toNat : Int))
    rw [wvs_set,← e] at hw2
    refine ⟨by omega,hw2.drew,grown_set hg _ _, ?_⟩
    simp [hs]
  ·have e : i = 16:=by omega
   subst e
   have H:=Lib.hid (And.intro hw (And.intro hg hs))
   clear hw hg hs h1
   go_wp2
   exact HQ.out _ _ _ _ _ _ _ _ _ _ _ _ _ _ _ _ _ _ _ _ _ _ _ _ _ _ _ _ _ _ _ _ _ _ _ _ _ _ _ _ _ _ _ _ _ _ _ _ _ _ _ _ _ _ _ _ _ _ _ _ _ _ _ _ _ _ _ _ _ _ _ _ _ _ _ _ _ _ _ _ _ _ _ H.out.1 H.out.2.1 H.out.2.2
set_option maxRecDepth 100000 in
set_option maxHeartbeats 400000 in
theorem spread_two (l : List UInt32) (hl : l.length = 64) (w0 : World) (gw : Nat) (hW : Blk w0 gw 285 (wvs l).toArray)
  (Q : Exit → Act → World → Prop) (p1 p2 : Value)
  (hQ : ∀ (s0 s4 s5 s6 s7 s8 s9 s10 s11 s12 s13 s14 s15 s16 s17 s18 s19 s20 s21 s22 s23 s24 s25 s26 s27 s28 s29 s30 s31 s32 s33 s34 s35 s36 s37 s38 s39 s40 s41 s42 s43 s44 s45 s46 s47 s48 s49 s50 s51 s52 s53 s54 s55 s56 s57 s58 s59 s60 s61 s62 s63 s64 s65 s66 s67 s68 s69 s70 s71 s72 s73 s74 s75 s76 s77 s78 s79 s80 s81 s82 s83 s84 : Value) (w2 : World),Blk w2 gw 285 (wvs (exW l 48)).toArray → w0.grownBy w2 (some gw) → w2.heap.size = w0.heap.size → Q (.exit 2) { tmps:=#[s0,p1,p2,.pointer (some ⟨gw,0,none⟩),s4,s5,s6,s7,s8,s9,s10,s11,s12,s13,s14,s15,s16,s17,s18,s19,s20,s21,s22,s23,s24,s25,s26,s27,s28,s29,s30,s31,s32,s33,s34,s35,s36,s37,s38,s39,s40,s41,s42,s43,s44,s45,s46,s47,s48,s49,s50,s51,s52,s53,s54,s55,s56,s57,s58,s59,s60,s61,s62,s63,s64,s65,s66,s67,s68,s69,s70,s71,s72,s73,s74,s75,s76,s77,s78,s79,s80,s81,s82,s83,s84],defers := [] } w2)
  (s0 s4 s6 s7 s8 s9 s10 s11 s12 s13 s14 s15 s16 s17 s18 s19 s20 s21 s22 s23 s24 s25 s26 s27 s28 s29 s30 s31 s32 s33 s34 s35 s36 s37 s38 s39 s40 s41 s42 s43 s44 s45 s46 s47 s48 s49 s50 s51 s52 s53 s54 s55 s56 s57 s58 s59 s60 s61 s62 s63 s64 s65 s66 s67 s68 s69 s70 s71 s72 s73 s74 s75 s76 s77 s78 s79 s80 s81 s82 s83 s84 : Value) :
  Code.wp Tryz.prog (.loop (loopAt Tryz.f217 1)) Q { tmps:=#[s0,p1,p2,.pointer (some ⟨gw,0,none⟩),s4,.int .i64 16,s6,s7,s8,s9,s10,s11,s12,s13,s14,s15,s16,s17,s18,s19,s20,s21,s22,s23,s24,s25,s26,s27,s28,s29,s30,s31,s32,s33,s34,s35,s36,s37,s38,s39,s40,s41,s42,s43,s44,s45,s46,s47,s48,s49,s50,s51,s52,s53,s54,s55,s56,s57,s58,s59,s60,s61,s62,s63,s64,s65,s66,s67,s68,s69,s70,s71,s72,s73,s74,s75,s76,s77,s78,s79,s80,s81,s82,s83,s84],defers := [] } w0:=by
 have HQ:=Lib.hid hQ
 clear hQ
 refine wp_loop_ghost_k (fun k a wr => ∀ Φ : Act → Prop,(∀ (s0 s4 s6 s7 s8 s9 s10 s11 s12 s13 s14 s15 s16 s17 s18 s19 s20 s21 s22 s23 s24 s25 s26 s27 s28 s29 s30 s31 s32 s33 s34 s35 s36 s37 s38 s39 s40 s41 s42 s43 s44 s45 s46 s47 s48 s49 s50 s51 s52 s53 s54 s55 s56 s57 s58 s59 s60 s61 s62 s63 s64 s65 s66 s67 s68 s69 s70 s71 s72 s73 s74 s75 s76 s77 s78 s79 s80 s81 s82 s83 s84 : Value) (i : Nat) (j : Nat),(i = 16 + j ∧ j + k = 48 ∧ Blk wr gw 285 (wvs (exW l j)).toArray ∧ w0.grownBy wr (some gw) ∧ wr.heap.size = w0.heap.size) → Φ { tmps:=#[s0,p1,p2,.pointer (some ⟨gw,0,none⟩),s4,.int .i64 i,s6,s7,s8,s9,s10,s11,s12,s13,s14,s15,s16,s17,s18,s19,s20,s21,s22,s23,s24,s25,s26,s27,s28,s29,s30,s31,s32,s33,s34,s35,s36,s37,s38,s39,s40,s41,s42,s43,s44,s45,s46,s47,s48,s49,s50,s51,s52,s53,s54,s55,s56,s57,s58,s59,s60,s61,s62,s63,s64,s65,s66,s67,s68,s69,s70,s71,s72,s73,s74,s75,s76,s77,s78,s79,s80,s81,s82,s83,s84],defers := [] }) → Φ a) (48) ?_ ?_
 ·refine fun Φ hΦ=>hΦ _ _ _ _ _ _ _ _ _ _ _ _ _ _ _ _ _ _ _ _ _ _ _ _ _ _ _ _ _ _ _ _ _ _ _ _ _ _ _ _ _ _ _ _ _ _ _ _ _ _ _ _ _ _ _ _ _ _ _ _ _ _ _ _ _ _ _ _ _ _ _ _ _ _ _ _ _ _ _ _ _ (16) (0) ?_
  exact ⟨by omega,by omega,hW,World.grownBy.refl _ _,rfl⟩
 ·intro k1 a1 wr1 hI1 J1 K1 hJ1 hK1
  refine hI1 (fun a=>Code.wp _ _ _ a _) ?_
  clear hI1 a1
  intro s0 s1 s2 s3 s4 s5 s6 s7 s8 s9 s10 s11 s12 s13 s14 s15 s16 s17 s18 s19 s20 s21 s22 s23 s24 s25 s26 s27 s28 s29 s30 s31 s32 s33 s34 s35 s36 s37 s38 s39 s40 s41 s42 s43 s44 s45 s46 s47 s48 s49 s50 s51 s52 s53 s54 s55 s56 s57 s58 s59 s60 s61 s62 s63 s64 s65 s66 s67 s68 s69 s70 s71 s72 s73 s74 s75 s76 s77 s78 s79 s80 i j hrel
  show Code.wp _ _ _ _ _
  conv=>arg 2; whnf
  obtain ⟨hij,h1,hw,hg,hs⟩:=hrel
  by_cases hi : i < 64
  ·have hlen:=exW_length l hl j
   have q1 : wr1.cell? ⟨gw,i - 15,none⟩ = some (.int .u32 (((exW l j).getD (j + 1) 0).toNat : Int)):=(hw.cell _).trans (by rw [show i - 15 = j + 1 by omega]; exact wvs_at (by omega))
   have q2 : wr1.cell? ⟨gw,i - 2,none⟩ = some (.int .u32 (((exW l j).getD (j + 14) 0).toNat : Int)):=(hw.cell _).trans (by rw [show i - 2 = j + 14 by omega]; exact wvs_at (by omega))
   have q3 : wr1.cell? ⟨gw,i - 16,none⟩ = some (.int .u32 (((exW l j).getD j 0).toNat : Int)):=(hw.cell _).trans (by rw [show i - 16 = j by omega]; exact wvs_at (by omega))
   have q4 : wr1.cell? ⟨gw,i - 7,none⟩ = some (.int .u32 (((exW l j).getD (j + 9) 0).toNat : Int)):=(hw.cell _).trans (by rw [show i - 7 = j + 9 by omega]; exact wvs_at (by omega))
   have c0 : wr1.cell? ⟨gw,i,none⟩ = some (.int .u32 (((exW l j).getD i 0).toNat : Int)):=(hw.cell _).trans (wvs_at (by omega))
   have f0 : wr1.frozen? ⟨gw,i,none⟩ = false:=hw.frozen _
   have hi1 : (i : Int) < 64:=by omega
   have E : Hid (exW l (j + 1) = (exW l j).set i (addW (addW (addW ((exW l j).getD j 0) (sgA ((exW l j).getD (j + 1) 0))) ((exW l j).getD (j + 9) 0)) (sgB ((exW l j).getD (j + 14) 0)))):=Lib.hid (by rw [hij]; rfl)
   unfold sgA sgB at E
   have v1 : IntKind.i64.wrap ((i : Int) - 15) = (i : Int) - 15:=IntWalk.i64_in _ (by omega)
   have v2 : IntKind.i64.wrap ((i : Int) - 2) = (i : Int) - 2:=IntWalk.i64_in _ (by omega)
   have v3 : IntKind.i64.wrap ((i : Int) - 16) = (i : Int) - 16:=IntWalk.i64_in _ (by omega)
   have v4 : IntKind.i64.wrap ((i : Int) - 7) = (i : Int) - 7:=IntWalk.i64_in _ (by omega)
   have z1 : 0 ≤ (i : Int) - 15:=by omega
   have z2 : 0 ≤ (i : Int) - 2:=by omega
   have z3 : 0 ≤ (i : Int) - 16:=by omega
   have z4 : 0 ≤ (i : Int) - 7:=by omega
   have y1 : 15 ≤ (i : Int):=by omega
   have y2 : 2 ≤ (i : Int):=by omega
   have y3 : 16 ≤ (i : Int):=by omega
   have y4 : 7 ≤ (i : Int):=by omega
   have x1 : (i : Int) - 15 < 64:=by omega
   have x2 : (i : Int) - 2 < 64:=by omega
   have x3 : (i : Int) - 16 < 64:=by omega
   have x4 : (i : Int) - 7 < 64:=by omega
   have t1 : ((i : Int) - 15).toNat = i - 15:=by omega
   have t2 : ((i : Int) - 2).toNat = i - 2:=by omega
   have t3 : ((i : Int) - 16).toNat = i - 16:=by omega
   have t4 : ((i : Int) - 7).toNat = i - 7:=by omega
   have H:=Lib.hid (And.intro hij (And.intro h1 (And.intro hw (And.intro hg hs))))
   generalize (exW l j).getD (j + 1) 0 = a1 at *
   generalize (exW l j).getD (j + 14) 0 = a2 at *
   generalize (exW l j).getD j 0 = a3 at *
   generalize (exW l j).getD (j + 9) 0 = a4 at *
   generalize (exW l j).getD i 0 = a5 at *
   clear h1 hw hg hs hlen hij
   go_wp2
   go_quiet (fail)
   have H' : Hid (i = 16 + j ∧ j + k1 = 48 ∧ Blk (wr1.drewN nq) gw 285 (wvs (exW l j)).toArray ∧ w0.grownBy (wr1.drewN nq) (some gw) ∧ (wr1.drewN nq).heap.size = w0.heap.size):=Lib.hid (by
    obtain ⟨hij,h1,hw,hg,hs⟩:=H.out
    exact ⟨hij,h1,hw,⟨hg.os,hg.tape,hg.output,hg.size,hg.block⟩,hs⟩)
   have q3' : (wr1.drewN nq).cell? ⟨gw,i - 16,none⟩ = some (.int .u32 (a3.toNat : Int)):=q3
   have q4' : (wr1.drewN nq).cell? ⟨gw,i - 7,none⟩ = some (.int .u32 (a4.toNat : Int)):=q4
   have c0' : (wr1.drewN nq).cell? ⟨gw,i,none⟩ = some (.int .u32 (a5.toNat : Int)):=c0
   have f0' : (wr1.drewN nq).frozen? ⟨gw,i,none⟩ = false:=f0
   clear H q1 q2 q3 q4 c0 f0
   generalize wr1.drewN nq = wx at *
   go_wp2
   refine wp_region_still_tail 29 (by kernel_rfl) (by kernel_rfl) ?_
   simp only [List.take_succ_cons,List.take_zero,List.drop_succ_cons,List.drop_zero]
   repeat still_step
   still_call (sha_rot7 _ _)
   repeat still_step
   still_call (sha_rot18 _ _)
   repeat still_step
   still_call (sha_rot17 _ _)
   repeat still_step
   still_call (sha_rot19 _ _)
   repeat still_step
   refine wpStill_nil ?_
   clear v1 v2 v3 v4 t1 t2 t3 t4 z1 z2 z3 z4 x1 x2 x3 x4 y1 y2 y3 y4
   go_wp2
   refine Handed.intro (48 - (j + 1)) ?_ (hJ1 _ _ _ (fun Φ hΦ=>hΦ _ _ _ _ _ _ _ _ _ _ _ _ _ _ _ _ _ _ _ _ _ _ _ _ _ _ _ _ _ _ _ _ _ _ _ _ _ _ _ _ _ _ _ _ _ _ _ _ _ _ _ _ _ _ _ _ _ _ _ _ _ _ _ _ _ _ _ _ _ _ _ _ _ _ _ _ _ _ _ _ _ (i + 1) (j + 1) ?_))
   ·obtain ⟨_,h48,_⟩:=H'.out
    show 48 - (j + 1) < k1
    omega
   ·obtain ⟨hij,h1,hw,hg,hs⟩:=H'.out
    have e:=E.out
    have hw2:=hw.set_ i (.int .u32 ((addW (addW (addW a3 (xorW (xorW (rotW a1 7) (rotW a1 18)) (shrW a1 3))) a4) (xorW (xorW (rotW a2 17) (rotW a2 19)) (shrW a2 10))).toNat : Int))
    rw [wvs_set,← e] at hw2
    refine ⟨by omega,by omega,hw2, ?_,by simp [hs]⟩
    exact grown_set hg _ _
  ·have e : j = 48:=by omega
   subst e
   have ei : i = 64:=by omega
   subst ei
   have H:=Lib.hid (And.intro hw (And.intro hg hs))
   clear hw hg hs h1 hij
   go_wp2
   exact HQ.out _ _ _ _ _ _ _ _ _ _ _ _ _ _ _ _ _ _ _ _ _ _ _ _ _ _ _ _ _ _ _ _ _ _ _ _ _ _ _ _ _ _ _ _ _ _ _ _ _ _ _ _ _ _ _ _ _ _ _ _ _ _ _ _ _ _ _ _ _ _ _ _ _ _ _ _ _ _ _ _ _ _ _ H.out.1 H.out.2.1 H.out.2.2
end Go.Proofs.YtnelhjfjkkdoaaaGreatDoor
namespace Go.Proofs.YtnelhjfjkkdoaaaGreatDoor
open Go.RowKit Go.Instr
theorem info_w64 : (Tryz.prog.info? 285).map (·.size) = some 64:=by kernel_rfl
theorem wvs_all (l : List UInt32) : (wvs l).toArray.all (·.oneCell') = true:=by
 rw [Array.all_eq_true_iff_forall_mem]
 intro x hx
 exact wvs_one l x (by simpa using hx)
theorem zeros64 (b : List UInt8) : (wvs (ldW b 0)).toArray = #[.int .u32 0,.int .u32 0,.int .u32 0,.int .u32 0,.int .u32 0,.int .u32 0,.int .u32 0,.int .u32 0,.int .u32 0,.int .u32 0,.int .u32 0,.int .u32 0,.int .u32 0,.int .u32 0,.int .u32 0,.int .u32 0,.int .u32 0,.int .u32 0,.int .u32 0,.int .u32 0,.int .u32 0,.int .u32 0,.int .u32 0,.int .u32 0,.int .u32 0,.int .u32 0,.int .u32 0,.int .u32 0,.int .u32 0,.int .u32 0,.int .u32 0,.int .u32 0,.int .u32 0,.int .u32 0,.int .u32 0,.int .u32 0,.int .u32 0,.int .u32 0,.int .u32 0,.int .u32 0,.int .u32 0,.int .u32 0,.int .u32 0,.int .u32 0,.int .u32 0,.int .u32 0,.int .u32 0,.int .u32 0,.int .u32 0,.int .u32 0,.int .u32 0,.int .u32 0,.int .u32 0,.int .u32 0,.int .u32 0,.int .u32 0,.int .u32 0,.int .u32 0,.int .u32 0,.int .u32 0,.int .u32 0,.int .u32 0,.int .u32 0,.int .u32 0]:=rfl
set_option maxRecDepth 100000 in
theorem sha_spread (b : List UInt8) (hb : b.length = 64) (w : World) :
  Calls Tryz.prog 217 #[.agg (bvals b).toArray] w fun e w'=>e = .returned (.agg (wvs (spreadW b)).toArray) ∧ Below w.heap.size w w':=by
 have h64:=zeros64 b
 have HS : Hid (spreadW b = exW (ldW b 16) 48):=Lib.hid rfl
 generalize spreadW b = S at HS ⊢
 generalize hz : wvs (ldW b 0) = z at h64
 go_enter Tryz.func217,Tryz.ntmps217
 go_wp2
 rw [← h64,← hz]
 have F : Hid (Blk (((w.alloc (.cells (bvals b).toArray 226)).alloc (.cells (wvs (ldW b 0)).toArray 285)).alloc (.cells (wvs (ldW b 0)).toArray 285)) w.heap.size 226 (bvals b).toArray ∧ Blk (((w.alloc (.cells (bvals b).toArray 226)).alloc (.cells (wvs (ldW b 0)).toArray 285)).alloc (.cells (wvs (ldW b 0)).toArray 285)) (w.heap.size + 1) 285 (wvs (ldW b 0)).toArray ∧ Blk (((w.alloc (.cells (bvals b).toArray 226)).alloc (.cells (wvs (ldW b 0)).toArray 285)).alloc (.cells (wvs (ldW b 0)).toArray 285)) (w.heap.size + 2) 285 (wvs (ldW b 0)).toArray ∧ Below w.heap.size w (((w.alloc (.cells (bvals b).toArray 226)).alloc (.cells (wvs (ldW b 0)).toArray 285)).alloc (.cells (wvs (ldW b 0)).toArray 285))):=Lib.hid (by
  refine ⟨((Blk.new w _ _).alloc _).alloc _,(by have:=Blk.new (w.alloc (.cells (bvals b).toArray 226)) 285 (wvs (ldW b 0)).toArray; rw [World.size_alloc] at this; exact this.alloc _),(by have:=Blk.new ((w.alloc (.cells (bvals b).toArray 226)).alloc (.cells (wvs (ldW b 0)).toArray 285)) 285 (wvs (ldW b 0)).toArray; rw [World.size_alloc,World.size_alloc] at this; exact this),by go_grown⟩)
 generalize (((w.alloc (.cells (bvals b).toArray 226)).alloc (.cells (wvs (ldW b 0)).toArray 285)).alloc (.cells (wvs (ldW b 0)).toArray 285)) = W1 at F ⊢
 clear h64 hz
 obtain ⟨f1,f2,f3,f4⟩:=F.out
 refine spread_one b hb W1 w.heap.size (w.heap.size + 2) f1 f3 _ _ ?_ _ _ _ _ _ _ _ _ _ _ _ _ _ _ _ _ _ _ _ _ _ _ _ _ _ _ _ _ _ _ _ _ _ _ _ _ _ _ _ _ _ _ _ _ _ _ _ _ _ _ _ _ _ _ _ _ _ _ _ _ _ _ _ _ _ _ _ _ _ _ _ _ _ _ _ _ _ _ _ _ _
 intro s0 s4 s5 s6 s7 s8 s9 s10 s11 s12 s13 s14 s15 s16 s17 s18 s19 s20 s21 s22 s23 s24 s25 s26 s27 s28 s29 s30 s31 s32 s33 s34 s35 s36 s37 s38 s39 s40 s41 s42 s43 s44 s45 s46 s47 s48 s49 s50 s51 s52 s53 s54 s55 s56 s57 s58 s59 s60 s61 s62 s63 s64 s65 s66 s67 s68 s69 s70 s71 s72 s73 s74 s75 s76 s77 s78 s79 s80 s81 s82 s83 s84 w2 hw2 hg2 hs2
 have G2:=Lib.hid (And.intro hw2 (And.intro hg2 hs2))
 clear hw2 hg2 hs2 f1 f2 f3 f4
 go_wp2
 refine spread_two (ldW b 16) (ldW_length b 16) w2 (w.heap.size + 2) G2.out.1 _ _ _ ?_ _ _ _ _ _ _ _ _ _ _ _ _ _ _ _ _ _ _ _ _ _ _ _ _ _ _ _ _ _ _ _ _ _ _ _ _ _ _ _ _ _ _ _ _ _ _ _ _ _ _ _ _ _ _ _ _ _ _ _ _ _ _ _ _ _ _ _ _ _ _ _ _ _ _ _ _ _ _ _ _ _
 intro s0 s4 s5 s6 s7 s8 s9 s10 s11 s12 s13 s14 s15 s16 s17 s18 s19 s20 s21 s22 s23 s24 s25 s26 s27 s28 s29 s30 s31 s32 s33 s34 s35 s36 s37 s38 s39 s40 s41 s42 s43 s44 s45 s46 s47 s48 s49 s50 s51 s52 s53 s54 s55 s56 s57 s58 s59 s60 s61 s62 s63 s64 s65 s66 s67 s68 s69 s70 s71 s72 s73 s74 s75 s76 s77 s78 s79 s80 s81 s82 s83 s84 w3 hw3 hg3 hs3
 have e64 : (wvs (exW (ldW b 16) 48)).toArray.size = 64:=by rw [List.size_toArray,wvs_length]; exact exW_length _ (ldW_length b 16) 48
 generalize exW (ldW b 16) 48 = sp at hw3 e64 HS
 have i64 : (Tryz.prog.info? 285).map (·.size) = some (wvs sp).toArray.size:=by rw [e64]; exact info_w64
 have hr3 : Blk w3 (w.heap.size + 1) 285 (wvs (ldW b 0)).toArray:=(F.out.2.1.grown G2.out.2.1 (by intro e; injection e with e; omega)).grown hg3 (by intro e; injection e with e; omega)
 have r64 : (wvs (ldW b 0)).toArray.size = (wvs sp).toArray.size:=by rw [e64]; simp [wvs_length,ldW_length]
 have G3:=Lib.hid (And.intro hw3 (And.intro hr3 (And.intro r64 i64)))
 have B3 : Hid (Below w.heap.size w w3):=Lib.hid ((F.out.2.2.2.grown G2.out.2.1 F.out.2.2.2.size (by intro k e; injection e with e; omega)).grown hg3 (by have:=G2.out.2.1.size; have:=F.out.2.2.2.size; omega) (by intro k e; injection e with e; omega))
 clear hw3 hr3 hg3 hs3 e64 i64 r64
 generalize (wvs (ldW b 0)).toArray = zs at *
 have A1:=Lib.hid (wvs_all sp)
 have HE : Hid (Value.agg (wvs S).toArray = .agg (wvs sp).toArray):=Lib.hid (by rw [HS.out])
 generalize (wvs sp).toArray = ws at *
 go_wp2_with (first | refine wpList_load_row rfl 285 _ rfl (w.heap.size + 2) rfl _ _ _ _ G3.out.1 Tryz.underlying285 rfl G3.out.2.2.2 ?_ | refine wpList_store_row rfl 285 _ _ rfl (w.heap.size + 1) _ rfl rfl _ _ G3.out.2.1 G3.out.2.2.2 G3.out.2.2.1 A1.out ?_)
 refine bodyPost_ret (v:=.agg ws) (results_cell_row (by rfl) _ _ (w.heap.size + 1) 285 ws (0,0) _ rfl (setRow_heap w3 _ _ ws _ _ G3.out.2.1) Tryz.underlying285 rfl G3.out.2.2.2) rfl ⟨by rw [HE.out], ?_⟩
 exact below_setRow B3.out (by omega) _
theorem u32_signed : IntKind.u32.signed = false:=rfl
theorem u32_max : IntKind.u32.max = 4294967295:=rfl
theorem w_notmax (x : UInt32) : bits .xor .u32 4294967295 (x.toNat : Int) = ((notW x).toNat : Int):=by
 have h:=w_xor 4294967295 x
 rw [show ((4294967295 : UInt32).toNat : Int) = 4294967295 from rfl] at h
 rw [h]
 congr 2
attribute [local go_sem] w_or w_xor w_and w_add w_notmax u32_signed u32_max
def kW : List UInt32 := [0x428a2f98,0x71374491,0xb5c0fbcf,0xe9b5dba5,0x3956c25b,0x59f111f1,0x923f82a4,0xab1c5ed5,0xd807aa98,0x12835b01,0x243185be,0x550c7dc3,0x72be5d74,0x80deb1fe,0x9bdc06a7,0xc19bf174,0xe49b69c1,0xefbe4786,0x0fc19dc6,0x240ca1cc,0x2de92c6f,0x4a7484aa,0x5cb0a9dc,0x76f988da,0x983e5152,0xa831c66d,0xb00327c8,0xbf597fc7,0xc6e00bf3,0xd5a79147,0x06ca6351,0x14292967,0x27b70a85,0x2e1b2138,0x4d2c6dfc,0x53380d13,0x650a7354,0x766a0abb,0x81c2c92e,0x92722c85,0xa2bfe8a1,0xa81a664b,0xc24b8b70,0xc76c51a3,0xd192e819,0xd6990624,0xf40e3585,0x106aa070,0x19a4c116,0x1e376c08,0x2748774c,0x34b0bcb5,0x391c0cb3,0x4ed8aa4a,0x5b9cca4f,0x682e6ff3,0x748f82ee,0x78a5636f,0x84c87814,0x8cc70208,0x90befffa,0xa4506ceb,0xbef9a3f7,0xc67178f2]
def firstH : List UInt32 := [0x6a09e667,0xbb67ae85,0x3c6ef372,0xa54ff53a,0x510e527f,0x9b05688c,0x1f83d9ab,0x5be0cd19]
def Tbl (w : World) : Prop := ∀ i,i < 64 → w.cell? ⟨0,i,none⟩ = some (.int .u32 ((kW.getD i 0).toNat : Int))
theorem Tbl.pos {w : World} (h : Tbl w) : 0 < w.heap.size:=World.block_lt_of_cell? _ ⟨0,0,none⟩ (h 0 (by omega))
theorem Tbl.below {w w1 : World} {B : Nat} (h : Tbl w) (hb : Below B w w1) (hB : 0 < B) : Tbl w1:=fun i hi=>(hb.cell (p:=⟨0,i,none⟩) hB).trans (h i hi)
theorem Tbl.next {w w1 : World} (h : Tbl w) (hb : Below w.heap.size w w1) : Tbl w1:=h.below hb h.pos
theorem Tbl.grown {w w1 : World} {g : Nat} (h : Tbl w) (hb : w.grownBy w1 (some g)) (hg : 0 < g) : Tbl w1:=fun i hi=>(World.cell?_of_block (hb.block 0 h.pos (by intro e; injection e with e; omega))).trans (h i hi)
def oneW (e v5 v6 v7 k x : UInt32) : UInt32:=addW (addW (addW (addW v7 (xorW (xorW (rotW e 6) (rotW e 11)) (rotW e 25))) (xorW (andW e v5) (andW (notW e) v6))) k) x
def twoW (a v1 v2 : UInt32) : UInt32:=addW (xorW (xorW (rotW a 2) (rotW a 13)) (rotW a 22)) (xorW (xorW (andW a v1) (andW a v2)) (andW v1 v2))
def roundW (v : List UInt32) (k x : UInt32) : List UInt32:=match v with
 | [v0,v1,v2,v3,v4,v5,v6,v7] => [addW (oneW v4 v5 v6 v7 k x) (twoW v0 v1 v2),v0,v1,v2,addW v3 (oneW v4 v5 v6 v7 k x),v4,v5,v6]
 | _ => [0,0,0,0,0,0,0,0]
def roundsW (h ws : List UInt32) : Nat → List UInt32
 | 0=>h
 | i + 1=>roundW (roundsW h ws i) (kW.getD i 0) (ws.getD i 0)
theorem eight {l : List UInt32} (h : l.length = 8) : ∃ v0 v1 v2 v3 v4 v5 v6 v7,l = [v0,v1,v2,v3,v4,v5,v6,v7]:=by
 match l,h with
 | [v0,v1,v2,v3,v4,v5,v6,v7],_=>exact ⟨v0,v1,v2,v3,v4,v5,v6,v7,rfl⟩
theorem roundW_length (v : List UInt32) (k x : UInt32) : (roundW v k x).length = 8:=by
 unfold roundW
 split <;> rfl
theorem roundsW_length (h ws : List UInt32) (hh : h.length = 8) : ∀ i,(roundsW h ws i).length = 8
 | 0=>hh
 | i + 1=>roundW_length _ _ _
structure Rnd (w0 : World) (gv gw : Nat) (ws : List UInt32) (v : List UInt32) (w : World) : Prop where
 v : Blk w gv 224 (wvs v).toArray
 ws : Blk w gw 285 (wvs ws).toArray
 tbl : Tbl w
 grown : w0.grownBy w (some gv)
 size : w.heap.size = w0.heap.size
theorem Rnd.drew {w0 w : World} {gv gw : Nat} {ws v : List UInt32} (h : Rnd w0 gv gw ws v w) : Rnd w0 gv gw ws v w.drew :=
 ⟨h.v,h.ws,h.tbl,⟨h.grown.os,h.grown.tape,h.grown.output,h.grown.size,h.grown.block⟩,h.size⟩
theorem Rnd.cells {w0 w : World} {gv gw : Nat} {ws : List UInt32} {v0 v1 v2 v3 v4 v5 v6 v7 : UInt32} (h : Rnd w0 gv gw ws [v0,v1,v2,v3,v4,v5,v6,v7] w) :
  w.cell? ⟨gv,0,none⟩ = some (.int .u32 (v0.toNat : Int)) ∧ w.cell? ⟨gv,1,none⟩ = some (.int .u32 (v1.toNat : Int)) ∧ w.cell? ⟨gv,2,none⟩ = some (.int .u32 (v2.toNat : Int)) ∧ w.cell? ⟨gv,3,none⟩ = some (.int .u32 (v3.toNat : Int)) ∧
  w.cell? ⟨gv,4,none⟩ = some (.int .u32 (v4.toNat : Int)) ∧ w.cell? ⟨gv,5,none⟩ = some (.int .u32 (v5.toNat : Int)) ∧ w.cell? ⟨gv,6,none⟩ = some (.int .u32 (v6.toNat : Int)) ∧ w.cell? ⟨gv,7,none⟩ = some (.int .u32 (v7.toNat : Int)) :=
 ⟨h.v.cell 0,h.v.cell 1,h.v.cell 2,h.v.cell 3,h.v.cell 4,h.v.cell 5,h.v.cell 6,h.v.cell 7⟩
theorem Rnd.set {w0 w : World} {gv gw : Nat} {ws v : List UInt32} (h : Rnd w0 gv gw ws v w) (hgv : 0 < gv) (hne : gv ≠ gw) (v' : List UInt32) : Rnd w0 gv gw ws v' (w.setRow gv (wvs v').toArray) where
 v:=setRow_heap w gv _ _ _ _ h.v
 ws:=(setRow_other w gv gw _ (fun e=>hne e.symm)).trans h.ws
 tbl:=fun i hi=>(World.cell?_of_block (setRow_other w gv 0 _ (by omega))).trans (h.tbl i hi)
 grown:=⟨h.grown.os,h.grown.tape,h.grown.output,by rw [size_setRow]; exact h.grown.size,fun k hk hx=>(setRow_other w gv k _ (fun e=>hx (by rw [e]))).trans (h.grown.block k hk hx)⟩
 size:=by rw [size_setRow]; exact h.size
theorem info_w8 : (Tryz.prog.info? 224).map (·.size) = some 8:=by kernel_rfl
set_option maxRecDepth 100000 in
set_option maxHeartbeats 1000000 in
theorem block_one (h ws : List UInt32) (hh : h.length = 8) (hws : ws.length = 64) (w0 : World) (gv gw : Nat) (hR : Rnd w0 gv gw ws h w0) (hgv : 0 < gv) (hne : gv ≠ gw)
  (Q : Exit → Act → World → Prop) (p2 p3 p4 : Value)
  (hQ : ∀ (s0 s1 s7 s8 s9 s10 s11 s12 s13 s14 s15 s16 s17 s18 s19 s20 s21 s22 s23 s24 s25 s26 s27 s28 s29 s30 s31 s32 s33 s34 s35 s36 s37 s38 s39 s40 s41 s42 s43 s44 s45 s46 s47 s48 s49 s50 s51 s52 s53 s54 s55 s56 s57 s58 s59 s60 s61 s62 s63 s64 s65 s66 s67 s68 s69 s70 s71 s72 s73 s74 s75 s76 s77 s78 s79 s80 s81 s82 s83 s84 s85 s86 s87 s88 s89 s90 s91 s92 s93 s94 s95 s96 s97 s98 s99 s100 s101 s102 s103 s104 s105 s106 s107 s108 : Value) (w2 : World),Rnd w0 gv gw ws (roundsW h ws 64) w2 → Q (.exit 0) { tmps:=#[s0,s1,p2,p3,p4,.pointer (some ⟨gw,0,none⟩),.pointer (some ⟨gv,0,none⟩),s7,s8,s9,s10,s11,s12,s13,s14,s15,s16,s17,s18,s19,s20,s21,s22,s23,s24,s25,s26,s27,s28,s29,s30,s31,s32,s33,s34,s35,s36,s37,s38,s39,s40,s41,s42,s43,s44,s45,s46,s47,s48,s49,s50,s51,s52,s53,s54,s55,s56,s57,s58,s59,s60,s61,s62,s63,s64,s65,s66,s67,s68,s69,s70,s71,s72,s73,s74,s75,s76,s77,s78,s79,s80,s81,s82,s83,s84,s85,s86,s87,s88,s89,s90,s91,s92,s93,s94,s95,s96,s97,s98,s99,s100,s101,s102,s103,s104,s105,s106,s107,s108],defers := [] } w2)
  (s0 s1 s7 s8 s9 s10 s11 s12 s13 s14 s15 s17 s18 s19 s20 s21 s22 s23 s24 s25 s26 s27 s28 s29 s30 s31 s32 s33 s34 s35 s36 s37 s38 s39 s40 s41 s42 s43 s44 s45 s46 s47 s48 s49 s50 s51 s52 s53 s54 s55 s56 s57 s58 s59 s60 s61 s62 s63 s64 s65 s66 s67 s68 s69 s70 s71 s72 s73 s74 s75 s76 s77 s78 s79 s80 s81 s82 s83 s84 s85 s86 s87 s88 s89 s90 s91 s92 s93 s94 s95 s96 s97 s98 s99 s100 s101 s102 s103 s104 s105 s106 s107 s108 : Value) :
  Code.wp Tryz.prog (.loop (loopAt Tryz.f205 0)) Q { tmps:=#[s0,s1,p2,p3,p4,.pointer (some ⟨gw,0,none⟩),.pointer (some ⟨gv,0,none⟩),s7,s8,s9,s10,s11,s12,s13,s14,s15,.int .i64 0,s17,s18,s19,s20,s21,s22,s23,s24,s25,s26,s27,s28,s29,s30,s31,s32,s33,s34,s35,s36,s37,s38,s39,s40,s41,s42,s43,s44,s45,s46,s47,s48,s49,s50,s51,s52,s53,s54,s55,s56,s57,s58,s59,s60,s61,s62,s63,s64,s65,s66,s67,s68,s69,s70,s71,s72,s73,s74,s75,s76,s77,s78,s79,s80,s81,s82,s83,s84,s85,s86,s87,s88,s89,s90,s91,s92,s93,s94,s95,s96,s97,s98,s99,s100,s101,s102,s103,s104,s105,s106,s107,s108],defers := [] } w0:=by
 have HQ:=Lib.hid hQ
 clear hQ
 refine wp_loop_ghost_k (fun k a wr => ∀ Φ : Act → Prop,(∀ (s0 s1 s7 s8 s9 s10 s11 s12 s13 s14 s15 s17 s18 s19 s20 s21 s22 s23 s24 s25 s26 s27 s28 s29 s30 s31 s32 s33 s34 s35 s36 s37 s38 s39 s40 s41 s42 s43 s44 s45 s46 s47 s48 s49 s50 s51 s52 s53 s54 s55 s56 s57 s58 s59 s60 s61 s62 s63 s64 s65 s66 s67 s68 s69 s70 s71 s72 s73 s74 s75 s76 s77 s78 s79 s80 s81 s82 s83 s84 s85 s86 s87 s88 s89 s90 s91 s92 s93 s94 s95 s96 s97 s98 s99 s100 s101 s102 s103 s104 s105 s106 s107 s108 : Value) (i : Nat),(i + k = 64 ∧ Rnd w0 gv gw ws (roundsW h ws i) wr) → Φ { tmps:=#[s0,s1,p2,p3,p4,.pointer (some ⟨gw,0,none⟩),.pointer (some ⟨gv,0,none⟩),s7,s8,s9,s10,s11,s12,s13,s14,s15,.int .i64 i,s17,s18,s19,s20,s21,s22,s23,s24,s25,s26,s27,s28,s29,s30,s31,s32,s33,s34,s35,s36,s37,s38,s39,s40,s41,s42,s43,s44,s45,s46,s47,s48,s49,s50,s51,s52,s53,s54,s55,s56,s57,s58,s59,s60,s61,s62,s63,s64,s65,s66,s67,s68,s69,s70,s71,s72,s73,s74,s75,s76,s77,s78,s79,s80,s81,s82,s83,s84,s85,s86,s87,s88,s89,s90,s91,s92,s93,s94,s95,s96,s97,s98,s99,s100,s101,s102,s103,s104,s105,s106,s107,s108],defers := [] }) → Φ a) (64) ?_ ?_
 ·refine fun Φ hΦ=>hΦ _ _ _ _ _ _ _ _ _ _ _ _ _ _ _ _ _ _ _ _ _ _ _ _ _ _ _ _ _ _ _ _ _ _ _ _ _ _ _ _ _ _ _ _ _ _ _ _ _ _ _ _ _ _ _ _ _ _ _ _ _ _ _ _ _ _ _ _ _ _ _ _ _ _ _ _ _ _ _ _ _ _ _ _ _ _ _ _ _ _ _ _ _ _ _ _ _ _ _ _ _ _ _ (0) ?_
  exact ⟨by omega,hR⟩
 ·intro k1 a1 wr1 hI1 J1 K1 hJ1 hK1
  refine hI1 (fun a=>Code.wp _ _ _ a _) ?_
  clear hI1 a1
  intro s0 s1 s2 s3 s4 s5 s6 s7 s8 s9 s10 s11 s12 s13 s14 s15 s16 s17 s18 s19 s20 s21 s22 s23 s24 s25 s26 s27 s28 s29 s30 s31 s32 s33 s34 s35 s36 s37 s38 s39 s40 s41 s42 s43 s44 s45 s46 s47 s48 s49 s50 s51 s52 s53 s54 s55 s56 s57 s58 s59 s60 s61 s62 s63 s64 s65 s66 s67 s68 s69 s70 s71 s72 s73 s74 s75 s76 s77 s78 s79 s80 s81 s82 s83 s84 s85 s86 s87 s88 s89 s90 s91 s92 s93 s94 s95 s96 s97 s98 s99 s100 s101 s102 i hrel
  show Code.wp _ _ _ _ _
  conv=>arg 2; whnf
  obtain ⟨h1,hr⟩:=hrel
  by_cases hi : i < 64
  ·obtain ⟨v0,v1,v2,v3,v4,v5,v6,v7,hv⟩:=eight (roundsW_length h ws hh i)
   have E : Hid (roundsW h ws (i + 1) = [addW (oneW v4 v5 v6 v7 (kW.getD i 0) (ws.getD i 0)) (twoW v0 v1 v2),v0,v1,v2,addW v3 (oneW v4 v5 v6 v7 (kW.getD i 0) (ws.getD i 0)),v4,v5,v6]):=Lib.hid (by rw [roundsW,hv]; rfl)
   rw [hv] at hr
   have H1:=Lib.hid h1
   have hi1 : (i : Int) < 64:=by omega
   have HW : Hid (∀ w',Rnd w0 gv gw ws [v0,v1,v2,v3,v4,v5,v6,v7] w' → w'.cell? ⟨gw,i,none⟩ = some (.int .u32 ((ws.getD i 0).toNat : Int)) ∧ w'.cell? ⟨0,i,none⟩ = some (.int .u32 ((kW.getD i 0).toNat : Int))):=Lib.hid (fun w' hw=>⟨(hw.ws.cell i).trans (wvs_at (by omega)),hw.tbl i hi⟩)
   clear hv h1 hR
   generalize ws.getD i 0 = x at *
   generalize kW.getD i 0 = kk at *
   obtain ⟨c0,c1,c2,c3,c4,c5,c6,c7⟩:=hr.cells
   have R0:=Lib.hid hr
   clear hr
   go_wp2
   refine wp_region_still_lit (by kernel_rfl) (by kernel_rfl) ?_
   repeat still_step
   refine wpStill_nil ?_
   have R1:=Lib.hid (R0.out.drew)
   have Z1:=HW.out _ R1.out
   clear R0 c0 c1 c2 c3 c4 c5 c6 c7
   show Exit.then _ _ Exit.normal _ wr1.drew
   generalize wr1.drew = w1 at *
   obtain ⟨c0,c1,c2,c3,c4,c5,c6,c7⟩:=R1.out.cells
   obtain ⟨cx,ck⟩:=Z1
   go_wp2
   refine wp_region_still_lit (by kernel_rfl) (by kernel_rfl) ?_
   repeat still_step
   still_call (sha_rot6 _ _)
   repeat still_step
   still_call (sha_rot11 _ _)
   repeat still_step
   still_call (sha_rot25 _ _)
   repeat still_step
   refine wpStill_nil ?_
   have R2:=Lib.hid (R1.out.drew)
   have Z1:=HW.out _ R2.out
   clear R1 c0 c1 c2 c3 c4 c5 c6 c7
   show Exit.then _ _ Exit.normal _ w1.drew
   generalize w1.drew = w2 at *
   obtain ⟨c0,c1,c2,c3,c4,c5,c6,c7⟩:=R2.out.cells
   obtain ⟨cx,ck⟩:=Z1
   go_wp2
   refine wp_region_still_lit (by kernel_rfl) (by kernel_rfl) ?_
   repeat still_step
   still_call (sha_rot2 _ _)
   repeat still_step
   still_call (sha_rot13 _ _)
   repeat still_step
   still_call (sha_rot22 _ _)
   repeat still_step
   refine wpStill_nil ?_
   have R3:=Lib.hid (R2.out.drew)
   have Z1:=HW.out _ R3.out
   clear R2 c0 c1 c2 c3 c4 c5 c6 c7
   show Exit.then _ _ Exit.normal _ w2.drew
   generalize w2.drew = w3 at *
   obtain ⟨c0,c1,c2,c3,c4,c5,c6,c7⟩:=R3.out.cells
   obtain ⟨cx,ck⟩:=Z1
   have A8 : Hid ((Tryz.prog.info? 224).map (·.size) = some (wvs [addW (oneW v4 v5 v6 v7 kk x) (twoW v0 v1 v2),v0,v1,v2,addW v3 (oneW v4 v5 v6 v7 kk x),v4,v5,v6]).toArray.size ∧ (wvs [v0,v1,v2,v3,v4,v5,v6,v7]).toArray.size = (wvs [addW (oneW v4 v5 v6 v7 kk x) (twoW v0 v1 v2),v0,v1,v2,addW v3 (oneW v4 v5 v6 v7 kk x),v4,v5,v6]).toArray.size):=Lib.hid ⟨info_w8,rfl⟩
   go_wp2_with (refine wpList_store_row rfl 224 _ _ rfl gv (wvs [addW (oneW v4 v5 v6 v7 kk x) (twoW v0 v1 v2),v0,v1,v2,addW v3 (oneW v4 v5 v6 v7 kk x),v4,v5,v6]).toArray rfl rfl _ _ R3.out.v A8.out.1 A8.out.2 (wvs_all _) ?_)
   refine Handed.intro (64 - (i + 1)) ?_ (hJ1 _ _ _ (fun Φ hΦ=>hΦ _ _ _ _ _ _ _ _ _ _ _ _ _ _ _ _ _ _ _ _ _ _ _ _ _ _ _ _ _ _ _ _ _ _ _ _ _ _ _ _ _ _ _ _ _ _ _ _ _ _ _ _ _ _ _ _ _ _ _ _ _ _ _ _ _ _ _ _ _ _ _ _ _ _ _ _ _ _ _ _ _ _ _ _ _ _ _ _ _ _ _ _ _ _ _ _ _ _ _ _ _ _ _ (i + 1) ?_))
   ·have:=H1.out
    show 64 - (i + 1) < k1
    omega
   ·have h1:=H1.out
    refine ⟨by omega, ?_⟩
    rw [E.out]
    exact R3.out.set hgv hne _
  ·have e : i = 64:=by omega
   subst e
   have H:=Lib.hid hr
   clear hr h1
   go_wp2
   exact HQ.out _ _ _ _ _ _ _ _ _ _ _ _ _ _ _ _ _ _ _ _ _ _ _ _ _ _ _ _ _ _ _ _ _ _ _ _ _ _ _ _ _ _ _ _ _ _ _ _ _ _ _ _ _ _ _ _ _ _ _ _ _ _ _ _ _ _ _ _ _ _ _ _ _ _ _ _ _ _ _ _ _ _ _ _ _ _ _ _ _ _ _ _ _ _ _ _ _ _ _ _ _ _ _ _ _ H.out
end Go.Proofs.YtnelhjfjkkdoaaaGreatDoor
namespace Go.Proofs.YtnelhjfjkkdoaaaGreatDoor
open Go.RowKit Go.Instr
attribute [local go_sem] w_add
def plusW (v h : List UInt32) : Nat → List UInt32
 | 0=>v
 | i + 1=>(plusW v h i).set i (addW ((plusW v h i).getD i 0) (h.getD i 0))
theorem plusW_length (v h : List UInt32) (hv : v.length = 8) : ∀ i,(plusW v h i).length = 8
 | 0=>hv
 | i + 1=>by rw [plusW,List.length_set,plusW_length v h hv i]
def blockW (h : List UInt32) (b : List UInt8) : List UInt32:=plusW (roundsW h (spreadW b) 64) h 8
theorem blockW_length (h : List UInt32) (b : List UInt8) (hh : h.length = 8) : (blockW h b).length = 8:=plusW_length _ _ (roundsW_length _ _ hh 64) 8
set_option maxRecDepth 100000 in
set_option maxHeartbeats 1000000 in
theorem block_two (h v : List UInt32) (hh : h.length = 8) (hv : v.length = 8) (w0 : World) (gh gv : Nat) (hH : Blk w0 gh 224 (wvs h).toArray) (hV : Blk w0 gv 224 (wvs v).toArray) (hne : gh ≠ gv)
  (Q : Exit → Act → World → Prop) (p3 p4 p5 : Value)
  (hQ : ∀ (s0 s1 s7 s8 s9 s10 s11 s12 s13 s14 s15 s16 s17 s18 s19 s20 s21 s22 s23 s24 s25 s26 s27 s28 s29 s30 s31 s32 s33 s34 s35 s36 s37 s38 s39 s40 s41 s42 s43 s44 s45 s46 s47 s48 s49 s50 s51 s52 s53 s54 s55 s56 s57 s58 s59 s60 s61 s62 s63 s64 s65 s66 s67 s68 s69 s70 s71 s72 s73 s74 s75 s76 s77 s78 s79 s80 s81 s82 s83 s84 s85 s86 s87 s88 s89 s90 s91 s92 s93 s94 s95 s96 s97 s98 s99 s100 s101 s102 s103 s104 s105 s106 s107 s108 : Value) (w2 : World),Blk w2 gv 224 (wvs (plusW v h 8)).toArray → w0.grownBy w2 (some gv) → w2.heap.size = w0.heap.size → Q (.exit 2) { tmps:=#[s0,s1,.pointer (some ⟨gh,0,none⟩),p3,p4,p5,.pointer (some ⟨gv,0,none⟩),s7,s8,s9,s10,s11,s12,s13,s14,s15,s16,s17,s18,s19,s20,s21,s22,s23,s24,s25,s26,s27,s28,s29,s30,s31,s32,s33,s34,s35,s36,s37,s38,s39,s40,s41,s42,s43,s44,s45,s46,s47,s48,s49,s50,s51,s52,s53,s54,s55,s56,s57,s58,s59,s60,s61,s62,s63,s64,s65,s66,s67,s68,s69,s70,s71,s72,s73,s74,s75,s76,s77,s78,s79,s80,s81,s82,s83,s84,s85,s86,s87,s88,s89,s90,s91,s92,s93,s94,s95,s96,s97,s98,s99,s100,s101,s102,s103,s104,s105,s106,s107,s108],defers := [] } w2)
  (s0 s1 s7 s8 s9 s10 s11 s12 s13 s14 s15 s16 s17 s18 s19 s20 s21 s22 s23 s24 s25 s26 s27 s28 s29 s30 s31 s32 s33 s34 s35 s36 s37 s38 s39 s40 s41 s42 s43 s44 s45 s46 s47 s48 s49 s50 s51 s52 s53 s54 s55 s56 s57 s58 s59 s60 s61 s62 s63 s64 s65 s66 s67 s68 s69 s70 s71 s72 s73 s74 s75 s76 s77 s78 s79 s80 s81 s82 s83 s84 s85 s86 s87 s88 s89 s90 s91 s92 s93 s94 s95 s97 s98 s99 s100 s101 s102 s103 s104 s105 s106 s107 s108 : Value) :
  Code.wp Tryz.prog (.loop (loopAt Tryz.f205 1)) Q { tmps:=#[s0,s1,.pointer (some ⟨gh,0,none⟩),p3,p4,p5,.pointer (some ⟨gv,0,none⟩),s7,s8,s9,s10,s11,s12,s13,s14,s15,s16,s17,s18,s19,s20,s21,s22,s23,s24,s25,s26,s27,s28,s29,s30,s31,s32,s33,s34,s35,s36,s37,s38,s39,s40,s41,s42,s43,s44,s45,s46,s47,s48,s49,s50,s51,s52,s53,s54,s55,s56,s57,s58,s59,s60,s61,s62,s63,s64,s65,s66,s67,s68,s69,s70,s71,s72,s73,s74,s75,s76,s77,s78,s79,s80,s81,s82,s83,s84,s85,s86,s87,s88,s89,s90,s91,s92,s93,s94,s95,.int .i64 0,s97,s98,s99,s100,s101,s102,s103,s104,s105,s106,s107,s108],defers := [] } w0:=by
 have HQ:=Lib.hid hQ
 clear hQ
 refine wp_loop_ghost_k (fun k a wr => ∀ Φ : Act → Prop,(∀ (s0 s1 s7 s8 s9 s10 s11 s12 s13 s14 s15 s16 s17 s18 s19 s20 s21 s22 s23 s24 s25 s26 s27 s28 s29 s30 s31 s32 s33 s34 s35 s36 s37 s38 s39 s40 s41 s42 s43 s44 s45 s46 s47 s48 s49 s50 s51 s52 s53 s54 s55 s56 s57 s58 s59 s60 s61 s62 s63 s64 s65 s66 s67 s68 s69 s70 s71 s72 s73 s74 s75 s76 s77 s78 s79 s80 s81 s82 s83 s84 s85 s86 s87 s88 s89 s90 s91 s92 s93 s94 s95 s97 s98 s99 s100 s101 s102 s103 s104 s105 s106 s107 s108 : Value) (i : Nat),(i + k = 8 ∧ Blk wr gv 224 (wvs (plusW v h i)).toArray ∧ w0.grownBy wr (some gv) ∧ wr.heap.size = w0.heap.size) → Φ { tmps:=#[s0,s1,.pointer (some ⟨gh,0,none⟩),p3,p4,p5,.pointer (some ⟨gv,0,none⟩),s7,s8,s9,s10,s11,s12,s13,s14,s15,s16,s17,s18,s19,s20,s21,s22,s23,s24,s25,s26,s27,s28,s29,s30,s31,s32,s33,s34,s35,s36,s37,s38,s39,s40,s41,s42,s43,s44,s45,s46,s47,s48,s49,s50,s51,s52,s53,s54,s55,s56,s57,s58,s59,s60,s61,s62,s63,s64,s65,s66,s67,s68,s69,s70,s71,s72,s73,s74,s75,s76,s77,s78,s79,s80,s81,s82,s83,s84,s85,s86,s87,s88,s89,s90,s91,s92,s93,s94,s95,.int .i64 i,s97,s98,s99,s100,s101,s102,s103,s104,s105,s106,s107,s108],defers := [] }) → Φ a) (8) ?_ ?_
 ·refine fun Φ hΦ=>hΦ _ _ _ _ _ _ _ _ _ _ _ _ _ _ _ _ _ _ _ _ _ _ _ _ _ _ _ _ _ _ _ _ _ _ _ _ _ _ _ _ _ _ _ _ _ _ _ _ _ _ _ _ _ _ _ _ _ _ _ _ _ _ _ _ _ _ _ _ _ _ _ _ _ _ _ _ _ _ _ _ _ _ _ _ _ _ _ _ _ _ _ _ _ _ _ _ _ _ _ _ _ _ _ (0) ?_
  exact ⟨by omega,hV,World.grownBy.refl _ _,rfl⟩
 ·intro k1 a1 wr1 hI1 J1 K1 hJ1 hK1
  refine hI1 (fun a=>Code.wp _ _ _ a _) ?_
  clear hI1 a1
  intro s0 s1 s2 s3 s4 s5 s6 s7 s8 s9 s10 s11 s12 s13 s14 s15 s16 s17 s18 s19 s20 s21 s22 s23 s24 s25 s26 s27 s28 s29 s30 s31 s32 s33 s34 s35 s36 s37 s38 s39 s40 s41 s42 s43 s44 s45 s46 s47 s48 s49 s50 s51 s52 s53 s54 s55 s56 s57 s58 s59 s60 s61 s62 s63 s64 s65 s66 s67 s68 s69 s70 s71 s72 s73 s74 s75 s76 s77 s78 s79 s80 s81 s82 s83 s84 s85 s86 s87 s88 s89 s90 s91 s92 s93 s94 s95 s96 s97 s98 s99 s100 s101 s102 i hrel
  show Code.wp _ _ _ _ _
  conv=>arg 2; whnf
  obtain ⟨h1,hw,hg,hs⟩:=hrel
  by_cases hi : i < 8
  ·have hlen:=plusW_length v h hv i
   have hh1:=hH.grown hg (by intro e; injection e with e; exact hne e)
   have q0 : wr1.cell? ⟨gv,i,none⟩ = some (.int .u32 (((plusW v h i).getD i 0).toNat : Int)):=(hw.cell _).trans (wvs_at (by omega))
   have q1 : wr1.cell? ⟨gh,i,none⟩ = some (.int .u32 ((h.getD i 0).toNat : Int)):=(hh1.cell _).trans (wvs_at (by omega))
   have f0 : wr1.frozen? ⟨gv,i,none⟩ = false:=hw.frozen _
   have hi1 : (i : Int) < 8:=by omega
   have E : Hid (plusW v h (i + 1) = (plusW v h i).set i (addW ((plusW v h i).getD i 0) (h.getD i 0))):=Lib.hid rfl
   have H:=Lib.hid (And.intro h1 (And.intro hw (And.intro hg hs)))
   generalize (plusW v h i).getD i 0 = a1 at *
   generalize h.getD i 0 = a2 at *
   clear h1 hw hg hs hlen hh1
   go_wp2
   go_still_tail 8,(by kernel_rfl)
   go_wp2
   refine Handed.intro (8 - (i + 1)) ?_ (hJ1 _ _ _ (fun Φ hΦ=>hΦ _ _ _ _ _ _ _ _ _ _ _ _ _ _ _ _ _ _ _ _ _ _ _ _ _ _ _ _ _ _ _ _ _ _ _ _ _ _ _ _ _ _ _ _ _ _ _ _ _ _ _ _ _ _ _ _ _ _ _ _ _ _ _ _ _ _ _ _ _ _ _ _ _ _ _ _ _ _ _ _ _ _ _ _ _ _ _ _ _ _ _ _ _ _ _ _ _ _ _ _ _ _ _ (i + 1) ?_))
   ·have:=H.out.1
    show 8 - (i + 1) < k1
    omega
   ·obtain ⟨h1,hw,hg,hs⟩:=H.out
    have e:=E.out
    have hw2:=hw.set_ i (.int .u32 ((addW a1 a2).toNat : Int))
    rw [wvs_set,← e] at hw2
    refine ⟨by omega,hw2.drew,grown_set hg _ _,by simp [hs]⟩
  ·have e : i = 8:=by omega
   subst e
   have H:=Lib.hid (And.intro hw (And.intro hg hs))
   clear hw hg hs h1
   go_wp2
   exact HQ.out _ _ _ _ _ _ _ _ _ _ _ _ _ _ _ _ _ _ _ _ _ _ _ _ _ _ _ _ _ _ _ _ _ _ _ _ _ _ _ _ _ _ _ _ _ _ _ _ _ _ _ _ _ _ _ _ _ _ _ _ _ _ _ _ _ _ _ _ _ _ _ _ _ _ _ _ _ _ _ _ _ _ _ _ _ _ _ _ _ _ _ _ _ _ _ _ _ _ _ _ _ _ _ _ _ H.out.1 H.out.2.1 H.out.2.2
end Go.Proofs.YtnelhjfjkkdoaaaGreatDoor
