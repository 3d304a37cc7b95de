/- Layer 6's laws: tells, its loop. No conditions. -/
import Derived.Test.YtojpijpajdiiiaaOrcPl4
import Derived.Test.YtojpijpajdiiiaaOrcFork2
namespace Go.Proofs.Ytojpijpajdiiiaa
set_option linter.unusedVariables false
open Go.RowKit Go.Instr
attribute [local go_sem] ba_get ByteArray.mk_append_mk add_zero_addr

theorem srows_set3 : ∀ (l : List Sg) (i : Nat) (z : Sg), (((srows l).set (i * 3) (.string ⟨z.1.toArray⟩)).set (i * 3 + 1) (.string ⟨z.2.1.toArray⟩)).set (i * 3 + 2) (.bool z.2.2) = srows (l.set i z)
  | [], i, z => by simp [srows_nil]
  | y :: l, 0, z => rfl
  | y :: l, i + 1, z => by
    rw [srows_cons, List.set_append_right _ _ (by rw [srow_length]; omega), List.set_append_right _ _ (by rw [srow_length]; omega), List.set_append_right _ _ (by rw [srow_length]; omega), srow_length, show (i + 1) * 3 - 3 = i * 3 by omega, show (i + 1) * 3 + 1 - 3 = i * 3 + 1 by omega, show (i + 1) * 3 + 2 - 3 = i * 3 + 2 by omega, srows_set3 l i z]
    rfl
theorem own_put {w : World} {base g n c i : Nat} {X : List Sg} (h : w.ownsRow base 37 3 (.slice (some ⟨g, 0, none⟩) n c) n (srows X)) (z : Sg) :
    (((w.setCell ⟨g, i * 3, none⟩ (.string ⟨z.1.toArray⟩)).setCell ⟨g, i * 3 + 1, none⟩ (.string ⟨z.2.1.toArray⟩)).setCell ⟨g, i * 3 + 2, none⟩ (.bool z.2.2)).ownsRow base 37 3 (.slice (some ⟨g, 0, none⟩) n c) n (srows (X.set i z)) := by
  have h1 := (((h.stored (i * 3) (.string ⟨z.1.toArray⟩)).1.stored (i * 3 + 1) (.string ⟨z.2.1.toArray⟩)).1.stored (i * 3 + 2) (.bool z.2.2)).1
  rw [srows_set3] at h1
  exact h1

def another : Sg := ([97, 110, 111, 116, 104, 101, 114, 32, 111, 110, 101], [], false)

set_option maxRecDepth 100000 in
set_option maxHeartbeats 1000000 in
theorem tells_loop (w0 : World) (Aa Ag : Option Addr) (ca cg n ba wb B : Nat) (M : List Sg) (hn : n ≤ 2000) (owna : w0.ownsRow ba 37 3 (.slice Aa n ca) n (srows M)) (hlt : ∀ k, (Value.slice Aa n ca).ownBlock = some k → k < B)
    (owng : w0.ownsRow wb 37 3 (.slice Ag n cg) n (srows M)) (hB : B ≤ wb) (hB0 : B ≤ w0.heap.size)
    (Q : Exit → Act → World → Prop)
    (hQ : ∀ (s0 s2 s3 s4 s5 s6 s7 s8 s11 s12 s13 s14 s15 s16 s17 s18 s19 s20 s21 s22 s23 s24 s25 s26 s27 s28 s29 s30 s31 s32 s33 s34 s35 s36 s37 s38 s39 s40 s41 s42 s43 s44 s45 s46 s47 s48 s49 s50 s51 s52 s53 s54 s55 s56 : Value) (w2 : World), Below B w0 w2 → Q (.exit 0) { tmps := #[s0, .slice Aa n ca, s2, s3, s4, s5, s6, s7, s8, .slice Ag n cg, .int .i64 n, s11, s12, s13, s14, s15, s16, s17, s18, s19, s20, s21, s22, s23, s24, s25, s26, s27, s28, s29, s30, s31, s32, s33, s34, s35, s36, s37, s38, s39, s40, s41, s42, s43, s44, s45, s46, s47, s48, s49, s50, s51, s52, s53, s54, s55, s56], defers := [] } w2)
    (s0 s2 s3 s4 s5 s6 s7 s8 s11 s12 s13 s14 s15 s16 s17 s18 s19 s20 s21 s22 s23 s24 s25 s26 s27 s28 s29 s30 s31 s32 s33 s34 s35 s36 s37 s38 s39 s40 s41 s42 s43 s44 s45 s46 s47 s48 s49 s50 s51 s52 s53 s54 s55 s56 : Value) :
    Code.wp Try.prog (.loop (loopAt Try.f16 0)) Q { tmps := #[s0, .slice Aa n ca, s2, s3, s4, s5, s6, s7, s8, .slice Ag n cg, .int .i64 0, s11, s12, s13, s14, s15, s16, s17, s18, s19, s20, s21, s22, s23, s24, s25, s26, s27, s28, s29, s30, s31, s32, s33, s34, s35, s36, s37, s38, s39, s40, s41, s42, s43, s44, s45, s46, s47, s48, s49, s50, s51, s52, s53, s54, s55, s56], defers := [] } w0 := by
  have hX : M.length = n := by have := owna.1; rw [srows_length] at this; omega
  have HQ := Lib.hid hQ
  clear hQ
  refine wp_loop_ghost_k (fun k a wr => ∀ Φ : Act → Prop, (∀ (s0 s2 s3 s4 s5 s6 s7 s8 s11 s12 s13 s14 s15 s16 s17 s18 s19 s20 s21 s22 s23 s24 s25 s26 s27 s28 s29 s30 s31 s32 s33 s34 s35 s36 s37 s38 s39 s40 s41 s42 s43 s44 s45 s46 s47 s48 s49 s50 s51 s52 s53 s54 s55 s56 : Value) (i : Nat) (Y : List Sg), (i + k = n ∧ wr.ownsRow wb 37 3 (.slice Ag n cg) n (srows Y) ∧ (∀ j, i ≤ j → Y[j]? = M[j]?) ∧ Below B w0 wr) → Φ { tmps := #[s0, .slice Aa n ca, s2, s3, s4, s5, s6, s7, s8, .slice Ag n cg, .int .i64 i, s11, s12, s13, s14, s15, s16, s17, s18, s19, s20, s21, s22, s23, s24, s25, s26, s27, s28, s29, s30, s31, s32, s33, s34, s35, s36, s37, s38, s39, s40, s41, s42, s43, s44, s45, s46, s47, s48, s49, s50, s51, s52, s53, s54, s55, s56], defers := [] }) → Φ a) (n) ?_ ?_
  · refine fun Φ hΦ => hΦ _ _ _ _ _ _ _ _ _ _ _ _ _ _ _ _ _ _ _ _ _ _ _ _ _ _ _ _ _ _ _ _ _ _ _ _ _ _ _ _ _ _ _ _ _ _ _ _ _ _ _ _ _ _ (0) (M) ?_
    exact ⟨by omega, owng, fun _ _ => rfl, Below.refl _ _⟩
  · intro k1 a1 wr1 hI1 J1 K1 hJ1 hK1
    refine hI1 (fun a => Code.wp _ _ _ a _) ?_
    clear hI1 a1
    intro s0 s1 s2 s3 s4 s5 s6 s7 s8 s9 s10 s11 s12 s13 s14 s15 s16 s17 s18 s19 s20 s21 s22 s23 s24 s25 s26 s27 s28 s29 s30 s31 s32 s33 s34 s35 s36 s37 s38 s39 s40 s41 s42 s43 s44 s45 s46 s47 s48 s49 s50 s51 s52 s53 i Y hrel
    show Code.wp _ _ _ _ _
    conv => arg 2; whnf
    obtain ⟨h1, own1, hY, hb⟩ := hrel
    by_cases hi : i < n
    · obtain ⟨ga, c1, e1, _, hbl, _, hx⟩ := own3_cells owna (by omega)
      injection e1 with e1 _ e2
      subst e1
      subst e2
      have hga : ga < B := hlt ga rfl
      obtain ⟨gg, c2, e1, hge, _, _, hy⟩ := own3_cells own1 (by omega)
      injection e1 with e1 _ e2
      subst e1
      subst e2
      have hi1 : (i : Int) < n := by omega
      obtain ⟨x, hii⟩ : ∃ x, M[i]? = some x := ⟨_, List.getElem?_eq_getElem (show i < M.length by omega)⟩
      obtain ⟨x0, x1, x2⟩ := hx i _ hii
      rw [← hb.cell (p := ⟨ga, _, none⟩) hga] at x0 x1 x2
      obtain ⟨y0, y1, y2⟩ := hy i _ ((hY i (Nat.le_refl _)).trans hii)
      have f0 := own1.frozenAt (i * 3)
      have f1 := own1.frozenAt (i * 3 + 1)
      have f2 := own1.frozenAt (i * 3 + 2)
      have hp := own_put (i := i) own1 another
      have HI := Lib.hid (And.intro h1 (And.intro hY (And.intro hb (And.intro (show B ≤ gg by omega) own1))))
      clear hx hy hii owna owng own1 hY hb h1 hX hlt
      obtain ⟨xa, xb, xc⟩ := x
      have HN := fun w => sg_neq w (xa, xb, xc)
      simp only at HN x0 x1 x2 y0 y1 y2
      go_wp2
      go_quiet (fail)
      go_wp2
      refine Handed.intro (n - (i + 1)) ?_ (hJ1 _ _ _ (fun Φ hΦ => hΦ _ _ _ _ _ _ _ _ _ _ _ _ _ _ _ _ _ _ _ _ _ _ _ _ _ _ _ _ _ _ _ _ _ _ _ _ _ _ _ _ _ _ _ _ _ _ _ _ _ _ _ _ _ _ (i + 1) (Y.set i another) ?_))
      · have := HI.out.1
        show n - (i + 1) < k1
        omega
      · obtain ⟨h1, hY, hb, hg, _⟩ := HI.out
        refine ⟨by omega, hp, fun j hj => ?_, ?_⟩
        · rw [List.getElem?_set_ne (by omega)]
          exact hY j (by omega)
        · exact ((((⟨hb.os, hb.tape, hb.output, hb.size, hb.block⟩ : Below B w0 (wr1.drewN nq)).setCell (p := ⟨gg, i * 3, none⟩) hg _).setCell (p := ⟨gg, i * 3 + 1, none⟩) hg _).setCell (p := ⟨gg, i * 3 + 2, none⟩) hg _)
    · have hi2 : ((i : Int) < n) = False := by simp; omega
      have e : i = n := by omega
      subst e
      have HB := Lib.hid hb
      clear owna owng own1 hY hb
      go_wp2
      exact HQ.out _ _ _ _ _ _ _ _ _ _ _ _ _ _ _ _ _ _ _ _ _ _ _ _ _ _ _ _ _ _ _ _ _ _ _ _ _ _ _ _ _ _ _ _ _ _ _ _ _ _ _ _ _ _ _ HB.out
end Go.Proofs.Ytojpijpajdiiiaa
