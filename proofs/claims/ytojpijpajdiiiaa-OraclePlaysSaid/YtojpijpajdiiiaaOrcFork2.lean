/- Layer 6's laws: OracleFork, the loop that holds both lists against one another. No conditions. -/
import Derived.Test.YtojpijpajdiiiaaOrcOrd4
import Derived.Test.YtojpijpajdiiiaaOrcFork
namespace Go.Proofs.Ytojpijpajdiiiaa
set_option linter.unusedVariables false
open Go.RowKit Go.Instr
attribute [local go_sem] ba_get ByteArray.mk_append_mk add_zero_addr

set_option maxRecDepth 100000 in
theorem fork_cmp (w0 : World) (Ax Ay : Option Addr) (cx cy n bx by' : Nat) (X : List Sg) (hn : n ≤ 2000) (ownx : w0.ownsRow bx 37 3 (.slice Ax n cx) n (srows X)) (owny : w0.ownsRow by' 37 3 (.slice Ay n cy) n (srows X))
    (Q : Exit → Act → World → Prop) (p4 p7 p8 : Value)
    (hQ : ∀ (s0 s1 s2 s3 s5 s6 s9 s10 s13 s14 s15 s16 s17 s18 s19 s20 s21 s22 s23 s24 s25 s26 s27 s28 s29 s30 s31 s32 s33 s34 s35 s36 s37 s38 s39 s40 s41 s42 s43 s44 s45 s46 s47 s48 s49 s50 s51 s52 s53 s54 s55 s56 s58 s59 s60 s61 s62 s63 s64 s65 s66 s67 s68 s69 s70 s71 s72 s73 s74 s75 s76 s77 s78 s79 s80 s81 s82 s83 s84 s85 s86 s87 s88 s89 s90 s91 : Value) (m : Nat), Q (.exit 0) { tmps := #[s0, s1, s2, s3, p4, s5, s6, p7, p8, s9, s10, .slice Ax n cx, .slice Ay n cy, s13, s14, s15, s16, s17, s18, s19, s20, s21, s22, s23, s24, s25, s26, s27, s28, s29, s30, s31, s32, s33, s34, s35, s36, s37, s38, s39, s40, s41, s42, s43, s44, s45, s46, s47, s48, s49, s50, s51, s52, s53, s54, s55, s56, .int .i64 n, s58, s59, s60, s61, s62, s63, s64, s65, s66, s67, s68, s69, s70, s71, s72, s73, s74, s75, s76, s77, s78, s79, s80, s81, s82, s83, s84, s85, s86, s87, s88, s89, s90, s91], defers := [] } (w0.drewN m))
    (s0 s1 s2 s3 s5 s6 s9 s10 s13 s14 s15 s16 s17 s18 s19 s20 s21 s22 s23 s24 s25 s26 s27 s28 s29 s30 s31 s32 s33 s34 s35 s36 s37 s38 s39 s40 s41 s42 s43 s44 s45 s46 s47 s48 s49 s50 s51 s52 s53 s54 s55 s56 s59 s60 s61 s62 s63 s64 s65 s66 s67 s68 s69 s70 s71 s72 s73 s74 s75 s76 s77 s78 s79 s80 s81 s82 s83 s84 s85 s86 s87 s88 s89 s90 s91 : Value) :
    Code.wp Try.prog (.loop (loopAt Try.f6 0)) Q { tmps := #[s0, s1, s2, s3, p4, s5, s6, p7, p8, s9, s10, .slice Ax n cx, .slice Ay n cy, s13, s14, s15, s16, s17, s18, s19, s20, s21, s22, s23, s24, s25, s26, s27, s28, s29, s30, s31, s32, s33, s34, s35, s36, s37, s38, s39, s40, s41, s42, s43, s44, s45, s46, s47, s48, s49, s50, s51, s52, s53, s54, s55, s56, .int .i64 n, .int .i64 0, s59, s60, s61, s62, s63, s64, s65, s66, s67, s68, s69, s70, s71, s72, s73, s74, s75, s76, s77, s78, s79, s80, s81, s82, s83, s84, s85, s86, s87, s88, s89, s90, s91], defers := [] } w0 := by
  have hX : X.length = n := by have := ownx.1; rw [srows_length] at this; omega
  have HQ := Lib.hid hQ
  clear hQ
  refine wp_loop_ghost_k (fun k a wr => ∀ Φ : Act → Prop, (∀ (s0 s1 s2 s3 s5 s6 s9 s10 s13 s14 s15 s16 s17 s18 s19 s20 s21 s22 s23 s24 s25 s26 s27 s28 s29 s30 s31 s32 s33 s34 s35 s36 s37 s38 s39 s40 s41 s42 s43 s44 s45 s46 s47 s48 s49 s50 s51 s52 s53 s54 s55 s56 s59 s60 s61 s62 s63 s64 s65 s66 s67 s68 s69 s70 s71 s72 s73 s74 s75 s76 s77 s78 s79 s80 s81 s82 s83 s84 s85 s86 s87 s88 s89 s90 s91 : Value) (i : Nat) (m : Nat), (i + k = n ∧ wr = w0.drewN m) → Φ { tmps := #[s0, s1, s2, s3, p4, s5, s6, p7, p8, s9, s10, .slice Ax n cx, .slice Ay n cy, s13, s14, s15, s16, s17, s18, s19, s20, s21, s22, s23, s24, s25, s26, s27, s28, s29, s30, s31, s32, s33, s34, s35, s36, s37, s38, s39, s40, s41, s42, s43, s44, s45, s46, s47, s48, s49, s50, s51, s52, s53, s54, s55, s56, .int .i64 n, .int .i64 i, s59, s60, s61, s62, s63, s64, s65, s66, s67, s68, s69, s70, s71, s72, s73, s74, s75, s76, s77, s78, s79, s80, s81, s82, s83, s84, s85, s86, s87, s88, s89, s90, s91], defers := [] }) → Φ a) (n) ?_ ?_
  · refine fun Φ hΦ => hΦ _ _ _ _ _ _ _ _ _ _ _ _ _ _ _ _ _ _ _ _ _ _ _ _ _ _ _ _ _ _ _ _ _ _ _ _ _ _ _ _ _ _ _ _ _ _ _ _ _ _ _ _ _ _ _ _ _ _ _ _ _ _ _ _ _ _ _ _ _ _ _ _ _ _ _ _ _ _ _ _ _ _ _ _ _ (0) (0) ?_
    exact ⟨by omega, rfl⟩
  · intro k1 a1 wr1 hI1 J1 K1 hJ1 hK1
    refine hI1 (fun a => Code.wp _ _ _ a _) ?_
    clear hI1 a1
    intro s0 s1 s2 s3 s4 s5 s6 s7 s8 s9 s10 s11 s12 s13 s14 s15 s16 s17 s18 s19 s20 s21 s22 s23 s24 s25 s26 s27 s28 s29 s30 s31 s32 s33 s34 s35 s36 s37 s38 s39 s40 s41 s42 s43 s44 s45 s46 s47 s48 s49 s50 s51 s52 s53 s54 s55 s56 s57 s58 s59 s60 s61 s62 s63 s64 s65 s66 s67 s68 s69 s70 s71 s72 s73 s74 s75 s76 s77 s78 s79 s80 s81 s82 s83 s84 i m hrel
    show Code.wp _ _ _ _ _
    conv => arg 2; whnf
    obtain ⟨h1, rfl⟩ := hrel
    by_cases hi : i < n
    · obtain ⟨gx, c1, e1, _, _, _, hx⟩ := own3_cells ownx (by omega)
      injection e1 with e1 _ e2
      subst e1
      subst e2
      obtain ⟨gy, c2, e1, _, _, _, hy⟩ := own3_cells owny (by omega)
      injection e1 with e1 _ e2
      subst e1
      subst e2
      have hi1 : (i : Int) < n := by omega
      have hii : X[i]? = some (X[i]'(by omega)) := List.getElem?_eq_getElem (by omega)
      obtain ⟨x0, x1, x2⟩ := hx i _ hii
      obtain ⟨y0, y1, y2⟩ := hy i _ hii
      clear hx hy hii ownx owny
      generalize X[i] = x at *
      obtain ⟨xa, xb, xc⟩ := x
      have HN := fun w => sg_neq w (xa, xb, xc)
      simp only at HN x0 x1 x2 y0 y1 y2
      have HI := Lib.hid h1
      clear h1 hX
      go_wp2
      go_quiet (fail)
      go_wp2
      refine Handed.intro (n - (i + 1)) ?_ (hJ1 _ _ _ (fun Φ hΦ => hΦ _ _ _ _ _ _ _ _ _ _ _ _ _ _ _ _ _ _ _ _ _ _ _ _ _ _ _ _ _ _ _ _ _ _ _ _ _ _ _ _ _ _ _ _ _ _ _ _ _ _ _ _ _ _ _ _ _ _ _ _ _ _ _ _ _ _ _ _ _ _ _ _ _ _ _ _ _ _ _ _ _ _ _ _ _ (i + 1) (m + nq) ?_))
      · have := HI.out
        show n - (i + 1) < k1
        omega
      · have := HI.out
        exact ⟨by omega, rfl⟩
    · have hi2 : ((i : Int) < n) = False := by simp; omega
      have e : i = n := by omega
      subst e
      clear ownx owny
      go_wp2
      exact HQ.out _ _ _ _ _ _ _ _ _ _ _ _ _ _ _ _ _ _ _ _ _ _ _ _ _ _ _ _ _ _ _ _ _ _ _ _ _ _ _ _ _ _ _ _ _ _ _ _ _ _ _ _ _ _ _ _ _ _ _ _ _ _ _ _ _ _ _ _ _ _ _ _ _ _ _ _ _ _ _ _ _ _ _ _ _ _ _
end Go.Proofs.Ytojpijpajdiiiaa
