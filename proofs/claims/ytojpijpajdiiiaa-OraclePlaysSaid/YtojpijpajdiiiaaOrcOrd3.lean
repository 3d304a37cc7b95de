/- Layer 6's laws: OracleOrder, the loop that holds both lists against one another. No conditions. -/
import Derived.Test.YtojpijpajdiiiaaOrcOrd2
import Derived.IntWalk
import Derived.BigQuiet
import Derived.WalkLawsBesides
namespace Go.Proofs.Ytojpijpajdiiiaa
set_option linter.unusedVariables false
open Go.RowKit Go.Instr
attribute [local go_sem] ba_get ByteArray.mk_append_mk add_zero_addr

theorem sg_neq (w : World) (x : Sg) : (binOp .neq 37 (.agg #[.string ⟨x.1.toArray⟩, .string ⟨x.2.1.toArray⟩, .bool x.2.2]) (.agg #[.string ⟨x.1.toArray⟩, .string ⟨x.2.1.toArray⟩, .bool x.2.2])).run Try.prog w = .ok (.bool false) w := by
  have h := sg_equal w x x
  simp only [binOp, Sem.run_bind]
  rw [show (Value.agg #[.string ⟨x.1.toArray⟩, .string ⟨x.2.1.toArray⟩, .bool x.2.2]) = sg x from rfl, h]
  simp
set_option maxRecDepth 100000 in
set_option maxHeartbeats 800000 in
theorem ord_cmp (w0 : World) (Ax Ay : Option Addr) (cx cy n bx by' : Nat) (X : List Sg) (hn : n ≤ 2000) (ownx : w0.ownsRow bx 37 3 (.slice Ax n cx) n (srows X)) (owny : w0.ownsRow by' 37 3 (.slice Ay n cy) n (srows X))
    (hs : ∀ (i j : Nat) (hi : i < j) (hj : j < X.length), lp (X[i]'(by omega)) X[j] = true)
    (Q : Exit → Act → World → Prop)
    (hQ : ∀ (s0 s1 s2 s3 s4 s5 s8 s9 s10 s11 s12 s13 s14 s15 s16 s17 s18 s19 s20 s21 s22 s23 s24 s25 s26 s27 s28 s29 s30 s31 s32 s33 s34 s35 s36 s37 s38 s39 s40 s41 s42 s43 s44 s45 s46 s47 s48 s49 s50 s51 s52 s53 s54 s55 s57 s58 s59 s60 s61 s62 s63 s64 s65 s66 s67 s68 s69 s70 s71 s72 s73 s74 s75 s76 s77 s78 s79 s80 s81 s82 s83 s84 s85 s86 s87 s88 s89 s90 s91 s92 s93 s94 s95 s96 s97 s98 s99 s100 s101 s102 s103 s104 s105 s106 s107 s108 s109 s110 s111 s112 s113 s114 s115 : Value) (m : Nat), Q (.exit 4) { tmps := #[s0, s1, s2, s3, s4, s5, .slice Ax n cx, .slice Ay n cy, s8, s9, s10, s11, s12, s13, s14, s15, s16, s17, s18, s19, s20, s21, s22, s23, s24, s25, s26, s27, s28, s29, s30, s31, s32, s33, s34, s35, s36, s37, s38, s39, s40, s41, s42, s43, s44, s45, s46, s47, s48, s49, s50, s51, s52, s53, s54, s55, .int .i64 n, s57, s58, s59, s60, s61, s62, s63, s64, s65, s66, s67, s68, s69, s70, s71, s72, s73, s74, s75, s76, s77, s78, s79, s80, s81, s82, s83, s84, s85, s86, s87, s88, s89, s90, s91, s92, s93, s94, s95, s96, s97, s98, s99, s100, s101, s102, s103, s104, s105, s106, s107, s108, s109, s110, s111, s112, s113, s114, s115], defers := [] } (w0.drewN m))
    (s0 s1 s2 s3 s4 s5 s8 s9 s10 s11 s12 s13 s14 s15 s16 s17 s18 s19 s20 s21 s22 s23 s24 s25 s26 s27 s28 s29 s30 s31 s32 s33 s34 s35 s36 s37 s38 s39 s40 s41 s42 s43 s44 s45 s46 s47 s48 s49 s50 s51 s52 s53 s54 s55 s58 s59 s60 s61 s62 s63 s64 s65 s66 s67 s68 s69 s70 s71 s72 s73 s74 s75 s76 s77 s78 s79 s80 s81 s82 s83 s84 s85 s86 s87 s88 s89 s90 s91 s92 s93 s94 s95 s96 s97 s98 s99 s100 s101 s102 s103 s104 s105 s106 s107 s108 s109 s110 s111 s112 s113 s114 s115 : Value) :
    Code.wp Try.prog (.loop (loopAt Try.f4 2)) Q { tmps := #[s0, s1, s2, s3, s4, s5, .slice Ax n cx, .slice Ay n cy, s8, s9, s10, s11, s12, s13, s14, s15, s16, s17, s18, s19, s20, s21, s22, s23, s24, s25, s26, s27, s28, s29, s30, s31, s32, s33, s34, s35, s36, s37, s38, s39, s40, s41, s42, s43, s44, s45, s46, s47, s48, s49, s50, s51, s52, s53, s54, s55, .int .i64 n, .int .i64 0, s58, s59, s60, s61, s62, s63, s64, s65, s66, s67, s68, s69, s70, s71, s72, s73, s74, s75, s76, s77, s78, s79, s80, s81, s82, s83, s84, s85, s86, s87, s88, s89, s90, s91, s92, s93, s94, s95, s96, s97, s98, s99, s100, s101, s102, s103, s104, s105, s106, s107, s108, s109, s110, s111, s112, s113, s114, s115], defers := [] } w0 := by
  have hX : X.length = n := by have := ownx.1; rw [srows_length] at this; omega
  have HQ := Lib.hid hQ
  clear hQ
  refine wp_loop_ghost_k (fun k a wr => ∀ Φ : Act → Prop, (∀ (s0 s1 s2 s3 s4 s5 s8 s9 s10 s11 s12 s13 s14 s15 s16 s17 s18 s19 s20 s21 s22 s23 s24 s25 s26 s27 s28 s29 s30 s31 s32 s33 s34 s35 s36 s37 s38 s39 s40 s41 s42 s43 s44 s45 s46 s47 s48 s49 s50 s51 s52 s53 s54 s55 s58 s59 s60 s61 s62 s63 s64 s65 s66 s67 s68 s69 s70 s71 s72 s73 s74 s75 s76 s77 s78 s79 s80 s81 s82 s83 s84 s85 s86 s87 s88 s89 s90 s91 s92 s93 s94 s95 s96 s97 s98 s99 s100 s101 s102 s103 s104 s105 s106 s107 s108 s109 s110 s111 s112 s113 s114 s115 : Value) (i : Nat) (m : Nat), (i + k = n ∧ wr = w0.drewN m) → Φ { tmps := #[s0, s1, s2, s3, s4, s5, .slice Ax n cx, .slice Ay n cy, s8, s9, s10, s11, s12, s13, s14, s15, s16, s17, s18, s19, s20, s21, s22, s23, s24, s25, s26, s27, s28, s29, s30, s31, s32, s33, s34, s35, s36, s37, s38, s39, s40, s41, s42, s43, s44, s45, s46, s47, s48, s49, s50, s51, s52, s53, s54, s55, .int .i64 n, .int .i64 i, s58, s59, s60, s61, s62, s63, s64, s65, s66, s67, s68, s69, s70, s71, s72, s73, s74, s75, s76, s77, s78, s79, s80, s81, s82, s83, s84, s85, s86, s87, s88, s89, s90, s91, s92, s93, s94, s95, s96, s97, s98, s99, s100, s101, s102, s103, s104, s105, s106, s107, s108, s109, s110, s111, s112, s113, s114, s115], defers := [] }) → Φ a) (n) ?_ ?_
  · refine fun Φ hΦ => hΦ _ _ _ _ _ _ _ _ _ _ _ _ _ _ _ _ _ _ _ _ _ _ _ _ _ _ _ _ _ _ _ _ _ _ _ _ _ _ _ _ _ _ _ _ _ _ _ _ _ _ _ _ _ _ _ _ _ _ _ _ _ _ _ _ _ _ _ _ _ _ _ _ _ _ _ _ _ _ _ _ _ _ _ _ _ _ _ _ _ _ _ _ _ _ _ _ _ _ _ _ _ _ _ _ _ _ _ _ _ _ _ _ (0) (0) ?_
    exact ⟨by omega, rfl⟩
  · intro k1 a1 wr1 hI1 J1 K1 hJ1 hK1
    refine hI1 (fun a => Code.wp _ _ _ a _) ?_
    clear hI1 a1
    intro s0 s1 s2 s3 s4 s5 s6 s7 s8 s9 s10 s11 s12 s13 s14 s15 s16 s17 s18 s19 s20 s21 s22 s23 s24 s25 s26 s27 s28 s29 s30 s31 s32 s33 s34 s35 s36 s37 s38 s39 s40 s41 s42 s43 s44 s45 s46 s47 s48 s49 s50 s51 s52 s53 s54 s55 s56 s57 s58 s59 s60 s61 s62 s63 s64 s65 s66 s67 s68 s69 s70 s71 s72 s73 s74 s75 s76 s77 s78 s79 s80 s81 s82 s83 s84 s85 s86 s87 s88 s89 s90 s91 s92 s93 s94 s95 s96 s97 s98 s99 s100 s101 s102 s103 s104 s105 s106 s107 s108 s109 s110 s111 i m hrel
    show Code.wp _ _ _ _ _
    conv => arg 2; whnf
    obtain ⟨h1, rfl⟩ := hrel
    by_cases hi : i < n
    · obtain ⟨gx, c1, e1, _, _, _, hx⟩ := own3_cells ownx (by omega)
      injection e1 with e1 _ e2
      subst e1
      subst e2
      obtain ⟨gy, c2, e1, _, _, _, hy⟩ := own3_cells owny (by omega)
      injection e1 with e1 _ e2
      subst e1
      subst e2
      have hi1 : (i : Int) < n := by omega
      have hii : X[i]? = some (X[i]'(by omega)) := List.getElem?_eq_getElem (by omega)
      obtain ⟨x0, x1, x2⟩ := hx i _ hii
      obtain ⟨y0, y1, y2⟩ := hy i _ hii
      rcases i with _ | j
      · clear hx hy hii ownx owny
        generalize X[0] = x at *
        obtain ⟨xa, xb, xc⟩ := x
        have HN := fun w => sg_neq w (xa, xb, xc)
        simp only at HN x0 x1 x2 y0 y1 y2
        have HI := Lib.hid h1
        clear h1 hX hs
        go_wp2
        go_quiet (fail)
        go_wp2
        refine Handed.intro (n - (0 + 1)) ?_ (hJ1 _ _ _ (fun Φ hΦ => hΦ _ _ _ _ _ _ _ _ _ _ _ _ _ _ _ _ _ _ _ _ _ _ _ _ _ _ _ _ _ _ _ _ _ _ _ _ _ _ _ _ _ _ _ _ _ _ _ _ _ _ _ _ _ _ _ _ _ _ _ _ _ _ _ _ _ _ _ _ _ _ _ _ _ _ _ _ _ _ _ _ _ _ _ _ _ _ _ _ _ _ _ _ _ _ _ _ _ _ _ _ _ _ _ _ _ _ _ _ _ _ _ _ (1) (m + nq) ?_))
        · have := HI.out
          show n - (0 + 1) < k1
          omega
        · have := HI.out
          exact ⟨by omega, rfl⟩
      · have hjj : X[j]? = some (X[j]'(by omega)) := List.getElem?_eq_getElem (by omega)
        obtain ⟨u0, u1, u2⟩ := hx j _ hjj
        have hlp := hs j (j + 1) (by omega) (by omega)
        clear hx hy hii hjj ownx owny
        generalize X[j] = z at *
        generalize X[j + 1] = x at *
        obtain ⟨xa, xb, xc⟩ := x
        obtain ⟨za, zb, zc⟩ := z
        have HN := fun w => sg_neq w (xa, xb, xc)
        simp only at HN x0 x1 x2 y0 y1 y2 u0 u1 u2
        have hl : (Op.bytesLess za xa = true ∧ Op.bytesLess xa za = false ∧ xa ≠ za) ∨ (xa = za ∧ Op.bytesLess zb xb = true) := by
          simp only [lp, Bool.or_eq_true, Bool.and_eq_true, decide_eq_true_eq] at hlp
          rcases hlp with h | ⟨h, h2⟩
          · exact .inl ⟨h, bl_asymm _ _ h, fun e => by rw [e, bl_irrefl] at h; cases h⟩
          · exact .inr ⟨h.symm, h2⟩
        have HI := Lib.hid h1
        clear h1 hX hs hlp
        have v1 : IntKind.i64.wrap (((j : Int) + 1) - 1) = (j : Int) := by rw [Int.add_sub_cancel]; exact IntWalk.i64_in _ (by omega)
        have v2 : ((j : Int) + 1) - 1 = (j : Int) := by omega
        have g0 : (0 : Int) < (j : Int) + 1 := by omega
        have g1 : (j : Int) < n := by omega
        have g2 : (j : Int) + 1 < n := by omega
        have g3 : (0 : Int) ≤ (j : Int) + 1 := by omega
        have g4 : ((j : Int) + 1).toNat = j + 1 := by omega
        rcases hl with ⟨l1, l2, l3⟩ | ⟨rfl, l2⟩
        · have l4 : (xa.toArray = za.toArray) = False := by simp [l3]
          go_wp2
          refine wp_region_quiet_lit (by kernel_rfl) (by kernel_rfl) ?_
          repeat (first | go_big_quiet_step (fail) | quiet_step (fail))
          refine wpQuiet_nil ?_
          intro _ hw'
          obtain ⟨nq, hw2⟩ := hw'
          subst hw2
          go_wp2
          refine Handed.intro (n - (j + 1 + 1)) ?_ (hJ1 _ _ _ (fun Φ hΦ => hΦ _ _ _ _ _ _ _ _ _ _ _ _ _ _ _ _ _ _ _ _ _ _ _ _ _ _ _ _ _ _ _ _ _ _ _ _ _ _ _ _ _ _ _ _ _ _ _ _ _ _ _ _ _ _ _ _ _ _ _ _ _ _ _ _ _ _ _ _ _ _ _ _ _ _ _ _ _ _ _ _ _ _ _ _ _ _ _ _ _ _ _ _ _ _ _ _ _ _ _ _ _ _ _ _ _ _ _ _ _ _ _ _ (j + 1 + 1) (m + nq) ?_))
          · have := HI.out
            show n - (j + 1 + 1) < k1
            omega
          · have := HI.out
            exact ⟨by omega, by first | rfl | simp⟩
        · have l1 := bl_irrefl xa
          have l5 := bl_asymm _ _ l2
          have l6 : xb ≠ zb := fun e => by rw [e, bl_irrefl] at l2; cases l2
          have l7 : (xb == zb) = false := by simp [l6]
          clear l2 l6
          go_wp2
          refine wp_region_quiet_lit (by kernel_rfl) (by kernel_rfl) ?_
          repeat (first | go_big_quiet_step (fail) | quiet_step (fail))
          refine wpQuiet_nil ?_
          intro _ hw'
          obtain ⟨nq, hw2⟩ := hw'
          subst hw2
          go_wp2
          refine Handed.intro (n - (j + 1 + 1)) ?_ (hJ1 _ _ _ (fun Φ hΦ => hΦ _ _ _ _ _ _ _ _ _ _ _ _ _ _ _ _ _ _ _ _ _ _ _ _ _ _ _ _ _ _ _ _ _ _ _ _ _ _ _ _ _ _ _ _ _ _ _ _ _ _ _ _ _ _ _ _ _ _ _ _ _ _ _ _ _ _ _ _ _ _ _ _ _ _ _ _ _ _ _ _ _ _ _ _ _ _ _ _ _ _ _ _ _ _ _ _ _ _ _ _ _ _ _ _ _ _ _ _ _ _ _ _ (j + 1 + 1) (m + nq) ?_))
          · have := HI.out
            show n - (j + 1 + 1) < k1
            omega
          · have := HI.out
            exact ⟨by omega, by first | rfl | simp⟩
    · have hi2 : ((i : Int) < n) = False := by simp; omega
      have e : i = n := by omega
      subst e
      clear ownx owny hs
      go_wp2
      exact HQ.out _ _ _ _ _ _ _ _ _ _ _ _ _ _ _ _ _ _ _ _ _ _ _ _ _ _ _ _ _ _ _ _ _ _ _ _ _ _ _ _ _ _ _ _ _ _ _ _ _ _ _ _ _ _ _ _ _ _ _ _ _ _ _ _ _ _ _ _ _ _ _ _ _ _ _ _ _ _ _ _ _ _ _ _ _ _ _ _ _ _ _ _ _ _ _ _ _ _ _ _ _ _ _ _ _ _ _ _ _ _ _ _ _ _
end Go.Proofs.Ytojpijpajdiiiaa
