import Derived.Test.YtefcmigbdfeaiaaDoorJ30
import Derived.IntWalk
import Derived.Test.YtefcmigbdfeaiaaDoorJ26
import Derived.Test.YtefcmigbdfeaiaaDoorJ24
set_option linter.unusedSimpArgs false
set_option linter.unusedVariables false
/- The walks of the document's sums (package pharosref03): the words of a block come into the window. No conditions. -/
namespace Go.Proofs.YtefcmigbdfeaiaaDoor
set_option linter.unusedVariables false
open Go.RowKit Go.Instr

attribute [local go_sem] w_u8 w_add
theorem w_mul256 (x : UInt32) : IntKind.u32.wrap ((x.toNat : Int) * 256) = ((mul256 x).toNat : Int) := by
  rw [IntKind.wrap_u32', mul256, UInt32.toNat_mul]
  simp
attribute [local go_sem] w_mul256

set_option maxRecDepth 100000 in
set_option maxHeartbeats 1000000 in
theorem rblock_one (b : List UInt8) (hb : b.length = 64) (w0 : World) (gb gw : Nat) (hB : Blk w0 gb 154 (bvals b).toArray) (hW : Blk w0 gw 176 (wvs (fillW b 0)).toArray)
    (Q : Exit → Act → World → Prop) (p2 p4 : Value)
    (hQ : ∀ (s0 s1 s6 s7 s8 s9 s10 s11 s12 s13 s14 s15 s16 s17 s18 s19 s20 s21 s22 s23 s24 s25 s26 s27 s28 s29 s30 s31 s32 s33 s34 s35 s36 s37 s38 s39 s40 s41 s42 s43 s44 s45 s46 s47 s48 s49 s50 s51 s52 s53 s54 s55 s56 s57 s58 s59 s60 s61 s62 s63 s64 s65 s66 s67 s68 s69 s70 s71 s72 s73 s74 s75 s76 s77 s78 s79 s80 s81 s82 s83 s84 s85 s86 s87 s88 s89 s90 s91 s92 s93 s94 s95 s96 s97 s98 s99 s100 s101 s102 s103 s104 s105 s106 s107 s108 s109 s110 s111 s112 s113 s114 s115 s116 s117 s118 s119 s120 s121 s122 s123 s124 s125 s126 s127 s128 s129 s130 s131 s132 s133 s134 s135 s136 s137 s138 s139 s140 s141 s142 s143 s144 s145 s146 s147 s148 s149 s150 s151 s152 s153 s154 s155 s156 s157 s158 s159 s160 s161 s162 s163 s164 s165 s166 s167 s168 s169 s170 s171 s172 s173 s174 s175 s176 s177 s178 s179 s180 s181 s182 s183 s184 s185 s186 s187 s188 s189 s190 s191 s192 s193 s194 s195 : Value) (w2 : World), Blk w2 gw 176 (wvs (fillW b 64)).toArray → w0.grownBy w2 (some gw) → w2.heap.size = w0.heap.size → Q (.exit 0) { tmps := #[s0, s1, p2, .pointer (some ⟨gb, 0, none⟩), p4, .pointer (some ⟨gw, 0, none⟩), s6, s7, s8, s9, s10, s11, s12, s13, s14, s15, s16, s17, s18, s19, s20, s21, s22, s23, s24, s25, s26, s27, s28, s29, s30, s31, s32, s33, s34, s35, s36, s37, s38, s39, s40, s41, s42, s43, s44, s45, s46, s47, s48, s49, s50, s51, s52, s53, s54, s55, s56, s57, s58, s59, s60, s61, s62, s63, s64, s65, s66, s67, s68, s69, s70, s71, s72, s73, s74, s75, s76, s77, s78, s79, s80, s81, s82, s83, s84, s85, s86, s87, s88, s89, s90, s91, s92, s93, s94, s95, s96, s97, s98, s99, s100, s101, s102, s103, s104, s105, s106, s107, s108, s109, s110, s111, s112, s113, s114, s115, s116, s117, s118, s119, s120, s121, s122, s123, s124, s125, s126, s127, s128, s129, s130, s131, s132, s133, s134, s135, s136, s137, s138, s139, s140, s141, s142, s143, s144, s145, s146, s147, s148, s149, s150, s151, s152, s153, s154, s155, s156, s157, s158, s159, s160, s161, s162, s163, s164, s165, s166, s167, s168, s169, s170, s171, s172, s173, s174, s175, s176, s177, s178, s179, s180, s181, s182, s183, s184, s185, s186, s187, s188, s189, s190, s191, s192, s193, s194, s195], defers := [] } w2)
    (s0 s1 s7 s8 s9 s10 s11 s12 s13 s14 s15 s16 s17 s18 s19 s20 s21 s22 s23 s24 s25 s26 s27 s28 s29 s30 s31 s32 s33 s34 s35 s36 s37 s38 s39 s40 s41 s42 s43 s44 s45 s46 s47 s48 s49 s50 s51 s52 s53 s54 s55 s56 s57 s58 s59 s60 s61 s62 s63 s64 s65 s66 s67 s68 s69 s70 s71 s72 s73 s74 s75 s76 s77 s78 s79 s80 s81 s82 s83 s84 s85 s86 s87 s88 s89 s90 s91 s92 s93 s94 s95 s96 s97 s98 s99 s100 s101 s102 s103 s104 s105 s106 s107 s108 s109 s110 s111 s112 s113 s114 s115 s116 s117 s118 s119 s120 s121 s122 s123 s124 s125 s126 s127 s128 s129 s130 s131 s132 s133 s134 s135 s136 s137 s138 s139 s140 s141 s142 s143 s144 s145 s146 s147 s148 s149 s150 s151 s152 s153 s154 s155 s156 s157 s158 s159 s160 s161 s162 s163 s164 s165 s166 s167 s168 s169 s170 s171 s172 s173 s174 s175 s176 s177 s178 s179 s180 s181 s182 s183 s184 s185 s186 s187 s188 s189 s190 s191 s192 s193 s194 s195 : Value) :
    Code.wp Tryd.prog (.loop (loopAt Tryd.f115 0)) Q { tmps := #[s0, s1, p2, .pointer (some ⟨gb, 0, none⟩), p4, .pointer (some ⟨gw, 0, none⟩), .int .i64 0, s7, s8, s9, s10, s11, s12, s13, s14, s15, s16, s17, s18, s19, s20, s21, s22, s23, s24, s25, s26, s27, s28, s29, s30, s31, s32, s33, s34, s35, s36, s37, s38, s39, s40, s41, s42, s43, s44, s45, s46, s47, s48, s49, s50, s51, s52, s53, s54, s55, s56, s57, s58, s59, s60, s61, s62, s63, s64, s65, s66, s67, s68, s69, s70, s71, s72, s73, s74, s75, s76, s77, s78, s79, s80, s81, s82, s83, s84, s85, s86, s87, s88, s89, s90, s91, s92, s93, s94, s95, s96, s97, s98, s99, s100, s101, s102, s103, s104, s105, s106, s107, s108, s109, s110, s111, s112, s113, s114, s115, s116, s117, s118, s119, s120, s121, s122, s123, s124, s125, s126, s127, s128, s129, s130, s131, s132, s133, s134, s135, s136, s137, s138, s139, s140, s141, s142, s143, s144, s145, s146, s147, s148, s149, s150, s151, s152, s153, s154, s155, s156, s157, s158, s159, s160, s161, s162, s163, s164, s165, s166, s167, s168, s169, s170, s171, s172, s173, s174, s175, s176, s177, s178, s179, s180, s181, s182, s183, s184, s185, s186, s187, s188, s189, s190, s191, s192, s193, s194, s195], defers := [] } w0 := by
  have HQ := Lib.hid hQ
  clear hQ
  refine wp_loop_ghost_k (fun k a wr => ∀ Φ : Act → Prop, (∀ (s0 s1 s7 s8 s9 s10 s11 s12 s13 s14 s15 s16 s17 s18 s19 s20 s21 s22 s23 s24 s25 s26 s27 s28 s29 s30 s31 s32 s33 s34 s35 s36 s37 s38 s39 s40 s41 s42 s43 s44 s45 s46 s47 s48 s49 s50 s51 s52 s53 s54 s55 s56 s57 s58 s59 s60 s61 s62 s63 s64 s65 s66 s67 s68 s69 s70 s71 s72 s73 s74 s75 s76 s77 s78 s79 s80 s81 s82 s83 s84 s85 s86 s87 s88 s89 s90 s91 s92 s93 s94 s95 s96 s97 s98 s99 s100 s101 s102 s103 s104 s105 s106 s107 s108 s109 s110 s111 s112 s113 s114 s115 s116 s117 s118 s119 s120 s121 s122 s123 s124 s125 s126 s127 s128 s129 s130 s131 s132 s133 s134 s135 s136 s137 s138 s139 s140 s141 s142 s143 s144 s145 s146 s147 s148 s149 s150 s151 s152 s153 s154 s155 s156 s157 s158 s159 s160 s161 s162 s163 s164 s165 s166 s167 s168 s169 s170 s171 s172 s173 s174 s175 s176 s177 s178 s179 s180 s181 s182 s183 s184 s185 s186 s187 s188 s189 s190 s191 s192 s193 s194 s195 : Value) (i : Nat), (i + k = 64 ∧ Blk wr gw 176 (wvs (fillW b i)).toArray ∧ w0.grownBy wr (some gw) ∧ wr.heap.size = w0.heap.size) → Φ { tmps := #[s0, s1, p2, .pointer (some ⟨gb, 0, none⟩), p4, .pointer (some ⟨gw, 0, none⟩), .int .i64 i, s7, s8, s9, s10, s11, s12, s13, s14, s15, s16, s17, s18, s19, s20, s21, s22, s23, s24, s25, s26, s27, s28, s29, s30, s31, s32, s33, s34, s35, s36, s37, s38, s39, s40, s41, s42, s43, s44, s45, s46, s47, s48, s49, s50, s51, s52, s53, s54, s55, s56, s57, s58, s59, s60, s61, s62, s63, s64, s65, s66, s67, s68, s69, s70, s71, s72, s73, s74, s75, s76, s77, s78, s79, s80, s81, s82, s83, s84, s85, s86, s87, s88, s89, s90, s91, s92, s93, s94, s95, s96, s97, s98, s99, s100, s101, s102, s103, s104, s105, s106, s107, s108, s109, s110, s111, s112, s113, s114, s115, s116, s117, s118, s119, s120, s121, s122, s123, s124, s125, s126, s127, s128, s129, s130, s131, s132, s133, s134, s135, s136, s137, s138, s139, s140, s141, s142, s143, s144, s145, s146, s147, s148, s149, s150, s151, s152, s153, s154, s155, s156, s157, s158, s159, s160, s161, s162, s163, s164, s165, s166, s167, s168, s169, s170, s171, s172, s173, s174, s175, s176, s177, s178, s179, s180, s181, s182, s183, s184, s185, s186, s187, s188, s189, s190, s191, s192, s193, s194, s195], defers := [] }) → Φ a) (64) ?_ ?_
  · refine fun Φ hΦ => hΦ _ _ _ _ _ _ _ _ _ _ _ _ _ _ _ _ _ _ _ _ _ _ _ _ _ _ _ _ _ _ _ _ _ _ _ _ _ _ _ _ _ _ _ _ _ _ _ _ _ _ _ _ _ _ _ _ _ _ _ _ _ _ _ _ _ _ _ _ _ _ _ _ _ _ _ _ _ _ _ _ _ _ _ _ _ _ _ _ _ _ _ _ _ _ _ _ _ _ _ _ _ _ _ _ _ _ _ _ _ _ _ _ _ _ _ _ _ _ _ _ _ _ _ _ _ _ _ _ _ _ _ _ _ _ _ _ _ _ _ _ _ _ _ _ _ _ _ _ _ _ _ _ _ _ _ _ _ _ _ _ _ _ _ _ _ _ _ _ _ _ _ _ _ _ _ _ _ _ _ _ _ _ _ _ _ _ _ _ _ _ _ (0) ?_
    exact ⟨by omega, hW, World.grownBy.refl _ _, rfl⟩
  · intro k1 a1 wr1 hI1 J1 K1 hJ1 hK1
    refine hI1 (fun a => Code.wp _ _ _ a _) ?_
    clear hI1 a1
    intro s0 s1 s2 s3 s4 s5 s6 s7 s8 s9 s10 s11 s12 s13 s14 s15 s16 s17 s18 s19 s20 s21 s22 s23 s24 s25 s26 s27 s28 s29 s30 s31 s32 s33 s34 s35 s36 s37 s38 s39 s40 s41 s42 s43 s44 s45 s46 s47 s48 s49 s50 s51 s52 s53 s54 s55 s56 s57 s58 s59 s60 s61 s62 s63 s64 s65 s66 s67 s68 s69 s70 s71 s72 s73 s74 s75 s76 s77 s78 s79 s80 s81 s82 s83 s84 s85 s86 s87 s88 s89 s90 s91 s92 s93 s94 s95 s96 s97 s98 s99 s100 s101 s102 s103 s104 s105 s106 s107 s108 s109 s110 s111 s112 s113 s114 s115 s116 s117 s118 s119 s120 s121 s122 s123 s124 s125 s126 s127 s128 s129 s130 s131 s132 s133 s134 s135 s136 s137 s138 s139 s140 s141 s142 s143 s144 s145 s146 s147 s148 s149 s150 s151 s152 s153 s154 s155 s156 s157 s158 s159 s160 s161 s162 s163 s164 s165 s166 s167 s168 s169 s170 s171 s172 s173 s174 s175 s176 s177 s178 s179 s180 s181 s182 s183 s184 s185 s186 s187 s188 s189 s190 i hrel
    show Code.wp _ _ _ _ _
    conv => arg 2; whnf
    obtain ⟨h1, hw, hg, hs⟩ := hrel
    by_cases hi : i < 64
    · have hne : gb ≠ gw := hB.ne_ hW (by decide)
      have hbb := hB.grown hg (by intro e; injection e with e; exact hne e)
      have q0 : wr1.cell? ⟨gb, i, none⟩ = some (.int .u8 ((b.getD i 0).toNat : Int)) := (hbb.cell _).trans (bvals_at (by omega))
      have c0 : wr1.cell? ⟨gw, i / 4, none⟩ = some (.int .u32 (((fillW b i).getD (i / 4) 0).toNat : Int)) := (hw.cell _).trans (wvs_at (by rw [fillW_length]; omega))
      have f0 : wr1.frozen? ⟨gw, i / 4, none⟩ = false := hw.frozen _
      have hi1 : (i : Int) < 64 := by omega
      have hi0 : (0 : Int) ≤ i := by omega
      have E : Hid (fillW b (i + 1) = (fillW b i).set (i / 4) (addW (mul256 ((fillW b i).getD (i / 4) 0)) (ofB (b.getD i 0)))) := Lib.hid rfl
      have H := Lib.hid (And.intro h1 (And.intro hw (And.intro hg hs)))
      generalize b.getD i 0 = x0 at *
      generalize (fillW b i).getD (i / 4) 0 = x4 at *
      clear h1 hw hg hs hbb
      have t0 : ((i : Int) / 4).toNat = i / 4 := by omega
      have l0 : (i : Int) / 4 < 16 := by omega
      have z0 : 0 ≤ (i : Int) / 4 := by omega
      have v0 : IntKind.i64.wrap ((i : Int) / 4) = (i : Int) / 4 := IntWalk.i64_in _ (by omega)
      go_wp2
      go_still_tail 13, (by kernel_rfl)
      go_wp2
      refine Handed.intro (64 - (i + 1)) ?_ (hJ1 _ _ _ (fun Φ hΦ => hΦ _ _ _ _ _ _ _ _ _ _ _ _ _ _ _ _ _ _ _ _ _ _ _ _ _ _ _ _ _ _ _ _ _ _ _ _ _ _ _ _ _ _ _ _ _ _ _ _ _ _ _ _ _ _ _ _ _ _ _ _ _ _ _ _ _ _ _ _ _ _ _ _ _ _ _ _ _ _ _ _ _ _ _ _ _ _ _ _ _ _ _ _ _ _ _ _ _ _ _ _ _ _ _ _ _ _ _ _ _ _ _ _ _ _ _ _ _ _ _ _ _ _ _ _ _ _ _ _ _ _ _ _ _ _ _ _ _ _ _ _ _ _ _ _ _ _ _ _ _ _ _ _ _ _ _ _ _ _ _ _ _ _ _ _ _ _ _ _ _ _ _ _ _ _ _ _ _ _ _ _ _ _ _ _ _ _ _ _ _ _ _ (i + 1) ?_))
      · have := H.out.1
        show 64 - (i + 1) < k1
        omega
      · obtain ⟨h1, hw, hg, hs⟩ := H.out
        have e := E.out
        have hw2 := hw.set_ (i / 4) (.int .u32 ((addW (mul256 x4) (ofB x0)).toNat : Int))
        rw [wvs_set, ← e] at hw2
        refine ⟨by omega, hw2.drew, grown_set hg _ _, ?_⟩
        simp [hs]
    · have e : i = 64 := by omega
      subst e
      have H := Lib.hid (And.intro hw (And.intro hg hs))
      clear hw hg hs h1
      go_wp2
      exact HQ.out _ _ _ _ _ _ _ _ _ _ _ _ _ _ _ _ _ _ _ _ _ _ _ _ _ _ _ _ _ _ _ _ _ _ _ _ _ _ _ _ _ _ _ _ _ _ _ _ _ _ _ _ _ _ _ _ _ _ _ _ _ _ _ _ _ _ _ _ _ _ _ _ _ _ _ _ _ _ _ _ _ _ _ _ _ _ _ _ _ _ _ _ _ _ _ _ _ _ _ _ _ _ _ _ _ _ _ _ _ _ _ _ _ _ _ _ _ _ _ _ _ _ _ _ _ _ _ _ _ _ _ _ _ _ _ _ _ _ _ _ _ _ _ _ _ _ _ _ _ _ _ _ _ _ _ _ _ _ _ _ _ _ _ _ _ _ _ _ _ _ _ _ _ _ _ _ _ _ _ _ _ _ _ _ _ _ _ _ _ _ _ _ _ H.out.1 H.out.2.1 H.out.2.2
end Go.Proofs.YtefcmigbdfeaiaaDoor

/- Layer 10's laws: the acts, long, made. No conditions. -/
namespace Go.Proofs.YtefcmigbdfeaiaaDoor
set_option linter.unusedVariables false
open Go.RowKit Go.Instr
attribute [local go_sem] ba_get ByteArray.mk_append_mk
attribute [local go_sem ↓] Go.wp_at_zero Go.wp_at_succ

structure Act10 where
  kind : Int
  key : List UInt8
  value : List UInt8
def actv (s : Act10) : List Value := [.int .i64 s.kind, .string ⟨s.key.toArray⟩, .string ⟨s.value.toArray⟩]
def acts (L : List Act10) : List Value := L.flatMap actv
theorem acts_length : ∀ (l : List Act10), (acts l).length = l.length * 3
  | [] => rfl
  | x :: l => by
    have : acts (x :: l) = actv x ++ acts l := rfl
    rw [this, List.length_append, acts_length l, List.length_cons]
    show 3 + _ = _
    omega
theorem acts_at : ∀ (l : List Act10) (i j : Nat) (x : Act10), l[i]? = some x → j < 3 → (acts l)[i * 3 + j]? = (actv x)[j]?
  | [], i, j, x, h, _ => by simp at h
  | y :: l, 0, j, x, h, hj => by
    simp at h; subst h
    rw [show acts (y :: l) = actv y ++ acts l from rfl, Nat.zero_mul, Nat.zero_add, List.getElem?_append_left (show j < 3 from hj)]
  | y :: l, i + 1, j, x, h, hj => by
    rw [show acts (y :: l) = actv y ++ acts l from rfl, List.getElem?_append_right (show 3 ≤ _ by omega), show (actv y).length = 3 from rfl, show (i + 1) * 3 + j - 3 = i * 3 + j by omega]
    exact acts_at l i j x (by simpa using h) hj
/-- the three cells of an act -/
theorem acts_read {w : World} {B : Nat} {A : Option Addr} {l : List Act10} (h : Reads w B 3 A l.length (acts l)) (i : Nat) (hi : i < l.length) :
    ∃ ad off, A = some ⟨ad, off, none⟩ ∧ ad < B ∧ ∀ w', Below B w w' → w'.cell? ⟨ad, off + i * 3, none⟩ = some (.int .i64 l[i].kind) ∧ w'.cell? ⟨ad, off + i * 3 + 1, none⟩ = some (.string ⟨l[i].key.toArray⟩) ∧ w'.cell? ⟨ad, off + i * 3 + 2, none⟩ = some (.string ⟨l[i].value.toArray⟩) := by
  have hl := acts_length l
  obtain ⟨ad, off, rfl, hbl, hcell⟩ := h.form (by omega) (by omega)
  refine ⟨ad, off, rfl, hbl, fun w' hb => ?_⟩
  have hx : l[i]? = some l[i] := List.getElem?_eq_getElem hi
  have each : ∀ j u, j < 3 → (actv l[i])[j]? = some u → w'.cell? ⟨ad, off + (i * 3 + j), none⟩ = some u := fun j u hj hu => by
    have h1 := acts_at l i j _ hx hj
    rw [hu, List.getElem?_eq_getElem (by omega)] at h1
    have h2 := hcell (i * 3 + j) (by omega)
    rw [Option.some.inj h1] at h2
    exact (hb.cell (p := ⟨ad, off + (i * 3 + j), none⟩) hbl).trans h2
  exact ⟨each 0 _ (by omega) rfl, each 1 _ (by omega) rfl, each 2 _ (by omega) rfl⟩

/-- too long a list, or too long a text -/
def longA (a : Act10) : Bool := decide (100 < a.key.length) || decide (100 < a.value.length)
def longW (L : List Act10) (n : Nat) : Bool := decide (n < L.length) || L.any longA

set_option maxRecDepth 100000 in
theorem law10_long (w : World) (A : Option Addr) (c : Nat) (L : List Act10) (n : Nat) (HR : Reads w w.heap.size 3 A L.length (acts L)) (hn : n ≤ 100000) :
    Calls Tryd.prog 28 #[.slice A L.length c, .int .i64 (n : Int)] w fun e w' => e = .returned (.bool (longW L n)) ∧ Below w.heap.size w w' := by
  have HP : Hid (∀ r w', longW L n = r → Below w.heap.size w w' → (fun e w' => e = Ending.returned (.bool (longW L n)) ∧ Below w.heap.size w w') (Ending.returned (.bool r)) w') := Lib.hid (fun r W' a1 a2 => ⟨by rw [a1], a2⟩)
  have HC : Hid (longW L n = (decide (n < L.length) || L.any longA)) := Lib.hid rfl
  generalize (fun e w' => e = Ending.returned (.bool (longW L n)) ∧ Below w.heap.size w w') = P at HP ⊢
  generalize longW L n = lw at *
  have HRR := Lib.hid HR
  clear HR
  by_cases hln : n < L.length
  · have hI : (n : Int) < L.length := by omega
    go_enter Tryd.func28, Tryd.ntmps28
    go_wp2_with fail
    exact HP.out _ _ (by rw [HC.out]; simp [hln]) (Below.refl _ _)
  · have hI : ((n : Int) < L.length) = False := by simp; omega
    have HC2 : Hid (lw = L.any longA) := Lib.hid (by rw [HC.out]; simp [hln])
    have hln' : L.length ≤ n := by omega
    clear HC hln
    go_enter Tryd.func28, Tryd.ntmps28
    go_wp2_with fail
    refine wp_loop_ghost_k (fun k a wr => ∀ Φ : Act → Prop, (∀ (s1 s2 s3 s4 s6 s7 s8 s9 s10 s11 s12 s13 s14 s15 s16 s17 s18 s19 s20 s21 s22 s23 s24 s25 s26 s27 s28 s29 s30 s31 : Value) (i : Nat), (i + k = L.length ∧ L.any longA = (L.drop i).any longA ∧ Below w.heap.size w wr) → Φ { tmps := #[.slice A L.length c, s1, s2, s3, s4, .int .i64 (i : Int), s6, s7, s8, s9, s10, s11, s12, s13, s14, s15, s16, s17, s18, s19, s20, s21, s22, s23, s24, s25, s26, s27, s28, s29, s30, s31], defers := [] }) → Φ a) (L.length) ?_ ?_
    · refine fun Φ hΦ => hΦ _ _ _ _ _ _ _ _ _ _ _ _ _ _ _ _ _ _ _ _ _ _ _ _ _ _ _ _ _ _ (0) ?_
      exact ⟨by omega, rfl, Below.refl _ _⟩
    · intro k1 a1 wr1 hI1 J1 K1 hJ1 hK1
      refine hI1 (fun a => Code.wp _ _ _ a _) ?_
      clear hI1 a1
      intro s0 s1 s2 s3 s4 s5 s6 s7 s8 s9 s10 s11 s12 s13 s14 s15 s16 s17 s18 s19 s20 s21 s22 s23 s24 s25 s26 s27 s28 s29 i hrel
      show Code.wp _ _ _ _ _
      obtain ⟨h1, h2, hb⟩ := hrel
      by_cases hi : i < L.length
      · obtain ⟨ad, off, rfl, hbl, hcell⟩ := acts_read HRR.out i hi
        obtain ⟨r0, r1, r2⟩ := hcell _ hb
        have hd : L.drop i = L[i] :: L.drop (i + 1) := List.drop_eq_getElem_cons hi
        have HI := Lib.hid (And.intro h1 (And.intro h2 (And.intro hb hd)))
        have hi0 : (i : Int) < L.length := by omega
        have hi1 : (0 : Int) ≤ i := by omega
        clear h1 h2 hb hd hcell hbl
        generalize L[i] = x at *
        obtain ⟨kind, key, value⟩ := x
        by_cases hk : 100 < key.length
        · have hk' : (100 : Int) < key.length := by omega
          go_wp2_with fail
          exact HP.out _ _ (by rw [HC2.out, HI.out.2.1, HI.out.2.2.2, List.any_cons]; simp [longA, hk]) HI.out.2.2.1
        · have hk' : ((100 : Int) < key.length) = False := by simp; omega
          by_cases hv : 100 < value.length
          · have hv' : (100 : Int) < value.length := by omega
            go_wp2_with fail
            exact HP.out _ _ (by rw [HC2.out, HI.out.2.1, HI.out.2.2.2, List.any_cons]; simp [longA, hv]) HI.out.2.2.1
          · have hv' : ((100 : Int) < value.length) = False := by simp; omega
            go_wp2_with fail
            refine Handed.intro (L.length - (i + 1)) ?_ (hJ1 _ _ _ (fun Φ hΦ => hΦ _ _ _ _ _ _ _ _ _ _ _ _ _ _ _ _ _ _ _ _ _ _ _ _ _ _ _ _ _ _ (i + 1) ?_))
            · have := HI.out.1; omega
            exact ⟨by have := HI.out.1; omega, by rw [HI.out.2.1, HI.out.2.2.2, List.any_cons]; simp [longA, hk, hv], HI.out.2.2.1⟩
      · have hi0 : ((i : Int) < L.length) = False := by simp; omega
        have HI := Lib.hid (And.intro h2 (And.intro hb (show L.drop i = [] from List.drop_of_length_le (by omega))))
        clear h1 h2 hb
        go_wp2_with fail
        exact HP.out _ _ (by rw [HC2.out, HI.out.1, HI.out.2.2]; rfl) HI.out.2.1
end Go.Proofs.YtefcmigbdfeaiaaDoor

/- Layer 10's laws: made. No conditions. -/
namespace Go.Proofs.YtefcmigbdfeaiaaDoor
set_option linter.unusedVariables false
open Go.RowKit Go.Instr
attribute [local go_sem] ba_get ByteArray.mk_append_mk
attribute [local go_sem ↓] Go.wp_at_zero Go.wp_at_succ

namespace Trie
def actW (t : T) (a : Act10) : T :=
  if 1 < a.kind then (if (getW t a.key).2 = 0 then del t (Nib.of a.key) else t)
  else (if putCode a.key a.value = 0 then put t (Nib.of a.key) a.value else t)
def madeW (L : List Act10) : T := (L.take 30).foldl actW .nil
theorem getW_code {t : T} {key : List UInt8} (h : (getW t key).2 = 0) : keyedW key = true ∧ look t (Nib.of key) ≠ [] := by
  unfold getW at h
  split at h
  · rename_i hk
    split at h
    · cases h
    · rename_i hv
      exact ⟨hk, fun e => hv (by rw [e]; rfl)⟩
  · cases h
theorem Good.act {t : T} (h : Good t) (a : Act10) : Good (actW t a) := by
  unfold actW
  split
  · split
    · rename_i hg
      exact h.del (getW_code hg).2
    · exact h
  · split
    · rename_i hp
      obtain ⟨h1, h2, h3⟩ := putCode_zero hp
      exact h.put h1 h2 h3
    · exact h
theorem count_act {t : T} (h : Good t) (a : Act10) : count (actW t a) ≤ count t + 1 := by
  unfold actW
  split
  · split
    · rename_i hg
      have := count_del t (Nib.of a.key) h.wf (Nib.fit_of _) (getW_code hg).2
      omega
    · omega
  · split
    · exact count_put _ _ _
    · omega
end Trie


set_option maxRecDepth 100000 in
set_option maxHeartbeats 1000000 in
theorem law10_made (w : World) (A : Option Addr) (c : Nat) (L : List Act10) (HR : Reads w w.heap.size 3 A L.length (acts L)) (hS : L.any longA = false) (hT : Tbl w) :
    Calls Tryd.prog 30 #[.slice A L.length c] w (NewEnd w (Trie.madeW L)) := by
  have HP : Hid (∀ t' v w', Trie.madeW L = t' → TrieP w' t' v → Below w.heap.size w w' → NewEnd w (Trie.madeW L) (.returned v) w') := Lib.hid (fun t' v w' h1 h2 h3 => ⟨v, rfl, by rw [h1]; exact h2, h3⟩)
  generalize NewEnd w (Trie.madeW L) = P at HP ⊢
  have HRR := Lib.hid HR
  have HS := Lib.hid hS
  have HTb := Lib.hid hT
  clear HR hS hT
  go_enter Tryd.func30, Tryd.ntmps30
  go_wp2_with (go_at_call 49; refine (trie_New _).mono ?_; rintro e w1 ⟨v0, rfl, hk0, hb0⟩; have H0 := Lib.hid (And.intro hk0 hb0); clear hk0 hb0)
  refine wp_loop_ghost_k (fun k a wr => ∀ Φ : Act → Prop, (∀ (s1 s2 s5 s6 s7 s8 s9 s10 s11 s12 s13 s14 s15 s16 s17 s18 s19 s20 s21 s22 s23 s24 s25 s26 s27 s28 s29 s30 s31 s32 s33 s34 s35 s36 s37 s38 s39 s40 s41 s42 s43 s44 s45 s46 s47 s48 s49 s50 s51 s52 : Value) (i : Nat) (t : Trie.T) (v : Value), (i + k = 30 ∧ i ≤ L.length ∧ (L.take i).foldl Trie.actW .nil = t ∧ Trie.count t ≤ i ∧ TrieP wr t v ∧ Below w.heap.size w wr) → Φ { tmps := #[.slice A L.length c, s1, s2, v, .int .i64 (i : Int), s5, s6, s7, s8, s9, s10, s11, s12, s13, s14, s15, s16, s17, s18, s19, s20, s21, s22, s23, s24, s25, s26, s27, s28, s29, s30, s31, s32, s33, s34, s35, s36, s37, s38, s39, s40, s41, s42, s43, s44, s45, s46, s47, s48, s49, s50, s51, s52], defers := [] }) → Φ a) (30) ?_ ?_
  · refine fun Φ hΦ => hΦ _ _ _ _ _ _ _ _ _ _ _ _ _ _ _ _ _ _ _ _ _ _ _ _ _ _ _ _ _ _ _ _ _ _ _ _ _ _ _ _ _ _ _ _ _ _ _ _ _ _ (0) (.nil) (v0) ?_
    exact ⟨by omega, by omega, rfl, by simp [Trie.count], H0.out.1, H0.out.2⟩
  · intro k1 a1 wr1 hI1 J1 K1 hJ1 hK1
    refine hI1 (fun a => Code.wp _ _ _ a _) ?_
    clear hI1 a1
    intro s0 s1 s2 s3 s4 s5 s6 s7 s8 s9 s10 s11 s12 s13 s14 s15 s16 s17 s18 s19 s20 s21 s22 s23 s24 s25 s26 s27 s28 s29 s30 s31 s32 s33 s34 s35 s36 s37 s38 s39 s40 s41 s42 s43 s44 s45 s46 s47 s48 s49 i t v hrel
    show Code.wp _ _ _ _ _
    obtain ⟨h1, h0, h2, h3, hk, hb⟩ := hrel
    by_cases hi : i < L.length ∧ i < 30
    · obtain ⟨hil, hi30⟩ := hi
      obtain ⟨ad, off, rfl, hbl, hcell⟩ := acts_read HRR.out i hil
      have hs : (L.take (i + 1)).foldl Trie.actW .nil = Trie.actW t (L[i]'hil) := by
        rw [List.take_succ_eq_append_getElem hil, List.foldl_append, h2]; rfl
      have hlo : longA (L[i]'hil) = false := by
        have := HS.out
        rw [List.any_eq_false] at this
        simpa using this _ (List.getElem_mem hil)
      have HI := Lib.hid (And.intro h1 (And.intro h3 (And.intro hk (And.intro hb (And.intro hs hil)))))
      have hi0 : (i : Int) < L.length := by omega
      have hi1 : (0 : Int) ≤ i := by omega
      have hi2 : (i : Int) < 30 := by omega
      clear h1 h0 h2 h3 hk hb hbl hs
      generalize L[i] = x at *
      obtain ⟨kind, key, value⟩ := x
      have hlen : key.length ≤ 100 ∧ value.length ≤ 100 := by simp [longA] at hlo; omega
      clear hlo
      have HPut : Hid (∀ W, Below wr1.heap.size wr1 W → Calls Tryd.prog 50 #[v, .string ⟨key.toArray⟩, .string ⟨value.toArray⟩] W (TPutEnd W (Trie.put t (Nib.of key) value) (Trie.putCode key value))) := Lib.hid (fun W hW => by
          exact trie_Put W t v (HI.out.2.2.1.next hW) (by have := HI.out.2.1; omega) (HTb.out.next (HI.out.2.2.2.1.nxt hW)) key value (by omega) (by omega))
      have HDel : Hid (∀ W, Below wr1.heap.size wr1 W → Calls Tryd.prog 65 #[v, .string ⟨key.toArray⟩] W (TPutEnd W (Trie.del t (Nib.of key)) (Trie.getW t key).2)) := Lib.hid (fun W hW => by
          exact trie_Del W t v (HI.out.2.2.1.next hW) (by have := HI.out.2.1; omega) (HTb.out.next (HI.out.2.2.2.1.nxt hW)) key (by omega))
      have HCn : Hid (Trie.count (Trie.actW t ⟨kind, key, value⟩) ≤ i + 1) := Lib.hid (by have := Trie.count_act HI.out.2.2.1.1 ⟨kind, key, value⟩; have := HI.out.2.1; omega)
      by_cases hkd : 1 < kind
      · by_cases hg : (Trie.getW t key).2 = 0
        · have HQ : Hid (Trie.actW t ⟨kind, key, value⟩ = Trie.del t (Nib.of key)) := Lib.hid (by simp [Trie.actW, hkd, hg])
          rw [hg] at HDel
          clear hg hlen
          generalize Trie.put t (Nib.of key) value = t2 at *
          generalize Trie.del t (Nib.of key) = t3 at *
          generalize Trie.putCode key value = pc at *
          have HCells := Lib.hid hcell
          obtain ⟨r0, r1, r2⟩ := HCells.out _ HI.out.2.2.2.1
          clear hcell
          go_upto_region 5 with (fail)
          go_region_held3 (fun w' => w'.cell? ⟨ad, off + i * 3 + 1, none⟩ = some (.string ⟨key.toArray⟩) ∧ w'.cell? ⟨ad, off + i * 3 + 2, none⟩ = some (.string ⟨value.toArray⟩)) (first | go_keep | (constructor <;> assumption)) (first | (go_at_call 50; refine (HPut.out _ (by first | exact Below.refl _ _ | exact (Below.refl _ _).drew)).mono ?_; rintro e w3 ⟨v3, rfl, hb, hk3, hn3⟩; have hb3 : Below wr1.heap.size wr1 w3 := (by first | exact hb | exact hb.start); clear hb; obtain ⟨d0, d1, d2⟩ := HCells.out _ (HI.out.2.2.2.1.nxt hb3)))
          go_wp2_with (go_at_call 65; refine (HDel.out _ hb3).mono ?_; rintro e w4 ⟨v4, rfl, hb4, hk4, hn4⟩)
          refine Handed.intro (30 - (i + 1)) ?_ (hJ1 _ _ _ (fun Φ hΦ => hΦ _ _ _ _ _ _ _ _ _ _ _ _ _ _ _ _ _ _ _ _ _ _ _ _ _ _ _ _ _ _ _ _ _ _ _ _ _ _ _ _ _ _ _ _ _ _ _ _ _ _ (i + 1) (t3) (v4) ?_))
          · have := HI.out.1; omega
          exact ⟨by have := HI.out.1; omega, HI.out.2.2.2.2.2, HI.out.2.2.2.2.1.trans HQ.out, HQ.out ▸ HCn.out, hk4 trivial, HI.out.2.2.2.1.nxt (hb3.nxt hb4)⟩
        · have HQ : Hid (Trie.actW t ⟨kind, key, value⟩ = t) := Lib.hid (by simp [Trie.actW, hkd, hg])
          have hg1 : (((Trie.getW t key).2 : Int) == 0) = false := by simp; exact hg
          clear hg hlen
          generalize (Trie.getW t key).2 = gc at *
          generalize Trie.put t (Nib.of key) value = t2 at *
          generalize Trie.del t (Nib.of key) = t3 at *
          generalize Trie.putCode key value = pc at *
          have HCells := Lib.hid hcell
          obtain ⟨r0, r1, r2⟩ := HCells.out _ HI.out.2.2.2.1
          clear hcell
          go_upto_region 5 with (fail)
          go_region_held3 (fun w' => w'.cell? ⟨ad, off + i * 3 + 1, none⟩ = some (.string ⟨key.toArray⟩) ∧ w'.cell? ⟨ad, off + i * 3 + 2, none⟩ = some (.string ⟨value.toArray⟩)) (first | go_keep | (constructor <;> assumption)) (first | (go_at_call 50; refine (HPut.out _ (by first | exact Below.refl _ _ | exact (Below.refl _ _).drew)).mono ?_; rintro e w3 ⟨v3, rfl, hb, hk3, hn3⟩; have hb3 : Below wr1.heap.size wr1 w3 := (by first | exact hb | exact hb.start); clear hb; obtain ⟨d0, d1, d2⟩ := HCells.out _ (HI.out.2.2.2.1.nxt hb3)))
          go_wp2_with (go_at_call 65; refine (HDel.out _ hb3).mono ?_; rintro e w4 ⟨v4, rfl, hb4, hk4, hn4⟩)
          refine Handed.intro (30 - (i + 1)) ?_ (hJ1 _ _ _ (fun Φ hΦ => hΦ _ _ _ _ _ _ _ _ _ _ _ _ _ _ _ _ _ _ _ _ _ _ _ _ _ _ _ _ _ _ _ _ _ _ _ _ _ _ _ _ _ _ _ _ _ _ _ _ _ _ (i + 1) (t) (v) ?_))
          · have := HI.out.1; omega
          exact ⟨by have := HI.out.1; omega, HI.out.2.2.2.2.2, HI.out.2.2.2.2.1.trans HQ.out, HQ.out ▸ HCn.out, HI.out.2.2.1.next (hb3.nxt hb4), HI.out.2.2.2.1.nxt (hb3.nxt hb4)⟩
      · have hkd' : (1 < kind) = False := by simp; omega
        by_cases hg : Trie.putCode key value = 0
        · have HQ : Hid (Trie.actW t ⟨kind, key, value⟩ = Trie.put t (Nib.of key) value) := Lib.hid (by simp [Trie.actW, hkd, hg])
          rw [hg] at HPut
          clear hg hlen hkd HDel
          generalize Trie.put t (Nib.of key) value = t2 at *
          have HCells := Lib.hid hcell
          obtain ⟨r0, r1, r2⟩ := HCells.out _ HI.out.2.2.2.1
          clear hcell
          go_upto_region 5 with (fail)
          go_region_held3 (fun w' => w'.cell? ⟨ad, off + i * 3 + 1, none⟩ = some (.string ⟨key.toArray⟩) ∧ w'.cell? ⟨ad, off + i * 3 + 2, none⟩ = some (.string ⟨value.toArray⟩)) (first | go_keep | (constructor <;> assumption)) (first | (go_at_call 50; refine (HPut.out _ (by first | exact Below.refl _ _ | exact (Below.refl _ _).drew)).mono ?_; rintro e w3 ⟨v3, rfl, hb, hk3, hn3⟩; have hb3 : Below wr1.heap.size wr1 w3 := (by first | exact hb | exact hb.start); clear hb; obtain ⟨d0, d1, d2⟩ := HCells.out _ (HI.out.2.2.2.1.nxt hb3)))
          go_wp2_with fail
          refine Handed.intro (30 - (i + 1)) ?_ (hJ1 _ _ _ (fun Φ hΦ => hΦ _ _ _ _ _ _ _ _ _ _ _ _ _ _ _ _ _ _ _ _ _ _ _ _ _ _ _ _ _ _ _ _ _ _ _ _ _ _ _ _ _ _ _ _ _ _ _ _ _ _ (i + 1) (t2) (v3) ?_))
          · have := HI.out.1; omega
          exact ⟨by have := HI.out.1; omega, HI.out.2.2.2.2.2, HI.out.2.2.2.2.1.trans HQ.out, HQ.out ▸ HCn.out, hk3 trivial, HI.out.2.2.2.1.nxt (hb3)⟩
        · have HQ : Hid (Trie.actW t ⟨kind, key, value⟩ = t) := Lib.hid (by simp [Trie.actW, hkd, hg])
          have hg1 : ((Trie.putCode key value : Int) == 0) = false := by simp; exact hg
          clear hg hlen hkd HDel
          generalize Trie.put t (Nib.of key) value = t2 at *
          generalize Trie.putCode key value = pc at *
          have HCells := Lib.hid hcell
          obtain ⟨r0, r1, r2⟩ := HCells.out _ HI.out.2.2.2.1
          clear hcell
          go_upto_region 5 with (fail)
          go_region_held3 (fun w' => w'.cell? ⟨ad, off + i * 3 + 1, none⟩ = some (.string ⟨key.toArray⟩) ∧ w'.cell? ⟨ad, off + i * 3 + 2, none⟩ = some (.string ⟨value.toArray⟩)) (first | go_keep | (constructor <;> assumption)) (first | (go_at_call 50; refine (HPut.out _ (by first | exact Below.refl _ _ | exact (Below.refl _ _).drew)).mono ?_; rintro e w3 ⟨v3, rfl, hb, hk3, hn3⟩; have hb3 : Below wr1.heap.size wr1 w3 := (by first | exact hb | exact hb.start); clear hb; obtain ⟨d0, d1, d2⟩ := HCells.out _ (HI.out.2.2.2.1.nxt hb3)))
          go_wp2_with fail
          refine Handed.intro (30 - (i + 1)) ?_ (hJ1 _ _ _ (fun Φ hΦ => hΦ _ _ _ _ _ _ _ _ _ _ _ _ _ _ _ _ _ _ _ _ _ _ _ _ _ _ _ _ _ _ _ _ _ _ _ _ _ _ _ _ _ _ _ _ _ _ _ _ _ _ (i + 1) (t) (v) ?_))
          · have := HI.out.1; omega
          exact ⟨by have := HI.out.1; omega, HI.out.2.2.2.2.2, HI.out.2.2.2.2.1.trans HQ.out, HQ.out ▸ HCn.out, HI.out.2.2.1.next hb3, HI.out.2.2.2.1.nxt (hb3)⟩
    · have HQ : Hid (Trie.madeW L = t) := Lib.hid (by
        rw [← h2, Trie.madeW]
        by_cases h30 : i < 30
        · rw [List.take_of_length_le (by omega), List.take_of_length_le (by omega)]
        · rw [show i = 30 by omega])
      have HI := Lib.hid (And.intro hk hb)
      by_cases hl : i < L.length
      · have hi0 : (i : Int) < L.length := by omega
        have hi2 : ((i : Int) < 30) = False := by simp; omega
        clear h1 h0 h2 h3 hk hb hi
        go_wp2_with fail
        exact HP.out _ _ _ HQ.out HI.out.1 HI.out.2
      · have hi0 : ((i : Int) < L.length) = False := by simp; omega
        clear h1 h0 h2 h3 hk hb hi
        go_wp2_with fail
        exact HP.out _ _ _ HQ.out HI.out.1 HI.out.2
end Go.Proofs.YtefcmigbdfeaiaaDoor
