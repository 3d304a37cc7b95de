import Derived.Test.YtefcmigbdfeaiaaDoorK27
import Derived.IntWalk
import Derived.Test.YtefcmigbdfeaiaaDoorK24
import Derived.Test.YtefcmigbdfeaiaaDoorK07
import Derived.Test.YtefcmigbdfeaiaaDoorK11
import Derived.Test.YtefcmigbdfeaiaaDoorK01
set_option linter.unusedSimpArgs false
set_option linter.unusedVariables false
namespace Go.Proofs.YtefcmigbdfeaiaaDoor
set_option linter.unusedVariables false
open Go.RowKit Go.Instr
theorem rsha_turned (x : UInt32) (n : Nat) (h0 : 0 < n) (h1 : n < 32) (w : World) :
    Calls Tryd.prog 137 #[.int .u32 (x.toNat : Int), .int .i64 (n : Int)] w fun e w' => e = .returned (.int .u32 ((rotW x n).toNat : Int)) ∧ w' = w := by
  have h := w_rot x n h0 h1
  go_enter Tryd.func137, Tryd.ntmps137
  go_wp2
  go_ret
  exact ⟨rfl, rfl⟩
theorem rsha_turned2 (x : UInt32) (w : World) : Calls Tryd.prog 137 #[.int .u32 (x.toNat : Int), .int .i64 2] w fun e w' => e = .returned (.int .u32 ((rotW x 2).toNat : Int)) ∧ w' = w := rsha_turned x 2 (by omega) (by omega) w
theorem rsha_turned6 (x : UInt32) (w : World) : Calls Tryd.prog 137 #[.int .u32 (x.toNat : Int), .int .i64 6] w fun e w' => e = .returned (.int .u32 ((rotW x 6).toNat : Int)) ∧ w' = w := rsha_turned x 6 (by omega) (by omega) w
theorem rsha_turned7 (x : UInt32) (w : World) : Calls Tryd.prog 137 #[.int .u32 (x.toNat : Int), .int .i64 7] w fun e w' => e = .returned (.int .u32 ((rotW x 7).toNat : Int)) ∧ w' = w := rsha_turned x 7 (by omega) (by omega) w
theorem rsha_turned11 (x : UInt32) (w : World) : Calls Tryd.prog 137 #[.int .u32 (x.toNat : Int), .int .i64 11] w fun e w' => e = .returned (.int .u32 ((rotW x 11).toNat : Int)) ∧ w' = w := rsha_turned x 11 (by omega) (by omega) w
theorem rsha_turned13 (x : UInt32) (w : World) : Calls Tryd.prog 137 #[.int .u32 (x.toNat : Int), .int .i64 13] w fun e w' => e = .returned (.int .u32 ((rotW x 13).toNat : Int)) ∧ w' = w := rsha_turned x 13 (by omega) (by omega) w
theorem rsha_turned17 (x : UInt32) (w : World) : Calls Tryd.prog 137 #[.int .u32 (x.toNat : Int), .int .i64 17] w fun e w' => e = .returned (.int .u32 ((rotW x 17).toNat : Int)) ∧ w' = w := rsha_turned x 17 (by omega) (by omega) w
theorem rsha_turned18 (x : UInt32) (w : World) : Calls Tryd.prog 137 #[.int .u32 (x.toNat : Int), .int .i64 18] w fun e w' => e = .returned (.int .u32 ((rotW x 18).toNat : Int)) ∧ w' = w := rsha_turned x 18 (by omega) (by omega) w
theorem rsha_turned19 (x : UInt32) (w : World) : Calls Tryd.prog 137 #[.int .u32 (x.toNat : Int), .int .i64 19] w fun e w' => e = .returned (.int .u32 ((rotW x 19).toNat : Int)) ∧ w' = w := rsha_turned x 19 (by omega) (by omega) w
theorem rsha_turned22 (x : UInt32) (w : World) : Calls Tryd.prog 137 #[.int .u32 (x.toNat : Int), .int .i64 22] w fun e w' => e = .returned (.int .u32 ((rotW x 22).toNat : Int)) ∧ w' = w := rsha_turned x 22 (by omega) (by omega) w
theorem rsha_turned25 (x : UInt32) (w : World) : Calls Tryd.prog 137 #[.int .u32 (x.toNat : Int), .int .i64 25] w fun e w' => e = .returned (.int .u32 ((rotW x 25).toNat : Int)) ∧ w' = w := rsha_turned x 25 (by omega) (by omega) w
theorem at_loadR {P : Program} {ops : Array Oper} {Q : Exit → Act → World → Prop} {rest : List Oper} {a : Act} {w : World} (n : Tmp) {ty : TypeId} {x : Operand} {t : TypeId} {p : String} {af : Array Edge} {g : Option (Nat × Bool)}
    (h : wpList P ops Q (⟨some n, .load ty x, t, p, af, g⟩ :: rest) a w) : wpList P ops Q (⟨some n, .load ty x, t, p, af, g⟩ :: rest) a w := h
theorem at_storeR {P : Program} {ops : Array Oper} {Q : Exit → Act → World → Prop} {rest : List Oper} {a : Act} {w : World} (n : Tmp) {ty : TypeId} {x : Operand} {t : TypeId} {p : String} {af : Array Edge} {g : Option (Nat × Bool)}
    (h : wpList P ops Q (⟨none, .store ty x (.tmp n), t, p, af, g⟩ :: rest) a w) : wpList P ops Q (⟨none, .store ty x (.tmp n), t, p, af, g⟩ :: rest) a w := h
set_option maxRecDepth 100000 in
set_option maxHeartbeats 1000000 in
theorem rsha_constant (i : Nat) (hi : i < 64) (w : World) :
    Calls Tryd.prog 138 #[.int .i64 (i : Int)] w fun e w' => e = .returned (.int .u32 ((kW.getD i 0).toNat : Int)) ∧ Below w.heap.size w w' := by
  have HW : Hid (∀ W : World, (W.alloc (.cells (wvs kW).toArray 190)).cell? ⟨W.heap.size, i, none⟩ = some (.int .u32 ((kW.getD i 0).toNat : Int))) := Lib.hid (fun W => ((Blk.new W 190 (wvs kW).toArray).cell i).trans (wvs_at hi))
  have I64 : Hid ((Tryd.prog.info? 190).map (·.size) = some (wvs kW).toArray.size) := Lib.hid info_w64
  have A64 := Lib.hid (wvs_all kW)
  have hi1 : (i : Int) < 64 := by omega
  have hi0 : (0 : Int) ≤ i := by omega
  clear hi
  go_enter Tryd.func138, Tryd.ntmps138
  go_upto_region 2 with (with_reducible refine at_storeR 4 ?_; refine wpList_store_row rfl 190 _ _ rfl w.heap.size (wvs kW).toArray rfl rfl _ _ (heap_alloc_new w _) I64.out rfl A64.out ?_)
  rw [World.setRow_alloc_new]
  have q := HW.out w
  have hb : Below w.heap.size w (w.alloc (.cells (wvs kW).toArray 190)) := by go_grown
  generalize w.alloc (.cells (wvs kW).toArray 190) = W at *
  generalize hk : kW.getD i 0 = kk at q
  have HK := Lib.hid hk
  clear hk HW
  go_wp2
  go_ret
  exact ⟨ret_int (by rw [HK.out]), hb⟩
set_option maxHeartbeats 1000000 in
theorem rsha_First (w : World) :
    Calls Tryd.prog 114 #[] w fun e w' => e = .returned (.agg (wvs firstH).toArray) ∧ Below w.heap.size w w' := by
  rw [firstH_wvs]
  go_enter Tryd.func114, Tryd.ntmps114
  go_wp2
  exact bodyPost_ret (v := .agg #[.int .u32 1779033703, .int .u32 3144134277, .int .u32 1013904242, .int .u32 2773480762, .int .u32 1359893119, .int .u32 2600822924, .int .u32 528734635, .int .u32 1541459225]) (results_cell_row (by rfl) _ _ w.heap.size 152 _ (0, 0) _ rfl (heap_alloc_new w _) Tryd.underlying152 rfl (by exact info_w8)) rfl ⟨rfl, by go_grown⟩
end Go.Proofs.YtefcmigbdfeaiaaDoor

namespace Go.Proofs.YtefcmigbdfeaiaaDoor
set_option linter.unusedVariables false
open Go.RowKit Go.Instr
attribute [local go_sem] w_u8 w_add
theorem w_mul256 (x : UInt32) : IntKind.u32.wrap ((x.toNat : Int) * 256) = ((mul256 x).toNat : Int) := by
  rw [IntKind.wrap_u32', mul256, UInt32.toNat_mul]
  simp
attribute [local go_sem] w_mul256
set_option maxRecDepth 100000 in
set_option maxHeartbeats 1000000 in
theorem rblock_one (b : List UInt8) (hb : b.length = 64) (w0 : World) (gb gw : Nat) (hB : Blk w0 gb 154 (bvals b).toArray) (hW : Blk w0 gw 176 (wvs (fillW b 0)).toArray)
    (Q : Exit → Act → World → Prop) (p2 p4 : Value)
    (hQ : ∀ (s0 s1 s6 s7 s8 s9 s10 s11 s12 s13 s14 s15 s16 s17 s18 s19 s20 s21 s22 s23 s24 s25 s26 s27 s28 s29 s30 s31 s32 s33 s34 s35 s36 s37 s38 s39 s40 s41 s42 s43 s44 s45 s46 s47 s48 s49 s50 s51 s52 s53 s54 s55 s56 s57 s58 s59 s60 s61 s62 s63 s64 s65 s66 s67 s68 s69 s70 s71 s72 s73 s74 s75 s76 s77 s78 s79 s80 s81 s82 s83 s84 s85 s86 s87 s88 s89 s90 s91 s92 s93 s94 s95 s96 s97 s98 s99 s100 s101 s102 s103 s104 s105 s106 s107 s108 s109 s110 s111 s112 s113 s114 s115 s116 s117 s118 s119 s120 s121 s122 s123 s124 s125 s126 s127 s128 s129 s130 s131 s132 s133 s134 s135 s136 s137 s138 s139 s140 s141 s142 s143 s144 s145 s146 s147 s148 s149 s150 s151 s152 s153 s154 s155 s156 s157 s158 s159 s160 s161 s162 s163 s164 s165 s166 s167 s168 s169 s170 s171 s172 s173 s174 s175 s176 s177 s178 s179 s180 s181 s182 s183 s184 s185 s186 s187 s188 s189 s190 s191 s192 s193 s194 s195 : Value) (w2 : World), Blk w2 gw 176 (wvs (fillW b 64)).toArray → w0.grownBy w2 (some gw) → w2.heap.size = w0.heap.size → Q (.exit 0) { tmps := #[s0, s1, p2, .pointer (some ⟨gb, 0, none⟩), p4, .pointer (some ⟨gw, 0, none⟩), s6, s7, s8, s9, s10, s11, s12, s13, s14, s15, s16, s17, s18, s19, s20, s21, s22, s23, s24, s25, s26, s27, s28, s29, s30, s31, s32, s33, s34, s35, s36, s37, s38, s39, s40, s41, s42, s43, s44, s45, s46, s47, s48, s49, s50, s51, s52, s53, s54, s55, s56, s57, s58, s59, s60, s61, s62, s63, s64, s65, s66, s67, s68, s69, s70, s71, s72, s73, s74, s75, s76, s77, s78, s79, s80, s81, s82, s83, s84, s85, s86, s87, s88, s89, s90, s91, s92, s93, s94, s95, s96, s97, s98, s99, s100, s101, s102, s103, s104, s105, s106, s107, s108, s109, s110, s111, s112, s113, s114, s115, s116, s117, s118, s119, s120, s121, s122, s123, s124, s125, s126, s127, s128, s129, s130, s131, s132, s133, s134, s135, s136, s137, s138, s139, s140, s141, s142, s143, s144, s145, s146, s147, s148, s149, s150, s151, s152, s153, s154, s155, s156, s157, s158, s159, s160, s161, s162, s163, s164, s165, s166, s167, s168, s169, s170, s171, s172, s173, s174, s175, s176, s177, s178, s179, s180, s181, s182, s183, s184, s185, s186, s187, s188, s189, s190, s191, s192, s193, s194, s195], defers := [] } w2)
    (s0 s1 s7 s8 s9 s10 s11 s12 s13 s14 s15 s16 s17 s18 s19 s20 s21 s22 s23 s24 s25 s26 s27 s28 s29 s30 s31 s32 s33 s34 s35 s36 s37 s38 s39 s40 s41 s42 s43 s44 s45 s46 s47 s48 s49 s50 s51 s52 s53 s54 s55 s56 s57 s58 s59 s60 s61 s62 s63 s64 s65 s66 s67 s68 s69 s70 s71 s72 s73 s74 s75 s76 s77 s78 s79 s80 s81 s82 s83 s84 s85 s86 s87 s88 s89 s90 s91 s92 s93 s94 s95 s96 s97 s98 s99 s100 s101 s102 s103 s104 s105 s106 s107 s108 s109 s110 s111 s112 s113 s114 s115 s116 s117 s118 s119 s120 s121 s122 s123 s124 s125 s126 s127 s128 s129 s130 s131 s132 s133 s134 s135 s136 s137 s138 s139 s140 s141 s142 s143 s144 s145 s146 s147 s148 s149 s150 s151 s152 s153 s154 s155 s156 s157 s158 s159 s160 s161 s162 s163 s164 s165 s166 s167 s168 s169 s170 s171 s172 s173 s174 s175 s176 s177 s178 s179 s180 s181 s182 s183 s184 s185 s186 s187 s188 s189 s190 s191 s192 s193 s194 s195 : Value) :
    Code.wp Tryd.prog (.loop (loopAt Tryd.f115 0)) Q { tmps := #[s0, s1, p2, .pointer (some ⟨gb, 0, none⟩), p4, .pointer (some ⟨gw, 0, none⟩), .int .i64 0, s7, s8, s9, s10, s11, s12, s13, s14, s15, s16, s17, s18, s19, s20, s21, s22, s23, s24, s25, s26, s27, s28, s29, s30, s31, s32, s33, s34, s35, s36, s37, s38, s39, s40, s41, s42, s43, s44, s45, s46, s47, s48, s49, s50, s51, s52, s53, s54, s55, s56, s57, s58, s59, s60, s61, s62, s63, s64, s65, s66, s67, s68, s69, s70, s71, s72, s73, s74, s75, s76, s77, s78, s79, s80, s81, s82, s83, s84, s85, s86, s87, s88, s89, s90, s91, s92, s93, s94, s95, s96, s97, s98, s99, s100, s101, s102, s103, s104, s105, s106, s107, s108, s109, s110, s111, s112, s113, s114, s115, s116, s117, s118, s119, s120, s121, s122, s123, s124, s125, s126, s127, s128, s129, s130, s131, s132, s133, s134, s135, s136, s137, s138, s139, s140, s141, s142, s143, s144, s145, s146, s147, s148, s149, s150, s151, s152, s153, s154, s155, s156, s157, s158, s159, s160, s161, s162, s163, s164, s165, s166, s167, s168, s169, s170, s171, s172, s173, s174, s175, s176, s177, s178, s179, s180, s181, s182, s183, s184, s185, s186, s187, s188, s189, s190, s191, s192, s193, s194, s195], defers := [] } w0 := by
  have HQ := Lib.hid hQ
  clear hQ
  refine wp_loop_ghost_k (fun k a wr => ∀ Φ : Act → Prop, (∀ (s0 s1 s7 s8 s9 s10 s11 s12 s13 s14 s15 s16 s17 s18 s19 s20 s21 s22 s23 s24 s25 s26 s27 s28 s29 s30 s31 s32 s33 s34 s35 s36 s37 s38 s39 s40 s41 s42 s43 s44 s45 s46 s47 s48 s49 s50 s51 s52 s53 s54 s55 s56 s57 s58 s59 s60 s61 s62 s63 s64 s65 s66 s67 s68 s69 s70 s71 s72 s73 s74 s75 s76 s77 s78 s79 s80 s81 s82 s83 s84 s85 s86 s87 s88 s89 s90 s91 s92 s93 s94 s95 s96 s97 s98 s99 s100 s101 s102 s103 s104 s105 s106 s107 s108 s109 s110 s111 s112 s113 s114 s115 s116 s117 s118 s119 s120 s121 s122 s123 s124 s125 s126 s127 s128 s129 s130 s131 s132 s133 s134 s135 s136 s137 s138 s139 s140 s141 s142 s143 s144 s145 s146 s147 s148 s149 s150 s151 s152 s153 s154 s155 s156 s157 s158 s159 s160 s161 s162 s163 s164 s165 s166 s167 s168 s169 s170 s171 s172 s173 s174 s175 s176 s177 s178 s179 s180 s181 s182 s183 s184 s185 s186 s187 s188 s189 s190 s191 s192 s193 s194 s195 : Value) (i : Nat), (i + k = 64 ∧ Blk wr gw 176 (wvs (fillW b i)).toArray ∧ w0.grownBy wr (some gw) ∧ wr.heap.size = w0.heap.size) → Φ { tmps := #[s0, s1, p2, .pointer (some ⟨gb, 0, none⟩), p4, .pointer (some ⟨gw, 0, none⟩), .int .i64 i, s7, s8, s9, s10, s11, s12, s13, s14, s15, s16, s17, s18, s19, s20, s21, s22, s23, s24, s25, s26, s27, s28, s29, s30, s31, s32, s33, s34, s35, s36, s37, s38, s39, s40, s41, s42, s43, s44, s45, s46, s47, s48, s49, s50, s51, s52, s53, s54, s55, s56, s57, s58, s59, s60, s61, s62, s63, s64, s65, s66, s67, s68, s69, s70, s71, s72, s73, s74, s75, s76, s77, s78, s79, s80, s81, s82, s83, s84, s85, s86, s87, s88, s89, s90, s91, s92, s93, s94, s95, s96, s97, s98, s99, s100, s101, s102, s103, s104, s105, s106, s107, s108, s109, s110, s111, s112, s113, s114, s115, s116, s117, s118, s119, s120, s121, s122, s123, s124, s125, s126, s127, s128, s129, s130, s131, s132, s133, s134, s135, s136, s137, s138, s139, s140, s141, s142, s143, s144, s145, s146, s147, s148, s149, s150, s151, s152, s153, s154, s155, s156, s157, s158, s159, s160, s161, s162, s163, s164, s165, s166, s167, s168, s169, s170, s171, s172, s173, s174, s175, s176, s177, s178, s179, s180, s181, s182, s183, s184, s185, s186, s187, s188, s189, s190, s191, s192, s193, s194, s195], defers := [] }) → Φ a) (64) ?_ ?_
  · refine fun Φ hΦ => hΦ _ _ _ _ _ _ _ _ _ _ _ _ _ _ _ _ _ _ _ _ _ _ _ _ _ _ _ _ _ _ _ _ _ _ _ _ _ _ _ _ _ _ _ _ _ _ _ _ _ _ _ _ _ _ _ _ _ _ _ _ _ _ _ _ _ _ _ _ _ _ _ _ _ _ _ _ _ _ _ _ _ _ _ _ _ _ _ _ _ _ _ _ _ _ _ _ _ _ _ _ _ _ _ _ _ _ _ _ _ _ _ _ _ _ _ _ _ _ _ _ _ _ _ _ _ _ _ _ _ _ _ _ _ _ _ _ _ _ _ _ _ _ _ _ _ _ _ _ _ _ _ _ _ _ _ _ _ _ _ _ _ _ _ _ _ _ _ _ _ _ _ _ _ _ _ _ _ _ _ _ _ _ _ _ _ _ _ _ _ _ _ (0) ?_
    exact ⟨by omega, hW, World.grownBy.refl _ _, rfl⟩
  · intro k1 a1 wr1 hI1 J1 K1 hJ1 hK1
    refine hI1 (fun a => Code.wp _ _ _ a _) ?_
    clear hI1 a1
    intro s0 s1 s2 s3 s4 s5 s6 s7 s8 s9 s10 s11 s12 s13 s14 s15 s16 s17 s18 s19 s20 s21 s22 s23 s24 s25 s26 s27 s28 s29 s30 s31 s32 s33 s34 s35 s36 s37 s38 s39 s40 s41 s42 s43 s44 s45 s46 s47 s48 s49 s50 s51 s52 s53 s54 s55 s56 s57 s58 s59 s60 s61 s62 s63 s64 s65 s66 s67 s68 s69 s70 s71 s72 s73 s74 s75 s76 s77 s78 s79 s80 s81 s82 s83 s84 s85 s86 s87 s88 s89 s90 s91 s92 s93 s94 s95 s96 s97 s98 s99 s100 s101 s102 s103 s104 s105 s106 s107 s108 s109 s110 s111 s112 s113 s114 s115 s116 s117 s118 s119 s120 s121 s122 s123 s124 s125 s126 s127 s128 s129 s130 s131 s132 s133 s134 s135 s136 s137 s138 s139 s140 s141 s142 s143 s144 s145 s146 s147 s148 s149 s150 s151 s152 s153 s154 s155 s156 s157 s158 s159 s160 s161 s162 s163 s164 s165 s166 s167 s168 s169 s170 s171 s172 s173 s174 s175 s176 s177 s178 s179 s180 s181 s182 s183 s184 s185 s186 s187 s188 s189 s190 i hrel
    show Code.wp _ _ _ _ _
    conv => arg 2; whnf
    obtain ⟨h1, hw, hg, hs⟩ := hrel
    by_cases hi : i < 64
    · have hne : gb ≠ gw := hB.ne_ hW (by decide)
      have hbb := hB.grown hg (by intro e; injection e with e; exact hne e)
      have q0 : wr1.cell? ⟨gb, i, none⟩ = some (.int .u8 ((b.getD i 0).toNat : Int)) := (hbb.cell _).trans (bvals_at (by omega))
      have c0 : wr1.cell? ⟨gw, i / 4, none⟩ = some (.int .u32 (((fillW b i).getD (i / 4) 0).toNat : Int)) := (hw.cell _).trans (wvs_at (by rw [fillW_length]; omega))
      have f0 : wr1.frozen? ⟨gw, i / 4, none⟩ = false := hw.frozen _
      have hi1 : (i : Int) < 64 := by omega
      have hi0 : (0 : Int) ≤ i := by omega
      have E : Hid (fillW b (i + 1) = (fillW b i).set (i / 4) (addW (mul256 ((fillW b i).getD (i / 4) 0)) (ofB (b.getD i 0)))) := Lib.hid rfl
      have H := Lib.hid (And.intro h1 (And.intro hw (And.intro hg hs)))
      generalize b.getD i 0 = x0 at *
      generalize (fillW b i).getD (i / 4) 0 = x4 at *
      clear h1 hw hg hs hbb
      have t0 : ((i : Int) / 4).toNat = i / 4 := by omega
      have l0 : (i : Int) / 4 < 16 := by omega
      have z0 : 0 ≤ (i : Int) / 4 := by omega
      have v0 : IntKind.i64.wrap ((i : Int) / 4) = (i : Int) / 4 := IntWalk.i64_in _ (by omega)
      go_wp2
      go_still_tail 13, (by kernel_rfl)
      go_wp2
      refine Handed.intro (64 - (i + 1)) ?_ (hJ1 _ _ _ (fun Φ hΦ => hΦ _ _ _ _ _ _ _ _ _ _ _ _ _ _ _ _ _ _ _ _ _ _ _ _ _ _ _ _ _ _ _ _ _ _ _ _ _ _ _ _ _ _ _ _ _ _ _ _ _ _ _ _ _ _ _ _ _ _ _ _ _ _ _ _ _ _ _ _ _ _ _ _ _ _ _ _ _ _ _ _ _ _ _ _ _ _ _ _ _ _ _ _ _ _ _ _ _ _ _ _ _ _ _ _ _ _ _ _ _ _ _ _ _ _ _ _ _ _ _ _ _ _ _ _ _ _ _ _ _ _ _ _ _ _ _ _ _ _ _ _ _ _ _ _ _ _ _ _ _ _ _ _ _ _ _ _ _ _ _ _ _ _ _ _ _ _ _ _ _ _ _ _ _ _ _ _ _ _ _ _ _ _ _ _ _ _ _ _ _ _ _ (i + 1) ?_))
      · have := H.out.1
        show 64 - (i + 1) < k1
        omega
      · obtain ⟨h1, hw, hg, hs⟩ := H.out
        have e := E.out
        have hw2 := hw.set_ (i / 4) (.int .u32 ((addW (mul256 x4) (ofB x0)).toNat : Int))
        rw [wvs_set, ← e] at hw2
        refine ⟨by omega, hw2.drew, grown_set hg _ _, ?_⟩
        simp [hs]
    · have e : i = 64 := by omega
      subst e
      have H := Lib.hid (And.intro hw (And.intro hg hs))
      clear hw hg hs h1
      go_wp2
      exact HQ.out _ _ _ _ _ _ _ _ _ _ _ _ _ _ _ _ _ _ _ _ _ _ _ _ _ _ _ _ _ _ _ _ _ _ _ _ _ _ _ _ _ _ _ _ _ _ _ _ _ _ _ _ _ _ _ _ _ _ _ _ _ _ _ _ _ _ _ _ _ _ _ _ _ _ _ _ _ _ _ _ _ _ _ _ _ _ _ _ _ _ _ _ _ _ _ _ _ _ _ _ _ _ _ _ _ _ _ _ _ _ _ _ _ _ _ _ _ _ _ _ _ _ _ _ _ _ _ _ _ _ _ _ _ _ _ _ _ _ _ _ _ _ _ _ _ _ _ _ _ _ _ _ _ _ _ _ _ _ _ _ _ _ _ _ _ _ _ _ _ _ _ _ _ _ _ _ _ _ _ _ _ _ _ _ _ _ _ _ _ _ _ _ _ H.out.1 H.out.2.1 H.out.2.2
end Go.Proofs.YtefcmigbdfeaiaaDoor

namespace Go.Proofs.YtefcmigbdfeaiaaDoor
set_option linter.unusedVariables false
open Go.RowKit
attribute [local go_sem] ba_get ByteArray.mk_append_mk ByteArray.extract_mk
theorem refnib_Unpack_nil (w : World) :
    Calls Tryd.prog 123 #[.string ⟨#[]⟩] w fun e w' => e = .returned (.tuple #[.string ⟨#[]⟩, .bool false, .int .i64 3]) ∧ Below w.heap.size w w' := by
  go_enter Tryd.func123, Tryd.ntmps123
  go_wp2
  go_ret3
  exact ⟨rfl, Below.refl _ _⟩
set_option maxHeartbeats 400000 in
theorem refnib_Unpack_cons (b : UInt8) (r : List UInt8) (w : World) (hs : r.length ≤ 1999) :
    Calls Tryd.prog 123 #[.string ⟨(b :: r).toArray⟩] w fun e w' => e = .returned (.tuple #[.string ⟨(Nib.unpack (b :: r)).1.toArray⟩, .bool (Nib.unpack (b :: r)).2.1, .int .i64 (Nib.unpack (b :: r)).2.2]) ∧ Below w.heap.size w w' := by
  have hlt := b.toNat_lt
  rw [Nib.unpack_cons]
  have ho : Nib.of (b :: r) = b / 16 :: b % 16 :: Nib.of r := by simp [Nib.of]
  obtain ⟨x, hx⟩ : ∃ x, x = b / 16 := ⟨_, rfl⟩
  obtain ⟨y, hy⟩ : ∃ y, y = b % 16 := ⟨_, rfl⟩
  have hxn : x.toNat = b.toNat / 16 := by rw [hx]; simp
  have hyn : y.toNat = b.toNat % 16 := by rw [hy]; simp
  rw [← hx, ← hy] at ho
  have HO := Lib.hid ho
  have HL := Nib.of_length r
  have HL2 : (Nib.of r).length ≤ 4000 := by omega
  rw [← hxn, ← hyn, ← hy]
  clear hx hy ho HL
  have hx16 : x.toNat < 16 := by omega
  clear hxn hyn hlt
  by_cases h1 : 3 < x.toNat
  · have hk : 3 < (x.toNat : Int) := by omega
    rw [if_pos (.inl h1)]
    clear h1
    go_enter Tryd.func123, Tryd.ntmps123
    go_wp2_with fail
    refine (refnib_Of (b :: r) _ (by simp; omega)).mono ?_
    rintro e w1 ⟨rfl, hb⟩
    rw [HO.out]
    go_wp2
    go_ret3
    exact ⟨rfl, hb⟩
  · have hk : ¬ 3 < (x.toNat : Int) := by omega
    have hge : decide (2 ≤ (x.toNat : Int)) = decide (2 ≤ x.toNat) := by rw [decide_eq_decide]; omega
    have HG := Lib.hid hge
    clear hge
    by_cases h2 : x.toNat % 2 = 1
    · rw [if_neg (by omega), if_pos h2]
      have ho1 : ((x.toNat : Int) % 2 == 0) = false := by rw [beq_eq_false_iff_ne]; omega
      have ho2 : ((x.toNat : Int) % 2 == 1) = true := by rw [beq_iff_eq]; omega
      clear h1 h2
      go_enter Tryd.func123, Tryd.ntmps123
      go_wp2_with fail
      refine (refnib_Of (b :: r) _ (by simp; omega)).mono ?_
      rintro e w1 ⟨rfl, hb⟩
      rw [HO.out]
      go_wp2
      go_ret3
      rw [← HG.out]
      exact ⟨rfl, hb⟩
    · have ho1 : ((x.toNat : Int) % 2 == 0) = true := by rw [beq_iff_eq]; omega
      have ho2 : ((x.toNat : Int) % 2 == 1) = false := by rw [beq_eq_false_iff_ne]; omega
      by_cases h3 : y.toNat = 0
      · rw [if_neg (by omega), if_neg h2]
        have hz : ((y.toNat : Int) != 0) = false := by simp; omega
        clear h1 h2 h3
        go_enter Tryd.func123, Tryd.ntmps123
        go_wp2_with fail
        refine (refnib_Of (b :: r) _ (by simp; omega)).mono ?_
        rintro e w1 ⟨rfl, hb⟩
        rw [HO.out]
        go_wp2
        go_ret3
        rw [← HG.out]
        exact ⟨rfl, hb⟩
      · rw [if_pos (.inr ⟨by omega, h3⟩)]
        have hz : ((y.toNat : Int) != 0) = true := by rw [bne_iff_ne]; omega
        clear h1 h2 h3
        go_enter Tryd.func123, Tryd.ntmps123
        go_wp2_with fail
        refine (refnib_Of (b :: r) _ (by simp; omega)).mono ?_
        rintro e w1 ⟨rfl, hb⟩
        rw [HO.out]
        go_wp2
        go_ret3
        exact ⟨rfl, hb⟩
theorem refnib_Unpack (s : List UInt8) (w : World) (hs : s.length ≤ 2000) :
    Calls Tryd.prog 123 #[.string ⟨s.toArray⟩] w fun e w' => e = .returned (.tuple #[.string ⟨(Nib.unpack s).1.toArray⟩, .bool (Nib.unpack s).2.1, .int .i64 (Nib.unpack s).2.2]) ∧ Below w.heap.size w w' := by
  cases s with
  | nil => exact refnib_Unpack_nil w
  | cons b r => exact refnib_Unpack_cons b r w (by simp at hs; omega)
end Go.Proofs.YtefcmigbdfeaiaaDoor

namespace Go.Proofs.YtefcmigbdfeaiaaDoor
set_option linter.unusedVariables false
open Go.RowKit Go.Instr
attribute [local go_sem] ba_get ByteArray.mk_append_mk
set_option maxRecDepth 100000 in
set_option maxHeartbeats 1000000 in
theorem take_loop (h : UInt8) (r : List UInt8) (K : Nat) (hk : K ≤ r.length) (hk8 : K ≤ 8) (hv : valBE (r.take K) < 9223372036854775808) (w0 : World)
    (Q : Exit → Act → World → Prop)
    (hQ : ∀ (s1 s2 s3 s4 s7 s8 s9 s10 s11 s12 s13 s14 s15 s16 s17 s18 s19 s20 s21 s22 s23 s24 s25 s26 s27 s28 s29 s30 s31 s32 s33 s34 s35 s36 s37 s38 s39 s40 s41 s42 s43 s44 s45 s46 s47 s48 s49 s50 s51 s52 : Value), Q (.exit 0) { tmps := #[.string ⟨(h :: r).toArray⟩, s1, s2, s3, s4, .int .i64 (K : Int), .int .i64 (valBE (r.take K) : Int), s7, s8, s9, s10, s11, s12, s13, s14, s15, s16, s17, s18, s19, s20, s21, s22, s23, s24, s25, s26, s27, s28, s29, s30, s31, s32, s33, s34, s35, s36, s37, s38, s39, s40, s41, s42, s43, s44, s45, s46, s47, s48, s49, s50, s51, s52], defers := [] } w0)
    (s1 s2 s3 s4 s8 s9 s10 s11 s12 s13 s14 s15 s16 s17 s18 s19 s20 s21 s22 s23 s24 s25 s26 s27 s28 s29 s30 s31 s32 s33 s34 s35 s36 s37 s38 s39 s40 s41 s42 s43 s44 s45 s46 s47 s48 s49 s50 s51 s52 : Value) :
    Code.wp Tryd.prog (.loop (loopAt Tryd.f151 0)) Q { tmps := #[.string ⟨(h :: r).toArray⟩, s1, s2, s3, s4, .int .i64 (K : Int), .int .i64 0, .int .i64 1, s8, s9, s10, s11, s12, s13, s14, s15, s16, s17, s18, s19, s20, s21, s22, s23, s24, s25, s26, s27, s28, s29, s30, s31, s32, s33, s34, s35, s36, s37, s38, s39, s40, s41, s42, s43, s44, s45, s46, s47, s48, s49, s50, s51, s52], defers := [] } w0 := by
  have HQ := Lib.hid hQ
  clear hQ
  refine wp_loop_ghost_k (fun k a wr => ∀ Φ : Act → Prop, (∀ (s1 s2 s3 s4 s8 s9 s10 s11 s12 s13 s14 s15 s16 s17 s18 s19 s20 s21 s22 s23 s24 s25 s26 s27 s28 s29 s30 s31 s32 s33 s34 s35 s36 s37 s38 s39 s40 s41 s42 s43 s44 s45 s46 s47 s48 s49 s50 s51 s52 : Value) (i n : Nat), (i + k = K ∧ valBE (r.take i) = n ∧ wr = w0) → Φ { tmps := #[.string ⟨(h :: r).toArray⟩, s1, s2, s3, s4, .int .i64 (K : Int), .int .i64 (n : Int), .int .i64 ((i + 1 : Nat) : Int), s8, s9, s10, s11, s12, s13, s14, s15, s16, s17, s18, s19, s20, s21, s22, s23, s24, s25, s26, s27, s28, s29, s30, s31, s32, s33, s34, s35, s36, s37, s38, s39, s40, s41, s42, s43, s44, s45, s46, s47, s48, s49, s50, s51, s52], defers := [] }) → Φ a) (K) ?_ ?_
  · refine fun Φ hΦ => hΦ _ _ _ _ _ _ _ _ _ _ _ _ _ _ _ _ _ _ _ _ _ _ _ _ _ _ _ _ _ _ _ _ _ _ _ _ _ _ _ _ _ _ _ _ _ _ _ _ _ (0) (0) ?_
    exact ⟨by omega, by simp [valBE], rfl⟩
  · intro k1 a1 wr1 hI1 J1 K1 hJ1 hK1
    refine hI1 (fun a => Code.wp _ _ _ a _) ?_
    clear hI1 a1
    intro s0 s1 s2 s3 s4 s5 s6 s7 s8 s9 s10 s11 s12 s13 s14 s15 s16 s17 s18 s19 s20 s21 s22 s23 s24 s25 s26 s27 s28 s29 s30 s31 s32 s33 s34 s35 s36 s37 s38 s39 s40 s41 s42 s43 s44 s45 s46 s47 s48 i n hrel
    show Code.wp _ _ _ _ _
    conv => arg 2; whnf
    obtain ⟨h1, h2, rfl⟩ := hrel
    by_cases hi : i < K
    · have hir : i < r.length := by omega
      have h3 := valBE_take r i hir
      have h4 : valBE (r.take (i + 1)) ≤ valBE (r.take K) := by
        have := valBE_mono (r.take K) (i + 1)
        rwa [List.take_take, show min (i + 1) K = i + 1 by omega] at this
      have hx := (r.getD i 0).toNat_lt
      have HN : Hid (valBE (r.take (i + 1)) = n * 256 + (r.getD i 0).toNat) := Lib.hid (by rw [h3, h2])
      have hsum : n * 256 + (r.getD i 0).toNat < 9223372036854775808 := by rw [h2] at h3; omega
      have hix := fun W => run_byte (h :: r) (i + 1) (by simp; omega) W
      rw [show (h :: r).getD (i + 1) 0 = r.getD i 0 by simp [List.getD_eq_getElem?_getD]] at hix
      have HI := Lib.hid h1
      have hi1 : ((i + 1 : Nat) : Int) ≤ K := by omega
      have hmul : wrap64 ((n : Int) * 256) = (n : Int) * 256 := IntWalk.wrap64_in _ (by omega)
      have hadd : wrap64 ((n : Int) * 256 + ((r.getD i 0).toNat : Int)) = ((n * 256 + (r.getD i 0).toNat : Nat) : Int) := by rw [IntWalk.wrap64_in _ (by omega)]; omega
      have hinc : wrap64 (((i + 1 : Nat) : Int) + 1) = ((i + 1 + 1 : Nat) : Int) := by rw [IntWalk.wrap64_in _ (by omega)]; omega
      clear h1 h2 h3 h4 hir hsum
      generalize r.getD i 0 = x at *
      generalize hii : i + 1 = ii at *
      go_wp2_with fail
      have q1 : ((n : Int) * 256 + (x.toNat : Int)) = ((n * 256 + x.toNat : Nat) : Int) := by omega
      have q2 : ((ii : Int) + 1) = ((ii + 1 : Nat) : Int) := by omega
      rw [q1, q2]
      subst hii
      refine Handed.intro (K - (i + 1)) ?_ (hJ1 _ _ _ (fun Φ hΦ => hΦ _ _ _ _ _ _ _ _ _ _ _ _ _ _ _ _ _ _ _ _ _ _ _ _ _ _ _ _ _ _ _ _ _ _ _ _ _ _ _ _ _ _ _ _ _ _ _ _ _ (i + 1) (n * 256 + x.toNat) ?_))
      · have := HI.out
        show K - (i + 1) < k1
        omega
      · have := HI.out
        exact ⟨by omega, HN.out, rfl⟩
    · have e : i = K := by omega
      subst e
      subst h2
      have hi2 : (((i + 1 : Nat) : Int) ≤ (i : Int)) = False := by simp; omega
      generalize hii : i + 1 = ii at *
      clear h1 hi
      go_wp2_with fail
      exact HQ.out _ _ _ _ _ _ _ _ _ _ _ _ _ _ _ _ _ _ _ _ _ _ _ _ _ _ _ _ _ _ _ _ _ _ _ _ _ _ _ _ _ _ _ _ _ _ _ _ _ _
def TakeEnd (w : World) (r : Nat × List UInt8 × Nat) (e : Ending) (w' : World) : Prop := e = .returned (.tuple #[.int .i64 (r.1 : Int), .string ⟨r.2.1.toArray⟩, .int .i64 (r.2.2 : Int)]) ∧ Below w.heap.size w w'
set_option maxRecDepth 100000 in
set_option maxHeartbeats 1000000 in
theorem ref02_take (s : List UInt8) (hs : s.length ≤ 1000000) (w : World) :
    Calls Tryd.prog 151 #[.string ⟨s.toArray⟩] w (TakeEnd w (numT s)) := by
  have HP : Hid (∀ (n : Nat) (rest : List UInt8) (c : Nat) w', numT s = (n, rest, c) → Below w.heap.size w w' → TakeEnd w (numT s) (.returned (.tuple #[.int .i64 (n : Int), .string ⟨rest.toArray⟩, .int .i64 (c : Int)])) w') := Lib.hid (fun n rest c w' e h => by rw [e]; exact ⟨rfl, h⟩)
  generalize TakeEnd w (numT s) = P at HP ⊢
  cases s with
  | nil =>
    have HE : Hid (numT [] = (0, [], 20)) := Lib.hid rfl
    go_enter Tryd.func151, Tryd.ntmps151
    go_wp2
    exact HP.out 0 [] 20 _ HE.out (Below.refl _ _)
  | cons h r =>
    have hE := numT_cons h r
    have hrl : r.length + 1 ≤ 1000000 := by simpa using hs
    have hix := fun W => run_byte (h :: r) 0 (by simp) W
    simp only [List.getD_cons_zero] at hix
    have h256 := h.toNat_lt
    clear hs
    by_cases h8 : 8 < h.toNat
    · have HE : Hid (numT (h :: r) = (0, [], 3)) := Lib.hid (by rw [hE, if_pos h8])
      have h8I : (8 : Int) < (h.toNat : Int) := by omega
      clear hE h8
      go_enter Tryd.func151, Tryd.ntmps151
      go_wp2
      exact HP.out 0 [] 3 _ HE.out (Below.refl _ _)
    have h8I : ((8 : Int) < (h.toNat : Int)) = False := by simp; omega
    rw [if_neg h8] at hE
    have hadd : wrap64 ((h.toNat : Int) + 1) = (h.toNat : Int) + 1 := IntWalk.wrap64_in _ (by omega)
    by_cases hlt : r.length < h.toNat
    · have HE : Hid (numT (h :: r) = (0, [], 20)) := Lib.hid (by rw [hE, if_pos hlt])
      have hlI : ((r.length : Int) + 1 < (h.toNat : Int) + 1) := by omega
      have hlI2 : ((r.length : Int) < (h.toNat : Int)) := by omega
      clear hE h8 hlt
      go_enter Tryd.func151, Tryd.ntmps151
      go_wp2
      exact HP.out 0 [] 20 _ HE.out (Below.refl _ _)
    have hle : h.toNat ≤ r.length := by omega
    have hlI : ((r.length : Int) + 1 < (h.toNat : Int) + 1) = False := by simp; omega
    have hlI2 : ((r.length : Int) < (h.toNat : Int)) = False := by simp; omega
    rw [if_neg hlt] at hE
    by_cases hz : h.toNat = 0
    · have HE : Hid (numT (h :: r) = (valBE (r.take h.toNat), r.drop h.toNat, 0)) := Lib.hid (by rw [hE, if_neg (by omega)])
      have hz1 : ((0 : Int) < (h.toNat : Int)) = False := by simp; omega
      have hz2 : ((h.toNat : Int) == 8) = false := by rw [beq_eq_false_iff_ne]; omega
      have hz3 : (0 < h.toNat) = False := by simp; omega
      clear hE hlt hz
      have HRd := Lib.hid (fun W => run_drop (h :: r) (h.toNat + 1) (by simp; omega) W)
      have hrd := HRd.out
      rw [show ((h.toNat + 1 : Nat) : Int) = (h.toNat : Int) + 1 by omega, List.drop_succ_cons] at hrd
      have HTk := Lib.hid (numT_lt (s := h :: r) (n := valBE (r.take h.toNat)) (r := r.drop h.toNat) HE.out)
      have HLe := Lib.hid hle
      have HK8 := Lib.hid (show h.toNat ≤ 8 by omega)
      clear HRd
      go_enter Tryd.func151, Tryd.ntmps151
      go_wp2_with fail
      refine take_loop h r h.toNat HLe.out HK8.out HTk.out _ _ ?_ _ _ _ _ _ _ _ _ _ _ _ _ _ _ _ _ _ _ _ _ _ _ _ _ _ _ _ _ _ _ _ _ _ _ _ _ _ _ _ _ _ _ _ _ _ _ _ _ _
      intro s1 s2 s3 s4 s7 s8 s9 s10 s11 s12 s13 s14 s15 s16 s17 s18 s19 s20 s21 s22 s23 s24 s25 s26 s27 s28 s29 s30 s31 s32 s33 s34 s35 s36 s37 s38 s39 s40 s41 s42 s43 s44 s45 s46 s47 s48 s49 s50 s51 s52
      have HF := Lib.hid (fun W => HP.out _ _ 0 W HE.out)
      clear HE HTk
      generalize valBE _ = v at HF ⊢
      go_wp2
      go_quiet (fail)
      go_wp2
      exact HF.out _ ⟨rfl, rfl, rfl, Nat.le_refl _, fun _ _ => rfl⟩
    have hz1 : (0 : Int) < (h.toNat : Int) := by omega
    have hjx : ∀ W, (Instr.index 9 (.string ⟨(h :: r).toArray⟩) (.int .i64 1)).run Tryd.prog W = .ok (.int .u8 ((r.getD 0 0).toNat : Int)) W := fun W => by
      have := run_byte (h :: r) 1 (by simp; omega) W
      rw [show (h :: r).getD 1 0 = r.getD 0 0 by simp [List.getD_eq_getElem?_getD]] at this
      exact this
    have hx256 := (r.getD 0 0).toNat_lt
    obtain ⟨x, hx⟩ : ∃ x, r.getD 0 0 = x := ⟨_, rfl⟩
    rw [hx] at hE hjx hx256
    clear hx
    by_cases hx0 : x = 0
    · have HE : Hid (numT (h :: r) = (0, [], 3)) := Lib.hid (by rw [hE, if_pos (.inl ⟨by omega, hx0⟩)])
      have hxz : ((x.toNat : Int) == 0) = true := by simp [hx0]
      clear hE h8 hlt hx0
      go_enter Tryd.func151, Tryd.ntmps151
      go_wp2
      exact HP.out 0 [] 3 _ HE.out (Below.refl _ _)
    have hxz : ((x.toNat : Int) == 0) = false := by
      simp; intro e; exact hx0 (UInt8.toNat_inj.1 e)
    by_cases h88 : h.toNat = 8
    · have h88I : ((h.toNat : Int) == 8) = true := by rw [beq_iff_eq]; omega
      by_cases h128 : 128 ≤ x.toNat
      · have HE : Hid (numT (h :: r) = (0, [], 3)) := Lib.hid (by rw [hE, if_pos (.inr ⟨h88, h128⟩)])
        have h9 : (127 : Int) < x.toNat := by omega
        clear hE h8 hlt hx0 h128 h88
        go_enter Tryd.func151, Tryd.ntmps151
        go_wp2
        exact HP.out 0 [] 3 _ HE.out (Below.refl _ _)
      · have HE : Hid (numT (h :: r) = (valBE (r.take h.toNat), r.drop h.toNat, 0)) := Lib.hid (by rw [hE, if_neg]; rintro (⟨_, q⟩ | ⟨_, q⟩); exact hx0 q; exact h128 q)
        have h9 : ((127 : Int) < x.toNat) = False := by simp; omega
        clear hE hlt hx0 h128 h88
        have HRd := Lib.hid (fun W => run_drop (h :: r) (h.toNat + 1) (by simp; omega) W)
        have hrd := HRd.out
        rw [show ((h.toNat + 1 : Nat) : Int) = (h.toNat : Int) + 1 by omega, List.drop_succ_cons] at hrd
        have HTk := Lib.hid (numT_lt (s := h :: r) (n := valBE (r.take h.toNat)) (r := r.drop h.toNat) HE.out)
        have HLe := Lib.hid hle
        have HK8 := Lib.hid (show h.toNat ≤ 8 by omega)
        clear HRd
        go_enter Tryd.func151, Tryd.ntmps151
        go_wp2_with fail
        refine take_loop h r h.toNat HLe.out HK8.out HTk.out _ _ ?_ _ _ _ _ _ _ _ _ _ _ _ _ _ _ _ _ _ _ _ _ _ _ _ _ _ _ _ _ _ _ _ _ _ _ _ _ _ _ _ _ _ _ _ _ _ _ _ _ _
        intro s1 s2 s3 s4 s7 s8 s9 s10 s11 s12 s13 s14 s15 s16 s17 s18 s19 s20 s21 s22 s23 s24 s25 s26 s27 s28 s29 s30 s31 s32 s33 s34 s35 s36 s37 s38 s39 s40 s41 s42 s43 s44 s45 s46 s47 s48 s49 s50 s51 s52
        have HF := Lib.hid (fun W => HP.out _ _ 0 W HE.out)
        clear HE HTk
        generalize valBE _ = v at HF ⊢
        go_wp2
        go_quiet (fail)
        go_wp2
        exact HF.out _ ⟨rfl, rfl, rfl, Nat.le_refl _, fun _ _ => rfl⟩
    · have h88I : ((h.toNat : Int) == 8) = false := by rw [beq_eq_false_iff_ne]; omega
      have HE : Hid (numT (h :: r) = (valBE (r.take h.toNat), r.drop h.toNat, 0)) := Lib.hid (by rw [hE, if_neg]; rintro (⟨_, q⟩ | ⟨q, _⟩); exact hx0 q; exact h88 q)
      clear hE hlt hx0
      have HRd := Lib.hid (fun W => run_drop (h :: r) (h.toNat + 1) (by simp; omega) W)
      have hrd := HRd.out
      rw [show ((h.toNat + 1 : Nat) : Int) = (h.toNat : Int) + 1 by omega, List.drop_succ_cons] at hrd
      have HTk := Lib.hid (numT_lt (s := h :: r) (n := valBE (r.take h.toNat)) (r := r.drop h.toNat) HE.out)
      have HLe := Lib.hid hle
      have HK8 := Lib.hid (show h.toNat ≤ 8 by omega)
      clear HRd
      go_enter Tryd.func151, Tryd.ntmps151
      go_wp2_with fail
      refine take_loop h r h.toNat HLe.out HK8.out HTk.out _ _ ?_ _ _ _ _ _ _ _ _ _ _ _ _ _ _ _ _ _ _ _ _ _ _ _ _ _ _ _ _ _ _ _ _ _ _ _ _ _ _ _ _ _ _ _ _ _ _ _ _ _
      intro s1 s2 s3 s4 s7 s8 s9 s10 s11 s12 s13 s14 s15 s16 s17 s18 s19 s20 s21 s22 s23 s24 s25 s26 s27 s28 s29 s30 s31 s32 s33 s34 s35 s36 s37 s38 s39 s40 s41 s42 s43 s44 s45 s46 s47 s48 s49 s50 s51 s52
      have HF := Lib.hid (fun W => HP.out _ _ 0 W HE.out)
      clear HE HTk
      generalize valBE _ = v at HF ⊢
      go_wp2
      go_quiet (fail)
      go_wp2
      exact HF.out _ ⟨rfl, rfl, rfl, Nat.le_refl _, fun _ _ => rfl⟩
end Go.Proofs.YtefcmigbdfeaiaaDoor
