import Derived.Test.YtefcmigbdfeaiaaDoorJ38
import Derived.Test.YtefcmigbdfeaiaaDoorJ01
import Derived.OneCell
set_option linter.unusedSimpArgs false
set_option linter.unusedVariables false
/- The walks of layer 2 (code): the reader's numbers. No conditions. -/
namespace Go.Proofs.YtefcmigbdfeaiaaDoor
set_option linter.unusedVariables false
open Go.RowKit Go.Instr
attribute [local go_sem] ba_get ByteArray.mk_append_mk

theorem valBE_take (b : List UInt8) (i : Nat) (hi : i < b.length) : valBE (b.take (i + 1)) = valBE (b.take i) * 256 + (b.getD i 0).toNat := by
  rw [List.take_succ_eq_append_getElem hi, valBE_snoc, List.getD_eq_getElem?_getD, List.getElem?_eq_getElem hi]
  rfl
theorem valBE_mono (b : List UInt8) : ∀ i, valBE (b.take i) ≤ valBE b := by
  induction b using snoc_ind with
  | h0 => intro i; simp
  | h1 c x ih =>
    intro i
    rw [valBE_snoc]
    by_cases h : i ≤ c.length
    · rw [List.take_append_of_le_length h]
      have := ih i
      omega
    · rw [List.take_of_length_le (by simp; omega), valBE_snoc]
      omega
theorem or_of' {x y : Nat} (k : Nat) (hy : y < 2 ^ k) : x * 2 ^ k ||| y = x * 2 ^ k + y := by
  rw [← Nat.shiftLeft_eq, Nat.shiftLeft_add_eq_or_of_lt hy]
set_option maxRecDepth 100000 in
theorem i64_or_byte (n : Nat) (b : Nat) (hb : b < 256) (h : n * 256 + b < 9223372036854775808) : bits .or .i64 ((n : Int) * 256) (b : Int) = ((n * 256 + b : Nat) : Int) := by
  have e1 : (n : Int) * 256 = ((n * 256 : Nat) : Int) := by omega
  have h1 : n * 256 < 9223372036854775808 := by omega
  have h2 : b < 9223372036854775808 := by omega
  have e3 : (2 : Nat) ^ 8 = 256 := by decide
  have e2 := or_of' (x := n) 8 (y := b) (by rw [e3]; exact hb)
  rw [e3] at e2
  rw [e1, i64_or_nat (n * 256) b h1 h2, e2]
/-- a byte of a text -/
theorem run_byte (l : List UInt8) (i : Nat) (hi : i < l.length) (W : World) : (Instr.index 9 (.string ⟨l.toArray⟩) (.int .i64 (i : Int))).run Tryd.prog W = .ok (.int .u8 ((l.getD i 0).toNat : Int)) W := by
  have hsz : ((i : Int)).toNat < (ByteArray.mk l.toArray).size := by simpa [ByteArray.size] using hi
  rw [run_index_string W 9 ⟨l.toArray⟩ .i64 (i : Int) Tryd.underlying9]
  have e : (ByteArray.mk l.toArray)[((i : Int)).toNat]'hsz = l.getD i 0 := by
    rw [ba_get]
    simp [List.getD_eq_getElem?_getD, hi]
  rw [dif_pos ⟨by omega, by have e2 : (ByteArray.mk l.toArray).size = l.length := by simp [ByteArray.size]
                            omega⟩, e]
set_option maxRecDepth 100000 in
set_option maxHeartbeats 1000000 in
theorem number_loop (b : List UInt8) (hl : b.length ≤ 8) (hv : valBE b < 9223372036854775808) (w0 : World)
    (Q : Exit → Act → World → Prop) (p0 : Value)
    (hQ : ∀ (s1 s2 s3 s4 s5 s6 s8 s9 s10 s11 s12 s13 s14 s15 s16 s17 s18 s19 s20 s21 s22 s23 s24 s25 s26 s27 s28 s29 s30 s31 s32 s33 s34 s35 s36 s37 s38 s39 s40 s41 s42 s43 s44 s45 s46 s47 s48 s49 s50 s51 s52 s53 s54 s55 s56 s57 s58 s59 s60 s61 s62 s63 s64 s65 s66 s67 s68 s69 : Value), Q (.exit 0) { tmps := #[p0, s1, s2, s3, s4, s5, s6, .int .i64 (valBE b : Int), s8, s9, s10, s11, s12, s13, s14, s15, s16, s17, s18, s19, s20, s21, s22, s23, s24, s25, s26, s27, s28, s29, s30, s31, s32, s33, s34, s35, s36, s37, s38, s39, s40, s41, s42, s43, s44, s45, s46, s47, s48, s49, s50, s51, s52, s53, s54, s55, s56, s57, s58, s59, s60, s61, s62, s63, s64, s65, s66, s67, s68, s69], defers := [] } w0)
    (s1 s2 s3 s4 s5 s8 s9 s10 s11 s12 s13 s14 s15 s16 s17 s18 s19 s20 s21 s22 s23 s24 s25 s26 s27 s28 s29 s30 s31 s32 s33 s34 s35 s36 s37 s38 s39 s40 s41 s42 s43 s44 s45 s46 s47 s48 s49 s50 s51 s52 s53 s54 s55 s56 s59 s60 s61 s62 s63 s64 s65 s66 s67 s68 s69 : Value) :
    Code.wp Tryd.prog (.loop (loopAt Tryd.f126 0)) Q { tmps := #[p0, s1, s2, s3, s4, s5, .string ⟨b.toArray⟩, .int .i64 0, s8, s9, s10, s11, s12, s13, s14, s15, s16, s17, s18, s19, s20, s21, s22, s23, s24, s25, s26, s27, s28, s29, s30, s31, s32, s33, s34, s35, s36, s37, s38, s39, s40, s41, s42, s43, s44, s45, s46, s47, s48, s49, s50, s51, s52, s53, s54, s55, s56, .int .i64 b.length, .int .i64 0, s59, s60, s61, s62, s63, s64, s65, s66, s67, s68, s69], defers := [] } w0 := by
  have HQ := Lib.hid hQ
  clear hQ
  refine wp_loop_ghost_k (fun k a wr => ∀ Φ : Act → Prop, (∀ (s1 s2 s3 s4 s5 s8 s9 s10 s11 s12 s13 s14 s15 s16 s17 s18 s19 s20 s21 s22 s23 s24 s25 s26 s27 s28 s29 s30 s31 s32 s33 s34 s35 s36 s37 s38 s39 s40 s41 s42 s43 s44 s45 s46 s47 s48 s49 s50 s51 s52 s53 s54 s55 s56 s59 s60 s61 s62 s63 s64 s65 s66 s67 s68 s69 : Value) (i n : Nat), (i + k = b.length ∧ valBE (b.take i) = n ∧ wr = w0) → Φ { tmps := #[p0, s1, s2, s3, s4, s5, .string ⟨b.toArray⟩, .int .i64 (n : Int), s8, s9, s10, s11, s12, s13, s14, s15, s16, s17, s18, s19, s20, s21, s22, s23, s24, s25, s26, s27, s28, s29, s30, s31, s32, s33, s34, s35, s36, s37, s38, s39, s40, s41, s42, s43, s44, s45, s46, s47, s48, s49, s50, s51, s52, s53, s54, s55, s56, .int .i64 b.length, .int .i64 (i : Int), s59, s60, s61, s62, s63, s64, s65, s66, s67, s68, s69], defers := [] }) → Φ a) (b.length) ?_ ?_
  · refine fun Φ hΦ => hΦ _ _ _ _ _ _ _ _ _ _ _ _ _ _ _ _ _ _ _ _ _ _ _ _ _ _ _ _ _ _ _ _ _ _ _ _ _ _ _ _ _ _ _ _ _ _ _ _ _ _ _ _ _ _ _ _ _ _ _ _ _ _ _ _ _ (0) (0) ?_
    exact ⟨by omega, by simp [valBE], rfl⟩
  · intro k1 a1 wr1 hI1 J1 K1 hJ1 hK1
    refine hI1 (fun a => Code.wp _ _ _ a _) ?_
    clear hI1 a1
    intro s0 s1 s2 s3 s4 s5 s6 s7 s8 s9 s10 s11 s12 s13 s14 s15 s16 s17 s18 s19 s20 s21 s22 s23 s24 s25 s26 s27 s28 s29 s30 s31 s32 s33 s34 s35 s36 s37 s38 s39 s40 s41 s42 s43 s44 s45 s46 s47 s48 s49 s50 s51 s52 s53 s54 s55 s56 s57 s58 s59 s60 s61 s62 s63 s64 i n hrel
    show Code.wp _ _ _ _ _
    conv => arg 2; whnf
    obtain ⟨h1, h2, rfl⟩ := hrel
    by_cases hi : i < b.length
    · have h3 := valBE_take b i hi
      have h4 := valBE_mono b (i + 1)
      have hx := (b.getD i 0).toNat_lt
      have HN : Hid (valBE (b.take (i + 1)) = n * 256 + (b.getD i 0).toNat) := Lib.hid (by rw [h3, h2])
      have hsum : n * 256 + (b.getD i 0).toNat < 9223372036854775808 := by rw [h2] at h3; omega
      have hor := i64_or_byte n (b.getD i 0).toNat (by omega) hsum
      have hix := fun W => run_byte b i hi W
      have HI := Lib.hid h1
      have hi1 : (i : Int) < b.length := by omega
      have hi0 : (0 : Int) ≤ i := by omega
      have hl8 : (b.length : Int) ≤ 8 := by omega
      have hn0 : (0 : Int) ≤ n := by omega
      have hn1 : (n : Int) ≤ 36028797018963967 := by omega
      clear h1 h2 h3 h4
      generalize b.getD i 0 = x at *
      go_wp2_with fail
      refine Handed.intro (b.length - (i + 1)) ?_ (hJ1 _ _ _ (fun Φ hΦ => hΦ _ _ _ _ _ _ _ _ _ _ _ _ _ _ _ _ _ _ _ _ _ _ _ _ _ _ _ _ _ _ _ _ _ _ _ _ _ _ _ _ _ _ _ _ _ _ _ _ _ _ _ _ _ _ _ _ _ _ _ _ _ _ _ _ _ (i + 1) (n * 256 + x.toNat) ?_))
      · have := HI.out
        show b.length - (i + 1) < k1
        omega
      · have := HI.out
        exact ⟨by omega, HN.out, rfl⟩
    · have e : b.take i = b := List.take_of_length_le (by omega)
      rw [e] at h2
      subst h2
      have hi2 : ((i : Int) < b.length) = False := by simp; omega
      clear h1 hi e
      go_wp2_with fail
      exact HQ.out _ _ _ _ _ _ _ _ _ _ _ _ _ _ _ _ _ _ _ _ _ _ _ _ _ _ _ _ _ _ _ _ _ _ _ _ _ _ _ _ _ _ _ _ _ _ _ _ _ _ _ _ _ _ _ _ _ _ _ _ _ _ _ _ _ _ _ _
end Go.Proofs.YtefcmigbdfeaiaaDoor

/- The document's layer 10 (trie): grown's inner loop. No conditions. -/
namespace Go.Proofs.YtefcmigbdfeaiaaDoor
set_option linter.unusedVariables false
open Go.RowKit Go.Instr
attribute [local go_sem] ba_get ByteArray.mk_append_mk
def someW (l : List Trie.KV) (i : Nat) : List Trie.KV := l.filter fun x => decide ((x.1.getD 0 0).toNat = i)
set_option maxRecDepth 100000 in
set_option maxHeartbeats 4000000 in
theorem grown_inner (w0 : World) (l : List Trie.KV) (A : Option Addr) (c : Nat) (HR : Reads w0 w0.heap.size 2 A l.length (icells l)) (hl : l.length ≤ 2000) (hne : ∀ x ∈ l, x.1 ≠ []) (i : Nat) (hi : i < 16) (pl : List UInt8) (nb : Nat) (AL : Value)
    (Q : Exit → Act → World → Prop)
    (hQ : ∀ (s2 s3 s4 s5 s6 s7 s12 s13 s14 s15 s16 s17 s18 s19 s20 s21 s22 s23 s24 s25 s26 s27 s28 s29 s30 s31 s32 s33 s34 s35 s36 s37 s38 s39 s40 s41 s42 s43 s44 s45 s46 s47 s48 s49 s50 s51 s52 s53 s54 s55 s56 s57 s58 s59 s60 s61 s62 s63 s64 s65 s66 s67 s68 s69 s70 s71 s72 s73 s74 s75 s76 s77 s78 s79 s80 s81 s82 s83 s84 s85 s86 s87 s88 s89 s90 s91 s92 s93 s94 s95 s96 s97 s98 s99 s100 s101 s102 s103 s104 s105 s106 s107 s108 s109 s110 s111 s112 s113 s114 s115 s116 s117 s118 s119 s120 s121 s122 s123 s124 s125 s126 s127 s128 s129 s130 s131 s132 s133 s134 s135 s136 s137 s138 : Value) (A2 : Option Addr) (n2 c2 : Nat) (w2 : World), n2 = (someW l i).length → w2.ownsRow w0.heap.size 26 2 (.slice A2 n2 c2) n2 (icells (someW l i)) → Below w0.heap.size w0 w2 → Q (.exit 2) { tmps := #[.slice A l.length c, .string ⟨pl.toArray⟩, s2, s3, s4, s5, s6, s7, .pointer (some ⟨nb, 0, none⟩), AL, .int .i64 (i : Int), .slice A2 n2 c2, s12, s13, s14, s15, s16, s17, s18, s19, s20, s21, s22, s23, s24, s25, s26, s27, s28, s29, s30, s31, s32, s33, s34, s35, s36, s37, s38, s39, s40, s41, s42, s43, s44, s45, s46, s47, s48, s49, s50, s51, s52, s53, s54, s55, s56, s57, s58, s59, s60, s61, s62, s63, s64, s65, s66, s67, s68, s69, s70, s71, s72, s73, s74, s75, s76, s77, s78, s79, s80, s81, s82, s83, s84, s85, s86, s87, s88, s89, s90, s91, s92, s93, s94, s95, s96, s97, s98, s99, s100, s101, s102, s103, s104, s105, s106, s107, s108, s109, s110, s111, s112, s113, s114, s115, s116, s117, s118, s119, s120, s121, s122, s123, s124, s125, s126, s127, s128, s129, s130, s131, s132, s133, s134, s135, s136, s137, s138], defers := [] } w2)
    (s2 s3 s4 s5 s6 s7 s13 s14 s15 s16 s17 s18 s19 s20 s21 s22 s23 s24 s25 s26 s27 s28 s29 s30 s31 s32 s33 s34 s35 s36 s37 s38 s39 s40 s41 s42 s43 s44 s45 s46 s47 s48 s49 s50 s51 s52 s53 s54 s55 s56 s57 s58 s59 s60 s61 s62 s63 s64 s65 s66 s67 s68 s69 s70 s71 s72 s73 s74 s75 s76 s77 s78 s79 s80 s81 s82 s83 s84 s85 s86 s87 s88 s89 s90 s91 s92 s93 s94 s95 s96 s97 s98 s99 s100 s101 s102 s103 s104 s105 s106 s107 s108 s109 s110 s111 s112 s113 s114 s115 s116 s117 s118 s119 s120 s121 s122 s123 s124 s125 s126 s127 s128 s129 s130 s131 s132 s133 s134 s135 s136 s137 s138 : Value) :
    Code.wp Tryd.prog (.loop (loopAt Tryd.f53 1)) Q { tmps := #[.slice A l.length c, .string ⟨pl.toArray⟩, s2, s3, s4, s5, s6, s7, .pointer (some ⟨nb, 0, none⟩), AL, .int .i64 (i : Int), .slice none 0 0, .int .i64 0, s13, s14, s15, s16, s17, s18, s19, s20, s21, s22, s23, s24, s25, s26, s27, s28, s29, s30, s31, s32, s33, s34, s35, s36, s37, s38, s39, s40, s41, s42, s43, s44, s45, s46, s47, s48, s49, s50, s51, s52, s53, s54, s55, s56, s57, s58, s59, s60, s61, s62, s63, s64, s65, s66, s67, s68, s69, s70, s71, s72, s73, s74, s75, s76, s77, s78, s79, s80, s81, s82, s83, s84, s85, s86, s87, s88, s89, s90, s91, s92, s93, s94, s95, s96, s97, s98, s99, s100, s101, s102, s103, s104, s105, s106, s107, s108, s109, s110, s111, s112, s113, s114, s115, s116, s117, s118, s119, s120, s121, s122, s123, s124, s125, s126, s127, s128, s129, s130, s131, s132, s133, s134, s135, s136, s137, s138], defers := [] } w0 := by
  have HQ := Lib.hid hQ
  have HRR := Lib.hid HR
  have HN := Lib.hid hne
  have HL := Lib.hid hl
  clear hQ HR hne hl
  refine wp_loop_ghost_k (fun k a wr => ∀ Φ : Act → Prop, (∀ (s2 s3 s4 s5 s6 s7 s13 s14 s15 s16 s17 s18 s19 s20 s21 s22 s23 s24 s25 s26 s27 s28 s29 s30 s31 s32 s33 s34 s35 s36 s37 s38 s39 s40 s41 s42 s43 s44 s45 s46 s47 s48 s49 s50 s51 s52 s53 s54 s55 s56 s57 s58 s59 s60 s61 s62 s63 s64 s65 s66 s67 s68 s69 s70 s71 s72 s73 s74 s75 s76 s77 s78 s79 s80 s81 s82 s83 s84 s85 s86 s87 s88 s89 s90 s91 s92 s93 s94 s95 s96 s97 s98 s99 s100 s101 s102 s103 s104 s105 s106 s107 s108 s109 s110 s111 s112 s113 s114 s115 s116 s117 s118 s119 s120 s121 s122 s123 s124 s125 s126 s127 s128 s129 s130 s131 s132 s133 s134 s135 s136 s137 s138 : Value) (j n c2 : Nat) (O : Option Addr), (j + k = l.length ∧ n = (someW (l.take j) i).length ∧ n ≤ j ∧ wr.ownsRow w0.heap.size 26 2 (.slice O n c2) n (icells (someW (l.take j) i)) ∧ Below w0.heap.size w0 wr) → Φ { tmps := #[.slice A l.length c, .string ⟨pl.toArray⟩, s2, s3, s4, s5, s6, s7, .pointer (some ⟨nb, 0, none⟩), AL, .int .i64 (i : Int), .slice O n c2, .int .i64 (j : Int), s13, s14, s15, s16, s17, s18, s19, s20, s21, s22, s23, s24, s25, s26, s27, s28, s29, s30, s31, s32, s33, s34, s35, s36, s37, s38, s39, s40, s41, s42, s43, s44, s45, s46, s47, s48, s49, s50, s51, s52, s53, s54, s55, s56, s57, s58, s59, s60, s61, s62, s63, s64, s65, s66, s67, s68, s69, s70, s71, s72, s73, s74, s75, s76, s77, s78, s79, s80, s81, s82, s83, s84, s85, s86, s87, s88, s89, s90, s91, s92, s93, s94, s95, s96, s97, s98, s99, s100, s101, s102, s103, s104, s105, s106, s107, s108, s109, s110, s111, s112, s113, s114, s115, s116, s117, s118, s119, s120, s121, s122, s123, s124, s125, s126, s127, s128, s129, s130, s131, s132, s133, s134, s135, s136, s137, s138], defers := [] }) → Φ a) (l.length) ?_ ?_
  · refine fun Φ hΦ => hΦ _ _ _ _ _ _ _ _ _ _ _ _ _ _ _ _ _ _ _ _ _ _ _ _ _ _ _ _ _ _ _ _ _ _ _ _ _ _ _ _ _ _ _ _ _ _ _ _ _ _ _ _ _ _ _ _ _ _ _ _ _ _ _ _ _ _ _ _ _ _ _ _ _ _ _ _ _ _ _ _ _ _ _ _ _ _ _ _ _ _ _ _ _ _ _ _ _ _ _ _ _ _ _ _ _ _ _ _ _ _ _ _ _ _ _ _ _ _ _ _ _ _ _ _ _ _ _ _ _ _ _ _ (0) (0) (0) (none) ?_
    exact ⟨by omega, rfl, by omega, World.ownsRow_nil _ _ _ _, Below.refl _ _⟩
  · intro k1 a1 wr1 hI1 J1 K1 hJ1 hK1
    refine hI1 (fun a => Code.wp _ _ _ a _) ?_
    clear hI1 a1
    intro s0 s1 s2 s3 s4 s5 s6 s7 s8 s9 s10 s11 s12 s13 s14 s15 s16 s17 s18 s19 s20 s21 s22 s23 s24 s25 s26 s27 s28 s29 s30 s31 s32 s33 s34 s35 s36 s37 s38 s39 s40 s41 s42 s43 s44 s45 s46 s47 s48 s49 s50 s51 s52 s53 s54 s55 s56 s57 s58 s59 s60 s61 s62 s63 s64 s65 s66 s67 s68 s69 s70 s71 s72 s73 s74 s75 s76 s77 s78 s79 s80 s81 s82 s83 s84 s85 s86 s87 s88 s89 s90 s91 s92 s93 s94 s95 s96 s97 s98 s99 s100 s101 s102 s103 s104 s105 s106 s107 s108 s109 s110 s111 s112 s113 s114 s115 s116 s117 s118 s119 s120 s121 s122 s123 s124 s125 s126 s127 s128 s129 s130 s131 j n c2 O hrel
    show Code.wp _ _ _ _ _
    conv => arg 2; whnf
    obtain ⟨h1, h2, h3, own, hb⟩ := hrel
    by_cases hj : j < l.length
    · obtain ⟨ad, off, rfl, hbl, hcell⟩ := item_cells HRR.out hj
      obtain ⟨q0, q1⟩ := hcell _ hb
      have hx := HN.out _ (List.getElem_mem hj)
      have HS : Hid (someW (l.take (j + 1)) i = someW (l.take j) i ++ (if (l[j].1.getD 0 0).toNat = i then [l[j]] else [])) := Lib.hid (by
        unfold someW; rw [List.take_succ_eq_append_getElem hj, List.filter_append]
        simp only [List.filter_cons, List.filter_nil, decide_eq_true_eq])
      have hj1 : (j : Int) < l.length := by omega
      have hj0 : (0 : Int) ≤ j := by omega
      have hl2 := HL.out
      have hn3 : n ≤ 2000 := by omega
      have HI := Lib.hid (And.intro h1 (And.intro h2 h3))
      clear hcell h1 h2 h3
      generalize l[j] = x at *
      generalize someW (l.take j) i = M at *
      obtain ⟨xk, xv⟩ := x
      simp only at q0 q1 hx HS
      have hby : ∀ W, (Instr.index 9 (.string ⟨xk.toArray⟩) (.int .i64 0)).run Tryd.prog W = .ok (.int .u8 ((xk.getD 0 0).toNat : Int)) W := fun W => run_byte xk 0 (List.length_pos_iff.2 hx) W
      generalize xk.getD 0 0 = b at *
      have hb256 := b.toNat_lt
      clear hx
      by_cases hbi : b.toNat = i
      · subst hbi
        rw [if_pos rfl] at HS
        have hone : ∀ u ∈ [Value.string ⟨xk.toArray⟩, Value.string ⟨xv.toArray⟩], u.oneCell' = true := by simp [Value.oneCell']
        go_wp2_with (at_builtin; refine wpList_append_new wr1 26 [.string ⟨xk.toArray⟩, .string ⟨xv.toArray⟩] rfl _ _ 22 rfl w0.heap.size 2 32 _ info_item Tryd.underlying22 rfl (by decide) (.slice O n c2) n (icells M) rfl own 1 1 rfl rfl hone (by simp only [maxLen]; omega) (by omega) w0.heap.size w0 hb (Nat.le_refl _) hb.size ?_; intro v3 w3 own3 hb3 hg3 _ _; obtain ⟨A3, c3, rfl, _, _, _⟩ := own_form own3; have O3 := Lib.hid (And.intro own3 hb3); clear own3 hg3 hb3)
        refine Handed.intro (l.length - (j + 1)) ?_ (hJ1 _ _ _ (fun Φ hΦ => hΦ _ _ _ _ _ _ _ _ _ _ _ _ _ _ _ _ _ _ _ _ _ _ _ _ _ _ _ _ _ _ _ _ _ _ _ _ _ _ _ _ _ _ _ _ _ _ _ _ _ _ _ _ _ _ _ _ _ _ _ _ _ _ _ _ _ _ _ _ _ _ _ _ _ _ _ _ _ _ _ _ _ _ _ _ _ _ _ _ _ _ _ _ _ _ _ _ _ _ _ _ _ _ _ _ _ _ _ _ _ _ _ _ _ _ _ _ _ _ _ _ _ _ _ _ _ _ _ _ _ _ _ _ (j + 1) (n + 1) (c3) (A3) ?_))
        · have := HI.out.1; omega
        · refine ⟨by have := HI.out.1; omega, by rw [HS.out, List.length_append, ← HI.out.2.1]; rfl, by have := HI.out.2.2; omega, ?_, O3.out.2⟩
          rw [HS.out, icells_snoc]
          exact O3.out.1
      · rw [if_neg hbi, List.append_nil] at HS
        have hbi2 : ((b.toNat : Int) == (i : Int)) = false := by rw [beq_eq_false_iff_ne]; omega
        have O3 := Lib.hid (And.intro own hb)
        clear own hb
        go_wp2
        refine Handed.intro (l.length - (j + 1)) ?_ (hJ1 _ _ _ (fun Φ hΦ => hΦ _ _ _ _ _ _ _ _ _ _ _ _ _ _ _ _ _ _ _ _ _ _ _ _ _ _ _ _ _ _ _ _ _ _ _ _ _ _ _ _ _ _ _ _ _ _ _ _ _ _ _ _ _ _ _ _ _ _ _ _ _ _ _ _ _ _ _ _ _ _ _ _ _ _ _ _ _ _ _ _ _ _ _ _ _ _ _ _ _ _ _ _ _ _ _ _ _ _ _ _ _ _ _ _ _ _ _ _ _ _ _ _ _ _ _ _ _ _ _ _ _ _ _ _ _ _ _ _ _ _ _ _ (j + 1) (n) (c2) (O) ?_))
        · have := HI.out.1; omega
        · refine ⟨by have := HI.out.1; omega, by rw [HS.out]; exact HI.out.2.1, by have := HI.out.2.2; omega, ?_, O3.out.2⟩
          rw [HS.out]
          exact O3.out.1
    · have hj2 : ((j : Int) < l.length) = False := by simp; omega
      rw [List.take_of_length_le (by omega)] at h2 own
      have O2 := Lib.hid (And.intro h2 (And.intro own hb))
      clear own hb h2
      go_wp2
      exact HQ.out _ _ _ _ _ _ _ _ _ _ _ _ _ _ _ _ _ _ _ _ _ _ _ _ _ _ _ _ _ _ _ _ _ _ _ _ _ _ _ _ _ _ _ _ _ _ _ _ _ _ _ _ _ _ _ _ _ _ _ _ _ _ _ _ _ _ _ _ _ _ _ _ _ _ _ _ _ _ _ _ _ _ _ _ _ _ _ _ _ _ _ _ _ _ _ _ _ _ _ _ _ _ _ _ _ _ _ _ _ _ _ _ _ _ _ _ _ _ _ _ _ _ _ _ _ _ _ _ _ _ _ _ _ _ _ _ _ O2.out.1 O2.out.2.1 O2.out.2.2
end Go.Proofs.YtefcmigbdfeaiaaDoor

/- The document's layer 10 (trie): grown's outer loop. No conditions. -/
namespace Go.Proofs.YtefcmigbdfeaiaaDoor
set_option linter.unusedVariables false
open Go.RowKit Go.Instr
attribute [local go_sem] ba_get ByteArray.mk_append_mk
/-- the sums of a branch's first kids -/
def KsT (kids : Fin 16 → Trie.T) (i : Nat) : List (List UInt8) := List.ofFn fun j : Fin 16 => if j.val < i then Trie.sumT (kids j) else []
theorem KsT_len (kids : Fin 16 → Trie.T) (i : Nat) : (KsT kids i).length = 16 := by simp [KsT]
theorem KsT_zero (kids : Fin 16 → Trie.T) : KsT kids 0 = List.replicate 16 [] := by
  apply List.ext_getElem?
  intro j
  simp only [KsT, List.getElem?_ofFn, List.getElem?_replicate]
  split <;> simp
theorem KsT_all (v : List UInt8) (kids : Fin 16 → Trie.T) : KsT kids 16 = Trie.sumsT (.branch v kids) := by
  unfold KsT Trie.sumsT Trie.kidsT
  congr 1
  funext j
  rw [if_pos j.isLt]
theorem KsT_succ (kids : Fin 16 → Trie.T) (i : Fin 16) : KsT kids (i.val + 1) = (KsT kids i.val).set i.val (Trie.sumT (kids i)) := by
  apply List.ext_getElem?
  intro j
  rw [List.getElem?_set]
  simp only [KsT, List.getElem?_ofFn, List.length_ofFn]
  by_cases hj : j < 16
  · by_cases e : i.val = j
    · subst e
      simp
    · simp only [hj, dite_true, e, if_false]
      by_cases h2 : j < i.val
      · rw [if_pos h2, if_pos (by omega)]
      · rw [if_neg h2, if_neg (by omega)]
  · simp [hj]
    intro e; omega
theorem KsT_nil (kids : Fin 16 → Trie.T) (i : Fin 16) (h : kids i = .nil) : KsT kids (i.val + 1) = KsT kids i.val := by
  unfold KsT
  congr 1
  funext j
  by_cases e : j = i
  · subst e
    rw [h]
    simp [Trie.sumT]
  · have : j.val ≠ i.val := fun h => e (Fin.ext h)
    by_cases h2 : j.val < i.val
    · rw [if_pos h2, if_pos (by omega)]
    · rw [if_neg h2, if_neg (by omega)]
theorem nodeV_set (k : Nat) (p v : List UInt8) (K : List (List UInt8)) (i : Nat) (s : List UInt8) : (nodeV k p v K).toArray.setIfInBounds (3 + i) (.string ⟨s.toArray⟩) = (nodeV k p v (K.set i s)).toArray := by
  rw [List.setIfInBounds_toArray]
  congr 1
  simp only [nodeV, strv]
  rw [show 3 + i = i + 1 + 1 + 1 by omega, List.set_cons_succ, List.set_cons_succ, List.set_cons_succ, List.map_set]
def flatK (kids : Fin 16 → Trie.T) : List Trie.KV := (List.finRange 16).flatMap fun j => Trie.items (kids j) [Trie.hb j]
theorem flatK_head (kids : Fin 16 → Trie.T) : ∀ x ∈ flatK kids, x.1 ≠ [] := by
  intro x hx
  unfold flatK at hx
  rw [List.mem_flatMap] at hx
  obtain ⟨j, _, hx⟩ := hx
  rw [Trie.items_pl, List.mem_map] at hx
  obtain ⟨y, _, rfl⟩ := hx
  simp
theorem goKids_len {v : List UInt8} {kids : Fin 16 → Trie.T} (hw : Trie.wf (.branch v kids)) (hc : Trie.count (.branch v kids) ≤ 20000) (pl : List UInt8) (i : Nat) : (Trie.goKids allW kids pl i).length ≤ 100000 := by
  have h := Trie.goT_short hw hc allW pl
  simp only [Trie.goT] at h
  have e : allW pl = true := rfl
  rw [if_pos e, ← Trie.goKids_all, List.length_cons] at h
  have h2 : (Trie.goKids allW kids pl i).length ≤ (Trie.goKids allW kids pl 16).length := by
    unfold Trie.goKids
    rw [show (List.finRange 16).take 16 = List.finRange 16 from List.take_of_length_le (by simp)]
    conv => rhs; rw [← List.take_append_drop i (List.finRange 16), List.flatMap_append, List.length_append]
    omega
  omega
end Go.Proofs.YtefcmigbdfeaiaaDoor
