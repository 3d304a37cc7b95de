import Derived.Test.YtefcmigbdfeaiaaDoorJ01
import Derived.Test.YtefcmigbdfeaiaaDoorJ08
set_option linter.unusedSimpArgs false
set_option linter.unusedVariables false
namespace Go.Proofs.YtefcmigbdfeaiaaDoor
set_option linter.unusedVariables false
open Go.RowKit Go.Instr
attribute [local go_sem] ba_get ByteArray.mk_append_mk
theorem extract_drop (s : List UInt8) (c : Nat) : (ByteArray.mk s.toArray).extract c (ByteArray.mk s.toArray).size = ⟨(s.drop c).toArray⟩ := by
  apply ByteArray.ext
  rw [ByteArray.data_extract]
  show s.toArray.extract c s.toArray.size = _
  rw [List.extract_toArray]
  simp [List.take_of_length_le]
theorem extract_take (s : List UInt8) (c : Nat) : (ByteArray.mk s.toArray).extract 0 c = ⟨(s.take c).toArray⟩ := by
  apply ByteArray.ext
  rw [ByteArray.data_extract]
  show s.toArray.extract 0 c = _
  rw [List.extract_toArray]
  simp
theorem run_drop (s : List UInt8) (c : Nat) (h : c ≤ s.length) (w : World) : (Instr.slice 9 (.string ⟨s.toArray⟩) (some (.int .i64 (c : Int))) none none).run Tryd.prog w = .ok (.string ⟨(s.drop c).toArray⟩) w := by
  have := run_slice_string_l (P := Tryd.prog) (t := 9) (s := ⟨s.toArray⟩) (w := w) Tryd.underlying9 .i64 (c : Int) (by omega) (by show (c : Int) ≤ (s.toArray.size : Nat); simp; omega)
  rwa [show ((c : Int)).toNat = c by omega, extract_drop] at this
theorem run_take (s : List UInt8) (c : Nat) (h : c ≤ s.length) (w : World) : (Instr.slice 9 (.string ⟨s.toArray⟩) none (some (.int .i64 (c : Int))) none).run Tryd.prog w = .ok (.string ⟨(s.take c).toArray⟩) w := by
  have := run_slice_string_h (P := Tryd.prog) (t := 9) (s := ⟨s.toArray⟩) (w := w) Tryd.underlying9 .i64 (c : Int) (by omega) (by show (c : Int) ≤ (s.toArray.size : Nat); simp; omega)
  rwa [show ((c : Int)).toNat = c by omega, extract_take] at this
theorem run_tail (b : UInt8) (r : List UInt8) (w : World) : (Instr.slice 9 (.string ⟨(b :: r).toArray⟩) (some (.int .i64 1)) none none).run Tryd.prog w = .ok (.string ⟨r.toArray⟩) w := run_drop (b :: r) 1 (by simp) w
end Go.Proofs.YtefcmigbdfeaiaaDoor

namespace Go.Proofs.YtefcmigbdfeaiaaDoor
set_option linter.unusedVariables false
open Go.RowKit Go.Instr
attribute [local go_sem] ba_get ByteArray.mk_append_mk
theorem extract_mid (s : List UInt8) (a n : Nat) : (ByteArray.mk s.toArray).extract a (a + n) = ⟨((s.drop a).take n).toArray⟩ := by
  apply ByteArray.ext
  rw [ByteArray.data_extract]
  show s.toArray.extract a (a + n) = _
  rw [List.extract_toArray]
  simp
def RdB (w : World) (g : Nat) (all : List UInt8) (at_ code : Nat) : Prop := Blk w g 167 #[.string ⟨all.toArray⟩, .int .i64 (at_ : Int), .int .i64 (code : Int)]
theorem RdB.cells {w : World} {g : Nat} {all : List UInt8} {a c : Nat} (h : RdB w g all a c) : w.cell? ⟨g, 0, none⟩ = some (.string ⟨all.toArray⟩) ∧ w.cell? ⟨g, 1, none⟩ = some (.int .i64 (a : Int)) ∧ w.cell? ⟨g, 2, none⟩ = some (.int .i64 (c : Int)) ∧ w.frozen? ⟨g, 1, none⟩ = false ∧ w.frozen? ⟨g, 2, none⟩ = false :=
  ⟨Blk.cell h 0, Blk.cell h 1, Blk.cell h 2, Blk.frozen h 1, Blk.frozen h 2⟩
theorem code_Read (all : List UInt8) (w : World) :
    Calls Tryd.prog 100 #[.string ⟨all.toArray⟩] w fun e w' => e = .returned (.pointer (some ⟨w.heap.size, 0, none⟩)) ∧ w' = w.alloc (.cells #[.string ⟨all.toArray⟩, .int .i64 0, .int .i64 0] 167) := by
  go_enter Tryd.func100, Tryd.ntmps100
  go_wp2
  go_ret
  exact ⟨rfl, rfl⟩
def RdEnd (w : World) (g : Nat) (all : List UInt8) (v : Value) (at_ code : Nat) (e : Ending) (w' : World) : Prop := e = .returned v ∧ RdB w' g all at_ code ∧ w.grownBy w' (some g)
theorem code_refused (w : World) (g : Nat) (all : List UInt8) (a c : Nat) (h : RdB w g all a c) (from_ e : Nat) :
    Calls Tryd.prog 127 #[.pointer (some ⟨g, 0, none⟩), .int .i64 (from_ : Int), .int .i64 (e : Int)] w (RdEnd w g all (.tuple #[]) (if c = 0 then from_ else a) (if c = 0 then e else c)) := by
  obtain ⟨c0, c1, c2, f1, f2⟩ := h.cells
  have HH := Lib.hid h
  by_cases hc : c = 0
  · subst hc
    rw [if_pos rfl, if_pos rfl]
    have HP : Hid (∀ w', RdB w' g all from_ e → w.grownBy w' (some g) → RdEnd w g all (.tuple #[]) from_ e (.returned (.tuple #[])) w') := Lib.hid (fun w' a b => ⟨rfl, a, b⟩)
    generalize RdEnd w g all (.tuple #[]) from_ e = P at HP ⊢
    clear h
    go_enter Tryd.func127, Tryd.ntmps127
    go_wp2
    go_end0
    refine HP.out _ ?_ ?_
    · exact (Blk.set_ (Blk.set_ HH.out 1 (.int .i64 (from_ : Int))) 2 (.int .i64 (e : Int)))
    · exact grown_set0 (grown_set0 (World.grownBy.refl _ _) _ _) _ _
  · rw [if_neg hc, if_neg hc]
    have HP : Hid (∀ w', RdB w' g all a c → w.grownBy w' (some g) → RdEnd w g all (.tuple #[]) a c (.returned (.tuple #[])) w') := Lib.hid (fun w' a b => ⟨rfl, a, b⟩)
    generalize RdEnd w g all (.tuple #[]) a c = P at HP ⊢
    have hc1 : ((c : Int) == 0) = false := by simp; exact hc
    clear h hc
    go_enter Tryd.func127, Tryd.ntmps127
    go_wp2
    go_end0
    exact HP.out _ HH.out (World.grownBy.refl _ _)
theorem code_Left (w : World) (g : Nat) (all : List UInt8) (a c : Nat) (h : RdB w g all a c) (hl : all.length ≤ 1000000) (ha : a ≤ all.length) :
    Calls Tryd.prog 129 #[.pointer (some ⟨g, 0, none⟩)] w (RdEnd w g all (.int .i64 ((all.length - a : Nat) : Int)) a c) := by
  obtain ⟨c0, c1, c2, f1, f2⟩ := h.cells
  have HH := Lib.hid h
  have hv : IntKind.i64.wrap ((all.length : Int) - a) = ((all.length - a : Nat) : Int) := by rw [IntWalk.i64_in _ (by omega)]; omega
  have HP : Hid (∀ w', RdB w' g all a c → w.grownBy w' (some g) → RdEnd w g all (.int .i64 ((all.length - a : Nat) : Int)) a c (.returned (.int .i64 ((all.length - a : Nat) : Int))) w') := Lib.hid (fun w' a b => ⟨rfl, a, b⟩)
  generalize RdEnd w g all (.int .i64 ((all.length - a : Nat) : Int)) a c = P at HP ⊢
  generalize ((all.length - a : Nat) : Int) = d at *
  clear h
  go_enter Tryd.func129, Tryd.ntmps129
  go_wp2
  go_quiet (fail)
  go_wp2
  exact HP.out _ HH.out ⟨rfl, rfl, rfl, Nat.le_refl _, fun _ _ _ => rfl⟩
set_option maxHeartbeats 1000000 in
theorem code_take (w : World) (g : Nat) (all : List UInt8) (a c : Nat) (h : RdB w g all a c) (hl : all.length ≤ 1000000) (ha : a ≤ all.length) (n : Nat) (hn : n < 9223372036854775808) :
    Calls Tryd.prog 139 #[.pointer (some ⟨g, 0, none⟩), .int .i64 (n : Int)] w (RdEnd w g all (.tuple #[.string ⟨(if n ≤ (all.drop a).length then (all.drop a).take n else []).toArray⟩, .bool (decide (n ≤ (all.drop a).length))]) (if n ≤ (all.drop a).length then a + n else a) c) := by
  obtain ⟨c0, c1, c2, f1, f2⟩ := h.cells
  have HH := Lib.hid h
  have hv : IntKind.i64.wrap ((all.length : Int) - a) = (all.length : Int) - a := IntWalk.i64_in _ (by omega)
  rw [List.length_drop]
  by_cases hle : n ≤ all.length - a
  · rw [if_pos hle, if_pos hle, decide_eq_true hle]
    have HP : Hid (∀ w', RdB w' g all (a + n) c → w.grownBy w' (some g) → RdEnd w g all (.tuple #[.string ⟨((all.drop a).take n).toArray⟩, .bool true]) (a + n) c (.returned (.tuple #[.string ⟨((all.drop a).take n).toArray⟩, .bool true])) w') := Lib.hid (fun w' a b => ⟨rfl, a, b⟩)
    generalize RdEnd w g all (.tuple #[.string ⟨((all.drop a).take n).toArray⟩, .bool true]) (a + n) c = P at HP ⊢
    have hgt : ((all.length : Int) - a < n) = False := by simp; omega
    have hv2 : IntKind.i64.wrap ((a : Int) + n) = (a : Int) + n := IntWalk.i64_in _ (by omega)
    have hr : ∀ W, (Instr.slice 9 (.string ⟨all.toArray⟩) (some (.int .i64 (a : Int))) (some (.int .i64 ((a : Int) + n))) none).run Tryd.prog W = .ok (.string ⟨((all.drop a).take n).toArray⟩) W := fun W => by
      have := run_slice_string_if (P := Tryd.prog) (w := W) 9 ⟨all.toArray⟩ .i64 .i64 (a : Int) ((a : Int) + n) Tryd.underlying9
      rw [if_pos ⟨by omega, by show (a : Int) + n ≤ (all.toArray.size : Nat); simp; omega⟩, if_pos ⟨by omega, by omega⟩] at this
      rwa [show ((a : Int)).toNat = a by omega, show ((a : Int) + n).toNat = a + n by omega, extract_mid] at this
    have hs0 : (a : Int) + n ≤ 1000000 := by omega
    clear h hle
    generalize (all.drop a).take n = piece at *
    go_enter Tryd.func139, Tryd.ntmps139
    go_wp2
    go_quiet (fail)
    go_wp2
    go_quiet (fail)
    go_wp2
    exact HP.out _ (Blk.set_ HH.out 1 (.int .i64 ((a : Int) + n))) (grown_set0 (only_drewN (World.grownBy.refl _ _) _) _ _)
  · rw [if_neg hle, if_neg hle, decide_eq_false hle]
    have HP : Hid (∀ w', RdB w' g all a c → w.grownBy w' (some g) → RdEnd w g all (.tuple #[.string ⟨[].toArray⟩, .bool false]) a c (.returned (.tuple #[.string ⟨#[]⟩, .bool false])) w') := Lib.hid (fun w' a b => ⟨rfl, a, b⟩)
    generalize RdEnd w g all (.tuple #[.string ⟨[].toArray⟩, .bool false]) a c = P at HP ⊢
    have hgt : ((all.length : Int) - a < n) = True := by simp; omega
    clear h hle
    go_enter Tryd.func139, Tryd.ntmps139
    go_wp2
    go_quiet (fail)
    go_wp2
    exact HP.out _ HH.out ⟨rfl, rfl, rfl, Nat.le_refl _, fun _ _ _ => rfl⟩
end Go.Proofs.YtefcmigbdfeaiaaDoor

namespace Go.Proofs.YtefcmigbdfeaiaaDoor
set_option linter.unusedVariables false
open Go.RowKit Go.Instr
attribute [local go_sem] ba_get ByteArray.mk_append_mk
theorem valBE_take (b : List UInt8) (i : Nat) (hi : i < b.length) : valBE (b.take (i + 1)) = valBE (b.take i) * 256 + (b.getD i 0).toNat := by
  rw [List.take_succ_eq_append_getElem hi, valBE_snoc, List.getD_eq_getElem?_getD, List.getElem?_eq_getElem hi]
  rfl
theorem valBE_mono (b : List UInt8) : ∀ i, valBE (b.take i) ≤ valBE b := by
  induction b using snoc_ind with
  | h0 => intro i; simp
  | h1 c x ih =>
    intro i
    rw [valBE_snoc]
    by_cases h : i ≤ c.length
    · rw [List.take_append_of_le_length h]
      have := ih i
      omega
    · rw [List.take_of_length_le (by simp; omega), valBE_snoc]
      omega
theorem or_of' {x y : Nat} (k : Nat) (hy : y < 2 ^ k) : x * 2 ^ k ||| y = x * 2 ^ k + y := by
  rw [← Nat.shiftLeft_eq, Nat.shiftLeft_add_eq_or_of_lt hy]
set_option maxRecDepth 100000 in
theorem i64_or_byte (n : Nat) (b : Nat) (hb : b < 256) (h : n * 256 + b < 9223372036854775808) : bits .or .i64 ((n : Int) * 256) (b : Int) = ((n * 256 + b : Nat) : Int) := by
  have e1 : (n : Int) * 256 = ((n * 256 : Nat) : Int) := by omega
  have h1 : n * 256 < 9223372036854775808 := by omega
  have h2 : b < 9223372036854775808 := by omega
  have e3 : (2 : Nat) ^ 8 = 256 := by decide
  have e2 := or_of' (x := n) 8 (y := b) (by rw [e3]; exact hb)
  rw [e3] at e2
  rw [e1, i64_or_nat (n * 256) b h1 h2, e2]
theorem run_byte (l : List UInt8) (i : Nat) (hi : i < l.length) (W : World) : (Instr.index 9 (.string ⟨l.toArray⟩) (.int .i64 (i : Int))).run Tryd.prog W = .ok (.int .u8 ((l.getD i 0).toNat : Int)) W := by
  have hsz : ((i : Int)).toNat < (ByteArray.mk l.toArray).size := by simpa [ByteArray.size] using hi
  rw [run_index_string W 9 ⟨l.toArray⟩ .i64 (i : Int) Tryd.underlying9]
  have e : (ByteArray.mk l.toArray)[((i : Int)).toNat]'hsz = l.getD i 0 := by
    rw [ba_get]
    simp [List.getD_eq_getElem?_getD, hi]
  rw [dif_pos ⟨by omega, by have e2 : (ByteArray.mk l.toArray).size = l.length := by simp [ByteArray.size]
                            omega⟩, e]
set_option maxRecDepth 100000 in
set_option maxHeartbeats 1000000 in
theorem number_loop (b : List UInt8) (hl : b.length ≤ 8) (hv : valBE b < 9223372036854775808) (w0 : World)
    (Q : Exit → Act → World → Prop) (p0 : Value)
    (hQ : ∀ (s1 s2 s3 s4 s5 s6 s8 s9 s10 s11 s12 s13 s14 s15 s16 s17 s18 s19 s20 s21 s22 s23 s24 s25 s26 s27 s28 s29 s30 s31 s32 s33 s34 s35 s36 s37 s38 s39 s40 s41 s42 s43 s44 s45 s46 s47 s48 s49 s50 s51 s52 s53 s54 s55 s56 s57 s58 s59 s60 s61 s62 s63 s64 s65 s66 s67 s68 s69 : Value), Q (.exit 0) { tmps := #[p0, s1, s2, s3, s4, s5, s6, .int .i64 (valBE b : Int), s8, s9, s10, s11, s12, s13, s14, s15, s16, s17, s18, s19, s20, s21, s22, s23, s24, s25, s26, s27, s28, s29, s30, s31, s32, s33, s34, s35, s36, s37, s38, s39, s40, s41, s42, s43, s44, s45, s46, s47, s48, s49, s50, s51, s52, s53, s54, s55, s56, s57, s58, s59, s60, s61, s62, s63, s64, s65, s66, s67, s68, s69], defers := [] } w0)
    (s1 s2 s3 s4 s5 s8 s9 s10 s11 s12 s13 s14 s15 s16 s17 s18 s19 s20 s21 s22 s23 s24 s25 s26 s27 s28 s29 s30 s31 s32 s33 s34 s35 s36 s37 s38 s39 s40 s41 s42 s43 s44 s45 s46 s47 s48 s49 s50 s51 s52 s53 s54 s55 s56 s59 s60 s61 s62 s63 s64 s65 s66 s67 s68 s69 : Value) :
    Code.wp Tryd.prog (.loop (loopAt Tryd.f126 0)) Q { tmps := #[p0, s1, s2, s3, s4, s5, .string ⟨b.toArray⟩, .int .i64 0, s8, s9, s10, s11, s12, s13, s14, s15, s16, s17, s18, s19, s20, s21, s22, s23, s24, s25, s26, s27, s28, s29, s30, s31, s32, s33, s34, s35, s36, s37, s38, s39, s40, s41, s42, s43, s44, s45, s46, s47, s48, s49, s50, s51, s52, s53, s54, s55, s56, .int .i64 b.length, .int .i64 0, s59, s60, s61, s62, s63, s64, s65, s66, s67, s68, s69], defers := [] } w0 := by
  have HQ := Lib.hid hQ
  clear hQ
  refine wp_loop_ghost_k (fun k a wr => ∀ Φ : Act → Prop, (∀ (s1 s2 s3 s4 s5 s8 s9 s10 s11 s12 s13 s14 s15 s16 s17 s18 s19 s20 s21 s22 s23 s24 s25 s26 s27 s28 s29 s30 s31 s32 s33 s34 s35 s36 s37 s38 s39 s40 s41 s42 s43 s44 s45 s46 s47 s48 s49 s50 s51 s52 s53 s54 s55 s56 s59 s60 s61 s62 s63 s64 s65 s66 s67 s68 s69 : Value) (i n : Nat), (i + k = b.length ∧ valBE (b.take i) = n ∧ wr = w0) → Φ { tmps := #[p0, s1, s2, s3, s4, s5, .string ⟨b.toArray⟩, .int .i64 (n : Int), s8, s9, s10, s11, s12, s13, s14, s15, s16, s17, s18, s19, s20, s21, s22, s23, s24, s25, s26, s27, s28, s29, s30, s31, s32, s33, s34, s35, s36, s37, s38, s39, s40, s41, s42, s43, s44, s45, s46, s47, s48, s49, s50, s51, s52, s53, s54, s55, s56, .int .i64 b.length, .int .i64 (i : Int), s59, s60, s61, s62, s63, s64, s65, s66, s67, s68, s69], defers := [] }) → Φ a) (b.length) ?_ ?_
  · refine fun Φ hΦ => hΦ _ _ _ _ _ _ _ _ _ _ _ _ _ _ _ _ _ _ _ _ _ _ _ _ _ _ _ _ _ _ _ _ _ _ _ _ _ _ _ _ _ _ _ _ _ _ _ _ _ _ _ _ _ _ _ _ _ _ _ _ _ _ _ _ _ (0) (0) ?_
    exact ⟨by omega, by simp [valBE], rfl⟩
  · intro k1 a1 wr1 hI1 J1 K1 hJ1 hK1
    refine hI1 (fun a => Code.wp _ _ _ a _) ?_
    clear hI1 a1
    intro s0 s1 s2 s3 s4 s5 s6 s7 s8 s9 s10 s11 s12 s13 s14 s15 s16 s17 s18 s19 s20 s21 s22 s23 s24 s25 s26 s27 s28 s29 s30 s31 s32 s33 s34 s35 s36 s37 s38 s39 s40 s41 s42 s43 s44 s45 s46 s47 s48 s49 s50 s51 s52 s53 s54 s55 s56 s57 s58 s59 s60 s61 s62 s63 s64 i n hrel
    show Code.wp _ _ _ _ _
    conv => arg 2; whnf
    obtain ⟨h1, h2, rfl⟩ := hrel
    by_cases hi : i < b.length
    · have h3 := valBE_take b i hi
      have h4 := valBE_mono b (i + 1)
      have hx := (b.getD i 0).toNat_lt
      have HN : Hid (valBE (b.take (i + 1)) = n * 256 + (b.getD i 0).toNat) := Lib.hid (by rw [h3, h2])
      have hsum : n * 256 + (b.getD i 0).toNat < 9223372036854775808 := by rw [h2] at h3; omega
      have hor := i64_or_byte n (b.getD i 0).toNat (by omega) hsum
      have hix := fun W => run_byte b i hi W
      have HI := Lib.hid h1
      have hi1 : (i : Int) < b.length := by omega
      have hi0 : (0 : Int) ≤ i := by omega
      have hl8 : (b.length : Int) ≤ 8 := by omega
      have hn0 : (0 : Int) ≤ n := by omega
      have hn1 : (n : Int) ≤ 36028797018963967 := by omega
      clear h1 h2 h3 h4
      generalize b.getD i 0 = x at *
      go_wp2_with fail
      refine Handed.intro (b.length - (i + 1)) ?_ (hJ1 _ _ _ (fun Φ hΦ => hΦ _ _ _ _ _ _ _ _ _ _ _ _ _ _ _ _ _ _ _ _ _ _ _ _ _ _ _ _ _ _ _ _ _ _ _ _ _ _ _ _ _ _ _ _ _ _ _ _ _ _ _ _ _ _ _ _ _ _ _ _ _ _ _ _ _ (i + 1) (n * 256 + x.toNat) ?_))
      · have := HI.out
        show b.length - (i + 1) < k1
        omega
      · have := HI.out
        exact ⟨by omega, HN.out, rfl⟩
    · have e : b.take i = b := List.take_of_length_le (by omega)
      rw [e] at h2
      subst h2
      have hi2 : ((i : Int) < b.length) = False := by simp; omega
      clear h1 hi e
      go_wp2_with fail
      exact HQ.out _ _ _ _ _ _ _ _ _ _ _ _ _ _ _ _ _ _ _ _ _ _ _ _ _ _ _ _ _ _ _ _ _ _ _ _ _ _ _ _ _ _ _ _ _ _ _ _ _ _ _ _ _ _ _ _ _ _ _ _ _ _ _ _ _ _ _ _
end Go.Proofs.YtefcmigbdfeaiaaDoor
