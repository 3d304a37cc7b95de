import Derived.Test.YtaplecncnkkigaaDoorC11
import Derived.Test.YtaplecncnkkigaaDoorC09
import Derived.Test.YtaplecncnkkigaaDoorC01
import Derived.Test.YtaplecncnkkigaaDoorC10
/- The document's layer 2 (code): take, text. No conditions. -/
namespace Go.Proofs.YtaplecncnkkigaaDoor
set_option linter.unusedVariables false
open Go.RowKit Go.Instr
attribute [local go_sem] ba_get ByteArray.mk_append_mk

set_option maxRecDepth 100000 in
set_option maxHeartbeats 1000000 in
theorem take_loop (h : UInt8) (r : List UInt8) (K : Nat) (hk : K ≤ r.length) (hk8 : K ≤ 8) (hv : valBE (r.take K) < 9223372036854775808) (w0 : World)
    (Q : Exit → Act → World → Prop)
    (hQ : ∀ (s1 s2 s3 s4 s7 s8 s9 s10 s11 s12 s13 s14 s15 s16 s17 s18 s19 s20 s21 s22 s23 s24 s25 s26 s27 s28 s29 s30 s31 s32 s33 s34 s35 s36 s37 s38 s39 s40 s41 s42 s43 s44 s45 s46 s47 s48 s49 s50 s51 s52 : Value), Q (.exit 0) { tmps := #[.string ⟨(h :: r).toArray⟩, s1, s2, s3, s4, .int .i64 (K : Int), .int .i64 (valBE (r.take K) : Int), s7, s8, s9, s10, s11, s12, s13, s14, s15, s16, s17, s18, s19, s20, s21, s22, s23, s24, s25, s26, s27, s28, s29, s30, s31, s32, s33, s34, s35, s36, s37, s38, s39, s40, s41, s42, s43, s44, s45, s46, s47, s48, s49, s50, s51, s52], defers := [] } w0)
    (s1 s2 s3 s4 s8 s9 s10 s11 s12 s13 s14 s15 s16 s17 s18 s19 s20 s21 s22 s23 s24 s25 s26 s27 s28 s29 s30 s31 s32 s33 s34 s35 s36 s37 s38 s39 s40 s41 s42 s43 s44 s45 s46 s47 s48 s49 s50 s51 s52 : Value) :
    Code.wp Tryd.prog (.loop (loopAt Tryd.f103 0)) Q { tmps := #[.string ⟨(h :: r).toArray⟩, s1, s2, s3, s4, .int .i64 (K : Int), .int .i64 0, .int .i64 1, s8, s9, s10, s11, s12, s13, s14, s15, s16, s17, s18, s19, s20, s21, s22, s23, s24, s25, s26, s27, s28, s29, s30, s31, s32, s33, s34, s35, s36, s37, s38, s39, s40, s41, s42, s43, s44, s45, s46, s47, s48, s49, s50, s51, s52], defers := [] } w0 := by
  have HQ := Lib.hid hQ
  clear hQ
  refine wp_loop_ghost_k (fun k a wr => ∀ Φ : Act → Prop, (∀ (s1 s2 s3 s4 s8 s9 s10 s11 s12 s13 s14 s15 s16 s17 s18 s19 s20 s21 s22 s23 s24 s25 s26 s27 s28 s29 s30 s31 s32 s33 s34 s35 s36 s37 s38 s39 s40 s41 s42 s43 s44 s45 s46 s47 s48 s49 s50 s51 s52 : Value) (i n : Nat), (i + k = K ∧ valBE (r.take i) = n ∧ wr = w0) → Φ { tmps := #[.string ⟨(h :: r).toArray⟩, s1, s2, s3, s4, .int .i64 (K : Int), .int .i64 (n : Int), .int .i64 ((i + 1 : Nat) : Int), s8, s9, s10, s11, s12, s13, s14, s15, s16, s17, s18, s19, s20, s21, s22, s23, s24, s25, s26, s27, s28, s29, s30, s31, s32, s33, s34, s35, s36, s37, s38, s39, s40, s41, s42, s43, s44, s45, s46, s47, s48, s49, s50, s51, s52], defers := [] }) → Φ a) (K) ?_ ?_
  · refine fun Φ hΦ => hΦ _ _ _ _ _ _ _ _ _ _ _ _ _ _ _ _ _ _ _ _ _ _ _ _ _ _ _ _ _ _ _ _ _ _ _ _ _ _ _ _ _ _ _ _ _ _ _ _ _ (0) (0) ?_
    exact ⟨by omega, by simp [valBE], rfl⟩
  · intro k1 a1 wr1 hI1 J1 K1 hJ1 hK1
    refine hI1 (fun a => Code.wp _ _ _ a _) ?_
    clear hI1 a1
    intro s0 s1 s2 s3 s4 s5 s6 s7 s8 s9 s10 s11 s12 s13 s14 s15 s16 s17 s18 s19 s20 s21 s22 s23 s24 s25 s26 s27 s28 s29 s30 s31 s32 s33 s34 s35 s36 s37 s38 s39 s40 s41 s42 s43 s44 s45 s46 s47 s48 i n hrel
    show Code.wp _ _ _ _ _
    conv => arg 2; whnf
    obtain ⟨h1, h2, rfl⟩ := hrel
    by_cases hi : i < K
    · have hir : i < r.length := by omega
      have h3 := valBE_take r i hir
      have h4 : valBE (r.take (i + 1)) ≤ valBE (r.take K) := by
        have := valBE_mono (r.take K) (i + 1)
        rwa [List.take_take, show min (i + 1) K = i + 1 by omega] at this
      have hx := (r.getD i 0).toNat_lt
      have HN : Hid (valBE (r.take (i + 1)) = n * 256 + (r.getD i 0).toNat) := Lib.hid (by rw [h3, h2])
      have hsum : n * 256 + (r.getD i 0).toNat < 9223372036854775808 := by rw [h2] at h3; omega
      have hix := fun W => run_byte (h :: r) (i + 1) (by simp; omega) W
      rw [show (h :: r).getD (i + 1) 0 = r.getD i 0 by simp [List.getD_eq_getElem?_getD]] at hix
      have HI := Lib.hid h1
      have hi1 : ((i + 1 : Nat) : Int) ≤ K := by omega
      have hmul : wrap64 ((n : Int) * 256) = (n : Int) * 256 := IntWalk.wrap64_in _ (by omega)
      have hadd : wrap64 ((n : Int) * 256 + ((r.getD i 0).toNat : Int)) = ((n * 256 + (r.getD i 0).toNat : Nat) : Int) := by rw [IntWalk.wrap64_in _ (by omega)]; omega
      have hinc : wrap64 (((i + 1 : Nat) : Int) + 1) = ((i + 1 + 1 : Nat) : Int) := by rw [IntWalk.wrap64_in _ (by omega)]; omega
      clear h1 h2 h3 h4 hir hsum
      generalize r.getD i 0 = x at *
      generalize hii : i + 1 = ii at *
      go_wp2_with fail
      have q1 : ((n : Int) * 256 + (x.toNat : Int)) = ((n * 256 + x.toNat : Nat) : Int) := by omega
      have q2 : ((ii : Int) + 1) = ((ii + 1 : Nat) : Int) := by omega
      rw [q1, q2]
      subst hii
      refine Handed.intro (K - (i + 1)) ?_ (hJ1 _ _ _ (fun Φ hΦ => hΦ _ _ _ _ _ _ _ _ _ _ _ _ _ _ _ _ _ _ _ _ _ _ _ _ _ _ _ _ _ _ _ _ _ _ _ _ _ _ _ _ _ _ _ _ _ _ _ _ _ (i + 1) (n * 256 + x.toNat) ?_))
      · have := HI.out
        show K - (i + 1) < k1
        omega
      · have := HI.out
        exact ⟨by omega, HN.out, rfl⟩
    · have e : i = K := by omega
      subst e
      subst h2
      have hi2 : (((i + 1 : Nat) : Int) ≤ (i : Int)) = False := by simp; omega
      generalize hii : i + 1 = ii at *
      clear h1 hi
      go_wp2_with fail
      exact HQ.out _ _ _ _ _ _ _ _ _ _ _ _ _ _ _ _ _ _ _ _ _ _ _ _ _ _ _ _ _ _ _ _ _ _ _ _ _ _ _ _ _ _ _ _ _ _ _ _ _ _

def TakeEnd (w : World) (r : Nat × List UInt8 × Nat) (e : Ending) (w' : World) : Prop := e = .returned (.tuple #[.int .i64 (r.1 : Int), .string ⟨r.2.1.toArray⟩, .int .i64 (r.2.2 : Int)]) ∧ Below w.heap.size w w'
set_option maxRecDepth 100000 in
set_option maxHeartbeats 1000000 in
theorem ref02_take (s : List UInt8) (hs : s.length ≤ 1000000) (w : World) :
    Calls Tryd.prog 103 #[.string ⟨s.toArray⟩] w (TakeEnd w (numT s)) := by
  have HP : Hid (∀ (n : Nat) (rest : List UInt8) (c : Nat) w', numT s = (n, rest, c) → Below w.heap.size w w' → TakeEnd w (numT s) (.returned (.tuple #[.int .i64 (n : Int), .string ⟨rest.toArray⟩, .int .i64 (c : Int)])) w') := Lib.hid (fun n rest c w' e h => by rw [e]; exact ⟨rfl, h⟩)
  generalize TakeEnd w (numT s) = P at HP ⊢
  cases s with
  | nil =>
    have HE : Hid (numT [] = (0, [], 20)) := Lib.hid rfl
    go_enter Tryd.func103, Tryd.ntmps103
    go_wp2
    exact HP.out 0 [] 20 _ HE.out (Below.refl _ _)
  | cons h r =>
    have hE := numT_cons h r
    have hrl : r.length + 1 ≤ 1000000 := by simpa using hs
    have hix := fun W => run_byte (h :: r) 0 (by simp) W
    simp only [List.getD_cons_zero] at hix
    have h256 := h.toNat_lt
    clear hs
    by_cases h8 : 8 < h.toNat
    · have HE : Hid (numT (h :: r) = (0, [], 3)) := Lib.hid (by rw [hE, if_pos h8])
      have h8I : (8 : Int) < (h.toNat : Int) := by omega
      clear hE h8
      go_enter Tryd.func103, Tryd.ntmps103
      go_wp2
      exact HP.out 0 [] 3 _ HE.out (Below.refl _ _)
    have h8I : ((8 : Int) < (h.toNat : Int)) = False := by simp; omega
    rw [if_neg h8] at hE
    have hadd : wrap64 ((h.toNat : Int) + 1) = (h.toNat : Int) + 1 := IntWalk.wrap64_in _ (by omega)
    by_cases hlt : r.length < h.toNat
    · have HE : Hid (numT (h :: r) = (0, [], 20)) := Lib.hid (by rw [hE, if_pos hlt])
      have hlI : ((r.length : Int) + 1 < (h.toNat : Int) + 1) := by omega
      have hlI2 : ((r.length : Int) < (h.toNat : Int)) := by omega
      clear hE h8 hlt
      go_enter Tryd.func103, Tryd.ntmps103
      go_wp2
      exact HP.out 0 [] 20 _ HE.out (Below.refl _ _)
    have hle : h.toNat ≤ r.length := by omega
    have hlI : ((r.length : Int) + 1 < (h.toNat : Int) + 1) = False := by simp; omega
    have hlI2 : ((r.length : Int) < (h.toNat : Int)) = False := by simp; omega
    rw [if_neg hlt] at hE
    by_cases hz : h.toNat = 0
    · have HE : Hid (numT (h :: r) = (valBE (r.take h.toNat), r.drop h.toNat, 0)) := Lib.hid (by rw [hE, if_neg (by omega)])
      have hz1 : ((0 : Int) < (h.toNat : Int)) = False := by simp; omega
      have hz2 : ((h.toNat : Int) == 8) = false := by rw [beq_eq_false_iff_ne]; omega
      have hz3 : (0 < h.toNat) = False := by simp; omega
      clear hE hlt hz
      have HRd := Lib.hid (fun W => run_drop (h :: r) (h.toNat + 1) (by simp; omega) W)
      have hrd := HRd.out
      rw [show ((h.toNat + 1 : Nat) : Int) = (h.toNat : Int) + 1 by omega, List.drop_succ_cons] at hrd
      have HTk := Lib.hid (numT_lt (s := h :: r) (n := valBE (r.take h.toNat)) (r := r.drop h.toNat) HE.out)
      have HLe := Lib.hid hle
      have HK8 := Lib.hid (show h.toNat ≤ 8 by omega)
      clear HRd
      go_enter Tryd.func103, Tryd.ntmps103
      go_wp2_with fail
      refine take_loop h r h.toNat HLe.out HK8.out HTk.out _ _ ?_ _ _ _ _ _ _ _ _ _ _ _ _ _ _ _ _ _ _ _ _ _ _ _ _ _ _ _ _ _ _ _ _ _ _ _ _ _ _ _ _ _ _ _ _ _ _ _ _ _
      intro s1 s2 s3 s4 s7 s8 s9 s10 s11 s12 s13 s14 s15 s16 s17 s18 s19 s20 s21 s22 s23 s24 s25 s26 s27 s28 s29 s30 s31 s32 s33 s34 s35 s36 s37 s38 s39 s40 s41 s42 s43 s44 s45 s46 s47 s48 s49 s50 s51 s52
      have HF := Lib.hid (fun W => HP.out _ _ 0 W HE.out)
      clear HE HTk
      generalize valBE _ = v at HF ⊢
      go_wp2
      go_quiet (fail)
      go_wp2
      exact HF.out _ ⟨rfl, rfl, rfl, Nat.le_refl _, fun _ _ => rfl⟩
    have hz1 : (0 : Int) < (h.toNat : Int) := by omega
    have hjx : ∀ W, (Instr.index 9 (.string ⟨(h :: r).toArray⟩) (.int .i64 1)).run Tryd.prog W = .ok (.int .u8 ((r.getD 0 0).toNat : Int)) W := fun W => by
      have := run_byte (h :: r) 1 (by simp; omega) W
      rw [show (h :: r).getD 1 0 = r.getD 0 0 by simp [List.getD_eq_getElem?_getD]] at this
      exact this
    have hx256 := (r.getD 0 0).toNat_lt
    obtain ⟨x, hx⟩ : ∃ x, r.getD 0 0 = x := ⟨_, rfl⟩
    rw [hx] at hE hjx hx256
    clear hx
    by_cases hx0 : x = 0
    · have HE : Hid (numT (h :: r) = (0, [], 3)) := Lib.hid (by rw [hE, if_pos (.inl ⟨by omega, hx0⟩)])
      have hxz : ((x.toNat : Int) == 0) = true := by simp [hx0]
      clear hE h8 hlt hx0
      go_enter Tryd.func103, Tryd.ntmps103
      go_wp2
      exact HP.out 0 [] 3 _ HE.out (Below.refl _ _)
    have hxz : ((x.toNat : Int) == 0) = false := by
      simp; intro e; exact hx0 (UInt8.toNat_inj.1 e)
    by_cases h88 : h.toNat = 8
    · have h88I : ((h.toNat : Int) == 8) = true := by rw [beq_iff_eq]; omega
      by_cases h128 : 128 ≤ x.toNat
      · have HE : Hid (numT (h :: r) = (0, [], 3)) := Lib.hid (by rw [hE, if_pos (.inr ⟨h88, h128⟩)])
        have h9 : (127 : Int) < x.toNat := by omega
        clear hE h8 hlt hx0 h128 h88
        go_enter Tryd.func103, Tryd.ntmps103
        go_wp2
        exact HP.out 0 [] 3 _ HE.out (Below.refl _ _)
      · have HE : Hid (numT (h :: r) = (valBE (r.take h.toNat), r.drop h.toNat, 0)) := Lib.hid (by rw [hE, if_neg]; rintro (⟨_, q⟩ | ⟨_, q⟩); exact hx0 q; exact h128 q)
        have h9 : ((127 : Int) < x.toNat) = False := by simp; omega
        clear hE hlt hx0 h128 h88
        have HRd := Lib.hid (fun W => run_drop (h :: r) (h.toNat + 1) (by simp; omega) W)
        have hrd := HRd.out
        rw [show ((h.toNat + 1 : Nat) : Int) = (h.toNat : Int) + 1 by omega, List.drop_succ_cons] at hrd
        have HTk := Lib.hid (numT_lt (s := h :: r) (n := valBE (r.take h.toNat)) (r := r.drop h.toNat) HE.out)
        have HLe := Lib.hid hle
        have HK8 := Lib.hid (show h.toNat ≤ 8 by omega)
        clear HRd
        go_enter Tryd.func103, Tryd.ntmps103
        go_wp2_with fail
        refine take_loop h r h.toNat HLe.out HK8.out HTk.out _ _ ?_ _ _ _ _ _ _ _ _ _ _ _ _ _ _ _ _ _ _ _ _ _ _ _ _ _ _ _ _ _ _ _ _ _ _ _ _ _ _ _ _ _ _ _ _ _ _ _ _ _
        intro s1 s2 s3 s4 s7 s8 s9 s10 s11 s12 s13 s14 s15 s16 s17 s18 s19 s20 s21 s22 s23 s24 s25 s26 s27 s28 s29 s30 s31 s32 s33 s34 s35 s36 s37 s38 s39 s40 s41 s42 s43 s44 s45 s46 s47 s48 s49 s50 s51 s52
        have HF := Lib.hid (fun W => HP.out _ _ 0 W HE.out)
        clear HE HTk
        generalize valBE _ = v at HF ⊢
        go_wp2
        go_quiet (fail)
        go_wp2
        exact HF.out _ ⟨rfl, rfl, rfl, Nat.le_refl _, fun _ _ => rfl⟩
    · have h88I : ((h.toNat : Int) == 8) = false := by rw [beq_eq_false_iff_ne]; omega
      have HE : Hid (numT (h :: r) = (valBE (r.take h.toNat), r.drop h.toNat, 0)) := Lib.hid (by rw [hE, if_neg]; rintro (⟨_, q⟩ | ⟨q, _⟩); exact hx0 q; exact h88 q)
      clear hE hlt hx0
      have HRd := Lib.hid (fun W => run_drop (h :: r) (h.toNat + 1) (by simp; omega) W)
      have hrd := HRd.out
      rw [show ((h.toNat + 1 : Nat) : Int) = (h.toNat : Int) + 1 by omega, List.drop_succ_cons] at hrd
      have HTk := Lib.hid (numT_lt (s := h :: r) (n := valBE (r.take h.toNat)) (r := r.drop h.toNat) HE.out)
      have HLe := Lib.hid hle
      have HK8 := Lib.hid (show h.toNat ≤ 8 by omega)
      clear HRd
      go_enter Tryd.func103, Tryd.ntmps103
      go_wp2_with fail
      refine take_loop h r h.toNat HLe.out HK8.out HTk.out _ _ ?_ _ _ _ _ _ _ _ _ _ _ _ _ _ _ _ _ _ _ _ _ _ _ _ _ _ _ _ _ _ _ _ _ _ _ _ _ _ _ _ _ _ _ _ _ _ _ _ _ _
      intro s1 s2 s3 s4 s7 s8 s9 s10 s11 s12 s13 s14 s15 s16 s17 s18 s19 s20 s21 s22 s23 s24 s25 s26 s27 s28 s29 s30 s31 s32 s33 s34 s35 s36 s37 s38 s39 s40 s41 s42 s43 s44 s45 s46 s47 s48 s49 s50 s51 s52
      have HF := Lib.hid (fun W => HP.out _ _ 0 W HE.out)
      clear HE HTk
      generalize valBE _ = v at HF ⊢
      go_wp2
      go_quiet (fail)
      go_wp2
      exact HF.out _ ⟨rfl, rfl, rfl, Nat.le_refl _, fun _ _ => rfl⟩
end Go.Proofs.YtaplecncnkkigaaDoor

/- The document's layer 2 (code): text; its reader's Num and Text. No conditions. -/
namespace Go.Proofs.YtaplecncnkkigaaDoor
set_option linter.unusedVariables false
open Go.RowKit Go.Instr
attribute [local go_sem] ba_get ByteArray.mk_append_mk

def RTextEnd (w : World) (r : List UInt8 × List UInt8 × Nat) (e : Ending) (w' : World) : Prop := e = .returned (.tuple #[.string ⟨r.1.toArray⟩, .string ⟨r.2.1.toArray⟩, .int .i64 (r.2.2 : Int)]) ∧ Below w.heap.size w w'
theorem Below.same_ {a b c : World} (h : Below a.heap.size a b) (n : Nat) (e : c = b.drewN n) : Below a.heap.size a c := by subst e; exact ⟨h.os, h.tape, h.output, h.size, h.block⟩
set_option maxRecDepth 100000 in
set_option maxHeartbeats 1000000 in
theorem ref02_text (s : List UInt8) (hs : s.length ≤ 1000000) (most : Nat) (hm : most ≤ 1000000) (w : World) :
    Calls Tryd.prog 104 #[.string ⟨s.toArray⟩, .int .i64 (most : Int)] w (RTextEnd w (txtT s most)) := by
  have HP : Hid (∀ (t rest : List UInt8) (c : Nat) w', txtT s most = (t, rest, c) → Below w.heap.size w w' → RTextEnd w (txtT s most) (.returned (.tuple #[.string ⟨t.toArray⟩, .string ⟨rest.toArray⟩, .int .i64 (c : Int)])) w') := Lib.hid (fun n rest c w' e h => by rw [e]; exact ⟨rfl, h⟩)
  have HX : Hid (txtT s most = if (numT s).2.2 ≠ 0 then ([], [], (numT s).2.2) else if most < (numT s).1 then ([], [], 2) else if (numT s).2.1.length < (numT s).1 then ([], [], 20)
    else ((numT s).2.1.take (numT s).1, (numT s).2.1.drop (numT s).1, 0)) := Lib.hid rfl
  have HN := Lib.hid (ref02_take s hs w)
  generalize RTextEnd w (txtT s most) = P at HP ⊢
  generalize txtT s most = X at HP HX
  generalize numT s = Y at *
  obtain ⟨n, rest, c⟩ := Y
  simp only at HX
  clear hs
  by_cases hc : c = 0
  · subst hc
    by_cases hmn : most < n
    · have HE : Hid (X = ([], [], 2)) := Lib.hid (by rw [HX.out, if_neg (by simp), if_pos hmn])
      have h1 : (most : Int) < (n : Int) := by omega
      clear HX hmn
      go_enter Tryd.func104, Tryd.ntmps104
      go_wp2_with fail
      refine HN.out.mono ?_
      rintro e w1 ⟨rfl, hb⟩
      have HB := Lib.hid hb
      clear hb
      go_wp2
      exact HP.out _ _ 2 _ HE.out HB.out
    · have h1 : ((most : Int) < (n : Int)) = False := by simp; omega
      by_cases hrn : rest.length < n
      · have HE : Hid (X = ([], [], 20)) := Lib.hid (by rw [HX.out, if_neg (by simp), if_neg hmn, if_pos hrn])
        have h2 : (rest.length : Int) < (n : Int) := by omega
        clear HX hmn hrn
        go_enter Tryd.func104, Tryd.ntmps104
        go_wp2_with fail
        refine HN.out.mono ?_
        rintro e w1 ⟨rfl, hb⟩
        have HB := Lib.hid hb
        clear hb
        go_wp2
        exact HP.out _ _ 20 _ HE.out HB.out
      · have HE : Hid (X = (rest.take n, rest.drop n, 0)) := Lib.hid (by rw [HX.out, if_neg (by simp), if_neg hmn, if_neg hrn])
        have h2 : ((rest.length : Int) < (n : Int)) = False := by simp; omega
        have t1 := run_take rest n (by omega)
        have t2 := run_drop rest n (by omega)
        clear HX hmn hrn
        generalize rest.take n = pc at *
        generalize rest.drop n = pd at *
        go_enter Tryd.func104, Tryd.ntmps104
        go_wp2_with fail
        refine HN.out.mono ?_
        rintro e w1 ⟨rfl, hb⟩
        have HB := Lib.hid hb
        clear hb
        go_wp2
        go_quiet (fail)
        go_wp2
        exact HP.out _ _ 0 _ HE.out ⟨HB.out.os, HB.out.tape, HB.out.output, HB.out.size, HB.out.block⟩
  · have HE : Hid (X = ([], [], c)) := Lib.hid (by rw [HX.out, if_pos hc])
    have hc1 : ((c : Int) != 0) = true := by simp; exact hc
    clear HX hc
    go_enter Tryd.func104, Tryd.ntmps104
    go_wp2_with fail
    refine HN.out.mono ?_
    rintro e w1 ⟨rfl, hb⟩
    have HB := Lib.hid hb
    clear hb
    go_wp2
    exact HP.out _ _ c _ HE.out HB.out

/-- the document's reader in memory -/
def RRd (w : World) (g : Nat) (s : List UInt8 × Nat) : Prop := Blk w g 117 #[.string ⟨s.1.toArray⟩, .int .i64 (s.2 : Int)] ∧ s.1.length ≤ 1000000
def RRdEnd (w : World) (g : Nat) (v : Value) (s : List UInt8 × Nat) (e : Ending) (w' : World) : Prop := e = .returned v ∧ RRd w' g s ∧ w.grownBy w' (some g)
theorem grown_of_below {a b c : World} {g : Nat} (h : Below a.heap.size a b) (hg : b.grownBy c (some g)) : a.grownBy c (some g) :=
  ⟨hg.os.trans h.os, hg.tape.trans h.tape, hg.output.trans h.output, Nat.le_trans h.size hg.size, fun k hk hne => (hg.block k (Nat.lt_of_lt_of_le hk h.size) hne).trans (h.block k hk)⟩

set_option maxRecDepth 100000 in
set_option maxHeartbeats 1000000 in
theorem ref02_Num (w : World) (g : Nat) (s : List UInt8 × Nat) (h : RRd w g s) :
    Calls Tryd.prog 78 #[.pointer (some ⟨g, 0, none⟩)] w (RRdEnd w g (.int .i64 ((numS s).1 : Int)) (numS s).2) := by
  obtain ⟨l, c⟩ := s
  obtain ⟨hB, hl⟩ := h
  simp only at hB hl
  have HP : Hid (∀ (n : Nat) s' w', numS (l, c) = (n, s') → RRd w' g s' → w.grownBy w' (some g) → RRdEnd w g (.int .i64 ((numS (l, c)).1 : Int)) (numS (l, c)).2 (.returned (.int .i64 (n : Int))) w') := Lib.hid (fun n s' w' e h1 h2 => by rw [e]; exact ⟨rfl, h1, h2⟩)
  generalize RRdEnd w g (.int .i64 ((numS (l, c)).1 : Int)) (numS (l, c)).2 = P at HP ⊢
  have HB := Lib.hid hB
  have HL := Lib.hid hl
  have c0 : w.cell? ⟨g, 0, none⟩ = some (.string ⟨l.toArray⟩) := hB.cell 0
  have c1 : w.cell? ⟨g, 1, none⟩ = some (.int .i64 (c : Int)) := hB.cell 1
  by_cases hc : c = 0
  · subst hc
    have HT := Lib.hid (ref02_take l hl w)
    have HS : Hid (numS (l, 0) = if (numT l).2.2 = 0 then ((numT l).1, ((numT l).2.1, 0)) else (0, (l, (numT l).2.2))) := Lib.hid (by simp [numS])
    have HLn : Hid ((numT l).2.1.length ≤ l.length) := Lib.hid (by
      cases l with
      | nil => simp [numT]
      | cons a b =>
        rw [numT_cons]
        split
        · simp
        split
        · simp
        split
        · simp
        · simp; omega)
    generalize numT l = Y at *
    obtain ⟨n, rest, e⟩ := Y
    simp only at HS HLn
    clear hB hl
    by_cases he : e = 0
    · subst he
      rw [if_pos rfl] at HS
      go_enter Tryd.func78, Tryd.ntmps78
      go_wp2_with fail
      refine HT.out.mono ?_
      rintro e w1 ⟨rfl, hb⟩
      have HB1 := Lib.hid (HB.out.below hb HB.out.lt)
      have HBl := Lib.hid hb
      have f0 : w1.frozen? ⟨g, 0, none⟩ = false := HB1.out.frozen 0
      have f1 : w1.frozen? ⟨g, 1, none⟩ = false := HB1.out.frozen 1
      have d0 : w1.cell? ⟨g, 0, none⟩ = some (.string ⟨l.toArray⟩) := HB1.out.cell 0
      have d1 : w1.cell? ⟨g, 1, none⟩ = some (.int .i64 0) := HB1.out.cell 1
      clear hb c0 c1
      go_wp2
      exact HP.out _ _ _ HS.out ⟨(HB1.out.set_ 1 (.int .i64 0)).set_ 0 (.string ⟨rest.toArray⟩), Nat.le_trans HLn.out HL.out⟩ (grown_of_below HBl.out (grown_set0 (grown_set0 (World.grownBy.refl _ _) _ _) _ _))
    · rw [if_neg he] at HS
      have he1 : ((e : Int) != 0) = true := by simp; exact he
      clear he
      go_enter Tryd.func78, Tryd.ntmps78
      go_wp2_with fail
      refine HT.out.mono ?_
      rintro e w1 ⟨rfl, hb⟩
      have HB1 := Lib.hid (HB.out.below hb HB.out.lt)
      have HBl := Lib.hid hb
      have f1 : w1.frozen? ⟨g, 1, none⟩ = false := HB1.out.frozen 1
      have d1 : w1.cell? ⟨g, 1, none⟩ = some (.int .i64 0) := HB1.out.cell 1
      clear hb c0 c1
      go_wp2
      exact HP.out 0 _ _ HS.out ⟨HB1.out.set_ 1 (.int .i64 (e : Int)), HL.out⟩ (grown_of_below HBl.out (grown_set0 (World.grownBy.refl _ _) _ _))
  · have HS : Hid (numS (l, c) = (0, (l, c))) := Lib.hid (by simp [numS, hc])
    have hc1 : ((c : Int) != 0) = true := by simp; exact hc
    clear hB hl hc
    go_enter Tryd.func78, Tryd.ntmps78
    go_wp2
    exact HP.out 0 _ _ HS.out ⟨HB.out, HL.out⟩ (World.grownBy.refl _ _)

set_option maxRecDepth 100000 in
set_option maxHeartbeats 1000000 in
theorem ref02_RText (w : World) (g : Nat) (s : List UInt8 × Nat) (h : RRd w g s) (most : Nat) (hm : most ≤ 1000000) :
    Calls Tryd.prog 79 #[.pointer (some ⟨g, 0, none⟩), .int .i64 (most : Int)] w (RRdEnd w g (.string ⟨(txtS s most).1.toArray⟩) (txtS s most).2) := by
  obtain ⟨l, c⟩ := s
  obtain ⟨hB, hl⟩ := h
  simp only at hB hl
  have HP : Hid (∀ (t : List UInt8) s' w', txtS (l, c) most = (t, s') → RRd w' g s' → w.grownBy w' (some g) → RRdEnd w g (.string ⟨(txtS (l, c) most).1.toArray⟩) (txtS (l, c) most).2 (.returned (.string ⟨t.toArray⟩)) w') := Lib.hid (fun n s' w' e h1 h2 => by rw [e]; exact ⟨rfl, h1, h2⟩)
  generalize RRdEnd w g (.string ⟨(txtS (l, c) most).1.toArray⟩) (txtS (l, c) most).2 = P at HP ⊢
  have HB := Lib.hid hB
  have HL := Lib.hid hl
  have c0 : w.cell? ⟨g, 0, none⟩ = some (.string ⟨l.toArray⟩) := hB.cell 0
  have c1 : w.cell? ⟨g, 1, none⟩ = some (.int .i64 (c : Int)) := hB.cell 1
  by_cases hc : c = 0
  · subst hc
    have HT := Lib.hid (ref02_text l hl most hm w)
    have HS : Hid (txtS (l, 0) most = if (txtT l most).2.2 = 0 then ((txtT l most).1, ((txtT l most).2.1, 0)) else ([], (l, (txtT l most).2.2))) := Lib.hid (by simp [txtS])
    have HLn : Hid ((txtT l most).2.1.length ≤ l.length) := Lib.hid (by
      by_cases h0 : (txtT l most).2.2 = 0
      · have := (txtT_back (s := l) (t := (txtT l most).1) (r := (txtT l most).2.1) (m := most) (by rw [← h0])).1
        have := congrArg List.length this
        rw [List.length_append] at this
        omega
      · have : (txtT l most).2.1 = [] := by
          unfold txtT at h0 ⊢
          split
          · rfl
          split
          · rfl
          split
          · rfl
          · rename_i a1 a2 a3
            rw [if_neg a1, if_neg a2, if_neg a3] at h0
            exact absurd rfl h0
        rw [this]; simp)
    generalize txtT l most = Y at *
    obtain ⟨n, rest, e⟩ := Y
    simp only at HS HLn
    clear hB hl
    by_cases he : e = 0
    · subst he
      rw [if_pos rfl] at HS
      go_enter Tryd.func79, Tryd.ntmps79
      go_wp2_with fail
      refine HT.out.mono ?_
      rintro e w1 ⟨rfl, hb⟩
      have HB1 := Lib.hid (HB.out.below hb HB.out.lt)
      have HBl := Lib.hid hb
      have f0 : w1.frozen? ⟨g, 0, none⟩ = false := HB1.out.frozen 0
      have f1 : w1.frozen? ⟨g, 1, none⟩ = false := HB1.out.frozen 1
      have d0 : w1.cell? ⟨g, 0, none⟩ = some (.string ⟨l.toArray⟩) := HB1.out.cell 0
      have d1 : w1.cell? ⟨g, 1, none⟩ = some (.int .i64 0) := HB1.out.cell 1
      clear hb c0 c1
      go_wp2
      exact HP.out _ _ _ HS.out ⟨(HB1.out.set_ 1 (.int .i64 0)).set_ 0 (.string ⟨rest.toArray⟩), Nat.le_trans HLn.out HL.out⟩ (grown_of_below HBl.out (grown_set0 (grown_set0 (World.grownBy.refl _ _) _ _) _ _))
    · rw [if_neg he] at HS
      have he1 : ((e : Int) != 0) = true := by simp; exact he
      clear he
      go_enter Tryd.func79, Tryd.ntmps79
      go_wp2_with fail
      refine HT.out.mono ?_
      rintro e w1 ⟨rfl, hb⟩
      have HB1 := Lib.hid (HB.out.below hb HB.out.lt)
      have HBl := Lib.hid hb
      have f1 : w1.frozen? ⟨g, 1, none⟩ = false := HB1.out.frozen 1
      have d1 : w1.cell? ⟨g, 1, none⟩ = some (.int .i64 0) := HB1.out.cell 1
      clear hb c0 c1
      go_wp2
      exact HP.out [] _ _ HS.out ⟨HB1.out.set_ 1 (.int .i64 (e : Int)), HL.out⟩ (grown_of_below HBl.out (grown_set0 (World.grownBy.refl _ _) _ _))
  · have HS : Hid (txtS (l, c) most = ([], (l, c))) := Lib.hid (by simp [txtS, hc])
    have hc1 : ((c : Int) != 0) = true := by simp; exact hc
    clear hB hl hc
    go_enter Tryd.func79, Tryd.ntmps79
    go_wp2
    exact HP.out [] _ _ HS.out ⟨HB.out, HL.out⟩ (World.grownBy.refl _ _)
end Go.Proofs.YtaplecncnkkigaaDoor

/- The document's layer 17 (receipt): Name, Fine, Written, Encode. No conditions. -/
namespace Go.Proofs.YtaplecncnkkigaaDoor
set_option linter.unusedVariables false
open Go.RowKit Go.Instr
attribute [local go_sem] ba_get ByteArray.mk_append_mk

def nameOk (f : List UInt8) : Bool := decide (1 ≤ f.length ∧ f.length ≤ 6)
theorem ref15_Name (f : List UInt8) (hf : f.length ≤ 9223372036854775807) (w : World) :
    Calls Tryd.prog 96 #[.string ⟨f.toArray⟩] w fun e w' => e = .returned (.bool (nameOk f)) ∧ w = w' := by
  have HP : Hid (∀ b w', nameOk f = b → w = w' → (fun e w' => e = Ending.returned (.bool (nameOk f)) ∧ w = w') (Ending.returned (.bool b)) w') := Lib.hid (fun b w' h1 h2 => ⟨by rw [h1], h2⟩)
  generalize (fun e w' => e = Ending.returned (.bool (nameOk f)) ∧ w = w') = P at HP ⊢
  by_cases h1 : 1 ≤ f.length
  · have g1 : (1 : Int) ≤ (f.length : Int) := by omega
    by_cases h2 : f.length ≤ 6
    · have g2 : (f.length : Int) ≤ 6 := by omega
      have HN : Hid (nameOk f = true) := Lib.hid (by simp only [nameOk, decide_eq_true_eq]; omega)
      have g3 : (0 : Nat) < f.length := by omega
      clear h2
      go_enter Tryd.func96, Tryd.ntmps96
      go_wp2
      exact HP.out _ _ HN.out rfl
    · have g2 : ((f.length : Int) ≤ 6) = False := by simp; omega
      have HN : Hid (nameOk f = false) := Lib.hid (by simp only [nameOk, decide_eq_false_iff_not]; omega)
      have g3 : (0 : Nat) < f.length := by omega
      clear h2
      go_enter Tryd.func96, Tryd.ntmps96
      go_wp2
      exact HP.out _ _ HN.out rfl
  · obtain rfl : f = [] := List.eq_nil_of_length_eq_zero (by omega)
    have HN : Hid (nameOk [] = false) := Lib.hid rfl
    go_enter Tryd.func96, Tryd.ntmps96
    go_wp2
    exact HP.out _ _ HN.out rfl

set_option maxRecDepth 100000 in
set_option maxHeartbeats 1000000 in
theorem ref17_Fine (c : Int) (f : List UInt8) (q : Int) (hf : f.length ≤ 9223372036854775807) (w : World) :
    Calls Tryd.prog 72 #[rcV c f q] w fun e w' => e = .returned (.bool (decide (rcOk c f q))) ∧ Below w.heap.size w w' := by
  have HP : Hid (∀ b w', decide (rcOk c f q) = b → Below w.heap.size w w' → (fun e w' => e = Ending.returned (.bool (decide (rcOk c f q))) ∧ Below w.heap.size w w') (Ending.returned (.bool b)) w') := Lib.hid (fun b w' h1 h2 => ⟨by rw [h1], h2⟩)
  generalize (fun e w' => e = Ending.returned (.bool (decide (rcOk c f q))) ∧ Below w.heap.size w w') = P at HP ⊢
  have HNm := Lib.hid (fun W => ref15_Name f hf W)
  have HK : Hid (rcOk c f q ↔ 0 ≤ c ∧ c ≤ 1000 ∧ nameOk f = true ∧ 0 ≤ q ∧ q ≤ 1099511627776) := Lib.hid (by
    unfold rcOk nameOk
    rw [decide_eq_true_eq]
    constructor
    · rintro ⟨a, b, d, e, g, i⟩
      refine ⟨a, b, ⟨?_, e⟩, g, i⟩
      rcases f with _ | _
      · exact absurd rfl d
      · simp
    · rintro ⟨a, b, ⟨d, e⟩, g, i⟩
      refine ⟨a, b, ?_, e, g, i⟩
      rintro rfl
      simp at d)
  unfold rcV
  generalize nameOk f = nb at HNm HK
  clear hf
  by_cases h1 : 0 ≤ c
  · by_cases h2 : c ≤ 1000
    · cases nb with
      | true =>
        by_cases h3 : 0 ≤ q
        · by_cases h4 : q ≤ 1099511627776
          · have HD : Hid (decide (rcOk c f q) = true) := Lib.hid (decide_eq_true (HK.out.2 ⟨h1, h2, rfl, h3, h4⟩))
            clear HK
            go_enter Tryd.func72, Tryd.ntmps72
            go_upto_region 1 with fail
            have F0 : Hid (Blk (w.alloc (.cells #[.int .i64 c, .string ⟨f.toArray⟩, .int .i64 q] 71)) w.heap.size 71 #[.int .i64 c, .string ⟨f.toArray⟩, .int .i64 q] ∧ Below w.heap.size w (w.alloc (.cells #[.int .i64 c, .string ⟨f.toArray⟩, .int .i64 q] 71))) := Lib.hid ⟨Blk.new _ _ _, by go_grown⟩
            generalize w.alloc (.cells #[.int .i64 c, .string ⟨f.toArray⟩, .int .i64 q] 71) = W0 at F0 ⊢
            have HLt := Lib.hid F0.out.1.lt
            have k0 : W0.cell? ⟨w.heap.size, 0, none⟩ = some (.int .i64 c) := F0.out.1.cell 0
            have k1 : W0.cell? ⟨w.heap.size, 1, none⟩ = some (.string ⟨f.toArray⟩) := F0.out.1.cell 1
            have k2 : W0.cell? ⟨w.heap.size, 2, none⟩ = some (.int .i64 q) := F0.out.1.cell 2
            generalize hB : w.heap.size = B at *
            clear hB
            go_wp2_with (go_at_call 96; refine (HNm.out _).mono ?_; rintro e w1 ⟨rfl, rfl⟩)
            exact HP.out _ _ HD.out F0.out.2
          · have HD : Hid (decide (rcOk c f q) = false) := Lib.hid (decide_eq_false (fun h => h4 (HK.out.1 h).2.2.2.2))
            clear HK
            have g4 : (q ≤ 1099511627776) = False := by simp; omega
            go_enter Tryd.func72, Tryd.ntmps72
            go_upto_region 1 with fail
            have F0 : Hid (Blk (w.alloc (.cells #[.int .i64 c, .string ⟨f.toArray⟩, .int .i64 q] 71)) w.heap.size 71 #[.int .i64 c, .string ⟨f.toArray⟩, .int .i64 q] ∧ Below w.heap.size w (w.alloc (.cells #[.int .i64 c, .string ⟨f.toArray⟩, .int .i64 q] 71))) := Lib.hid ⟨Blk.new _ _ _, by go_grown⟩
            generalize w.alloc (.cells #[.int .i64 c, .string ⟨f.toArray⟩, .int .i64 q] 71) = W0 at F0 ⊢
            have HLt := Lib.hid F0.out.1.lt
            have k0 : W0.cell? ⟨w.heap.size, 0, none⟩ = some (.int .i64 c) := F0.out.1.cell 0
            have k1 : W0.cell? ⟨w.heap.size, 1, none⟩ = some (.string ⟨f.toArray⟩) := F0.out.1.cell 1
            have k2 : W0.cell? ⟨w.heap.size, 2, none⟩ = some (.int .i64 q) := F0.out.1.cell 2
            generalize hB : w.heap.size = B at *
            clear hB
            go_wp2_with (go_at_call 96; refine (HNm.out _).mono ?_; rintro e w1 ⟨rfl, rfl⟩)
            exact HP.out _ _ HD.out F0.out.2
        · have HD : Hid (decide (rcOk c f q) = false) := Lib.hid (decide_eq_false (fun h => h3 (HK.out.1 h).2.2.2.1))
          clear HK
          have g3 : (0 ≤ q) = False := by simp; omega
          go_enter Tryd.func72, Tryd.ntmps72
          go_upto_region 1 with fail
          have F0 : Hid (Blk (w.alloc (.cells #[.int .i64 c, .string ⟨f.toArray⟩, .int .i64 q] 71)) w.heap.size 71 #[.int .i64 c, .string ⟨f.toArray⟩, .int .i64 q] ∧ Below w.heap.size w (w.alloc (.cells #[.int .i64 c, .string ⟨f.toArray⟩, .int .i64 q] 71))) := Lib.hid ⟨Blk.new _ _ _, by go_grown⟩
          generalize w.alloc (.cells #[.int .i64 c, .string ⟨f.toArray⟩, .int .i64 q] 71) = W0 at F0 ⊢
          have HLt := Lib.hid F0.out.1.lt
          have k0 : W0.cell? ⟨w.heap.size, 0, none⟩ = some (.int .i64 c) := F0.out.1.cell 0
          have k1 : W0.cell? ⟨w.heap.size, 1, none⟩ = some (.string ⟨f.toArray⟩) := F0.out.1.cell 1
          have k2 : W0.cell? ⟨w.heap.size, 2, none⟩ = some (.int .i64 q) := F0.out.1.cell 2
          generalize hB : w.heap.size = B at *
          clear hB
          go_wp2_with (go_at_call 96; refine (HNm.out _).mono ?_; rintro e w1 ⟨rfl, rfl⟩)
          exact HP.out _ _ HD.out F0.out.2
      | false =>
        have HD : Hid (decide (rcOk c f q) = false) := Lib.hid (decide_eq_false (fun h => by have := (HK.out.1 h).2.2.1; cases this))
        clear HK
        go_enter Tryd.func72, Tryd.ntmps72
        go_upto_region 1 with fail
        have F0 : Hid (Blk (w.alloc (.cells #[.int .i64 c, .string ⟨f.toArray⟩, .int .i64 q] 71)) w.heap.size 71 #[.int .i64 c, .string ⟨f.toArray⟩, .int .i64 q] ∧ Below w.heap.size w (w.alloc (.cells #[.int .i64 c, .string ⟨f.toArray⟩, .int .i64 q] 71))) := Lib.hid ⟨Blk.new _ _ _, by go_grown⟩
        generalize w.alloc (.cells #[.int .i64 c, .string ⟨f.toArray⟩, .int .i64 q] 71) = W0 at F0 ⊢
        have HLt := Lib.hid F0.out.1.lt
        have k0 : W0.cell? ⟨w.heap.size, 0, none⟩ = some (.int .i64 c) := F0.out.1.cell 0
        have k1 : W0.cell? ⟨w.heap.size, 1, none⟩ = some (.string ⟨f.toArray⟩) := F0.out.1.cell 1
        have k2 : W0.cell? ⟨w.heap.size, 2, none⟩ = some (.int .i64 q) := F0.out.1.cell 2
        generalize hB : w.heap.size = B at *
        clear hB
        go_wp2_with (go_at_call 96; refine (HNm.out _).mono ?_; rintro e w1 ⟨rfl, rfl⟩)
        exact HP.out _ _ HD.out F0.out.2
    · have HD : Hid (decide (rcOk c f q) = false) := Lib.hid (decide_eq_false (fun h => h2 (HK.out.1 h).2.1))
      clear HK
      have g2 : (c ≤ 1000) = False := by simp; omega
      go_enter Tryd.func72, Tryd.ntmps72
      go_upto_region 1 with fail
      have F0 : Hid (Blk (w.alloc (.cells #[.int .i64 c, .string ⟨f.toArray⟩, .int .i64 q] 71)) w.heap.size 71 #[.int .i64 c, .string ⟨f.toArray⟩, .int .i64 q] ∧ Below w.heap.size w (w.alloc (.cells #[.int .i64 c, .string ⟨f.toArray⟩, .int .i64 q] 71))) := Lib.hid ⟨Blk.new _ _ _, by go_grown⟩
      generalize w.alloc (.cells #[.int .i64 c, .string ⟨f.toArray⟩, .int .i64 q] 71) = W0 at F0 ⊢
      have HLt := Lib.hid F0.out.1.lt
      have k0 : W0.cell? ⟨w.heap.size, 0, none⟩ = some (.int .i64 c) := F0.out.1.cell 0
      have k1 : W0.cell? ⟨w.heap.size, 1, none⟩ = some (.string ⟨f.toArray⟩) := F0.out.1.cell 1
      have k2 : W0.cell? ⟨w.heap.size, 2, none⟩ = some (.int .i64 q) := F0.out.1.cell 2
      generalize hB : w.heap.size = B at *
      clear hB
      go_wp2_with (go_at_call 96; refine (HNm.out _).mono ?_; rintro e w1 ⟨rfl, rfl⟩)
      exact HP.out _ _ HD.out F0.out.2
  · have HD : Hid (decide (rcOk c f q) = false) := Lib.hid (decide_eq_false (fun h => h1 (HK.out.1 h).1))
    clear HK
    have g1 : (0 ≤ c) = False := by simp; omega
    go_enter Tryd.func72, Tryd.ntmps72
    go_upto_region 1 with fail
    have F0 : Hid (Blk (w.alloc (.cells #[.int .i64 c, .string ⟨f.toArray⟩, .int .i64 q] 71)) w.heap.size 71 #[.int .i64 c, .string ⟨f.toArray⟩, .int .i64 q] ∧ Below w.heap.size w (w.alloc (.cells #[.int .i64 c, .string ⟨f.toArray⟩, .int .i64 q] 71))) := Lib.hid ⟨Blk.new _ _ _, by go_grown⟩
    generalize w.alloc (.cells #[.int .i64 c, .string ⟨f.toArray⟩, .int .i64 q] 71) = W0 at F0 ⊢
    have HLt := Lib.hid F0.out.1.lt
    have k0 : W0.cell? ⟨w.heap.size, 0, none⟩ = some (.int .i64 c) := F0.out.1.cell 0
    have k1 : W0.cell? ⟨w.heap.size, 1, none⟩ = some (.string ⟨f.toArray⟩) := F0.out.1.cell 1
    have k2 : W0.cell? ⟨w.heap.size, 2, none⟩ = some (.int .i64 q) := F0.out.1.cell 2
    generalize hB : w.heap.size = B at *
    clear hB
    go_wp2_with (go_at_call 96; refine (HNm.out _).mono ?_; rintro e w1 ⟨rfl, rfl⟩)
    exact HP.out _ _ HD.out F0.out.2
end Go.Proofs.YtaplecncnkkigaaDoor
