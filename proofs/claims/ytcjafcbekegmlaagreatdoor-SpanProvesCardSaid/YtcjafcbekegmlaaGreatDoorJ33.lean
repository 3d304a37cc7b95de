import Derived.Test.YtcjafcbekegmlaaGreatDoorJ13
import Derived.Test.YtcjafcbekegmlaaGreatDoorJ31
import Derived.Test.YtcjafcbekegmlaaGreatDoorJ07
set_option linter.unusedSimpArgs false
set_option linter.unusedVariables false
namespace Go.Proofs.YtcjafcbekegmlaaGreatDoor
set_option linter.unusedVariables false
open Go.RowKit Go.Instr
attribute [local go_sem] ba_get ByteArray.mk_append_mk
theorem strv_getD {K : List (List UInt8)} {i : Nat} (h : i < K.length) : (strv K)[i]? = some (.string ⟨(K.getD i []).toArray⟩) := by
  rw [strv_at h, List.getD_eq_getElem?_getD, List.getElem?_eq_getElem h]; rfl
set_option maxRecDepth 100000 in
set_option maxHeartbeats 1000000 in
theorem refkids_loop (w w0 : World) (kk : Nat) (p v : List UInt8) (K : List (List UInt8)) (hK : K.length = 16) (F : Hid (Live w w0 [(w.heap.size, 107, (nodeV kk p v K).toArray)]))
    (Q : Exit → Act → World → Prop)
    (hQ : ∀ (s0 s1 s2 s4 s5 s6 s7 s8 s9 s10 s11 s12 s13 s14 s15 s16 s17 s18 s19 s20 s21 : Value) (A : Option Addr) (c n : Nat) (w2 : World), n = (kidsW K).length → w2.ownsRow w.heap.size 9 1 (.slice A n c) n (strv (kidsW K)) → Below w.heap.size w w2 → Q (.exit 0) { tmps := #[s0, s1, s2, .slice A n c, s4, s5, s6, s7, s8, s9, s10, s11, s12, s13, s14, s15, s16, s17, s18, s19, s20, s21], defers := [] } w2)
    (s0 s2 s5 s6 s7 s8 s9 s10 s11 s12 s13 s14 s15 s16 s17 s18 s19 s20 s21 : Value) :
    Code.wp Tryz.prog (.loop (loopAt Tryz.f150 0)) Q { tmps := #[s0, .pointer (some ⟨w.heap.size, 0, none⟩), s2, .slice none 0 0, .int .i64 0, s5, s6, s7, s8, s9, s10, s11, s12, s13, s14, s15, s16, s17, s18, s19, s20, s21], defers := [] } w0 := by
  have HQ := Lib.hid hQ
  clear hQ
  refine wp_loop_ghost_k (fun k a wr => ∀ Φ : Act → Prop, (∀ (s0 s2 s5 s6 s7 s8 s9 s10 s11 s12 s13 s14 s15 s16 s17 s18 s19 s20 s21 : Value) (i n c : Nat) (A : Option Addr), (i + k = 16 ∧ n = (kidsW (K.take i)).length ∧ n ≤ i ∧ wr.ownsRow w.heap.size 9 1 (.slice A n c) n (strv (kidsW (K.take i))) ∧ Live w wr [(w.heap.size, 107, (nodeV kk p v K).toArray)]) → Φ { tmps := #[s0, .pointer (some ⟨w.heap.size, 0, none⟩), s2, .slice A n c, .int .i64 i, s5, s6, s7, s8, s9, s10, s11, s12, s13, s14, s15, s16, s17, s18, s19, s20, s21], defers := [] }) → Φ a) (16) ?_ ?_
  · refine fun Φ hΦ => hΦ _ _ _ _ _ _ _ _ _ _ _ _ _ _ _ _ _ _ _ (0) (0) (0) (none) ?_
    exact ⟨by omega, by simp [kidsW], by omega, by simpa [kidsW, strv] using World.ownsRow_nil _ _ _ _, F.out⟩
  · intro k1 a1 wr1 hI1 J1 K1 hJ1 hK1
    refine hI1 (fun a => Code.wp _ _ _ a _) ?_
    clear hI1 a1
    intro s0 s1 s2 s3 s4 s5 s6 s7 s8 s9 s10 s11 s12 s13 s14 s15 s16 s17 s18 i n c A hrel
    show Code.wp _ _ _ _ _
    clear F
    conv => arg 2; whnf
    obtain ⟨h1, h2, h3, own, hF⟩ := hrel
    have F := Lib.hid hF
    have hb := hF.b
    clear hF
    by_cases hi : i < 16
    · have hi1 : (i : Int) < 16 := by omega
      obtain ⟨_, _, _, RK, _⟩ := NodeAt.of (C := []) (by rw [List.append_nil]; exact F.out.blk 0 rfl)
      have ec : wr1.cell? ⟨w.heap.size, 3 + i, none⟩ = some (.string ⟨(K.getD i []).toArray⟩) := by
        refine RK i _ ?_
        rw [strv_at (show i < K.length by omega), List.getD_eq_getElem?_getD, List.getElem?_eq_getElem (show i < K.length by omega)]
        rfl
      have hks := kidsW_snoc K i (by omega)
      have hg : K.getD i [] = K[i]'(by omega) := by rw [List.getD_eq_getElem?_getD, List.getElem?_eq_getElem (show i < K.length by omega)]; rfl
      rw [← hg] at hks
      generalize K.getD i [] = s at *
      clear hg RK
      have HI := Lib.hid (And.intro h1 (And.intro h2 h3))
      have HK := Lib.hid hks
      have hn16 : n ≤ 16 := by omega
      generalize kidsW (K.take i) = D at *
      cases s with
      | nil =>
        have O := Lib.hid own
        clear own h1 h2 h3 hb hks
        go_wp2
        refine Handed.intro (16 - (i + 1)) ?_ (hJ1 _ _ _ (fun Φ hΦ => hΦ _ _ _ _ _ _ _ _ _ _ _ _ _ _ _ _ _ _ _ (i + 1) (n) (c) (A) ?_))
        · have := HI.out.1
          omega
        · rw [HK.out]
          simp only [List.isEmpty_nil, if_true, List.append_nil]
          exact ⟨by have := HI.out.1; omega, HI.out.2.1, by have := HI.out.2.2; omega, O.out, F.out⟩
      | cons a t =>
        have ne1 : ((a :: t).toArray = #[]) = False := by simp
        have hone : ∀ u ∈ [Value.string ⟨(a :: t).toArray⟩], u.oneCell' = true := by intro u hu; rw [List.mem_singleton] at hu; subst hu; rfl
        clear h1 h2 h3 hks
        have se : (a :: t).isEmpty = false := rfl
        generalize hs : (a :: t) = s at *
        go_wp2_with (at_builtin; refine wpList_append_new wr1 9 [.string ⟨s.toArray⟩] rfl _ _ 23 rfl w.heap.size 1 16 _ info_str Tryz.underlying23 rfl (by decide) (.slice A n c) n (strv D) rfl own 1 1 rfl rfl hone (by simp only [maxLen]; omega) (by omega) w.heap.size w hb (Nat.le_refl _) hb.size ?_; intro v3 w3 own3 hb3 hg3 _ _; obtain ⟨A3, c3, rfl, _, _, _⟩ := own_form own3; have F := Live.hp F own (Nat.le_refl _) (by simp) hg3; have O3 := Lib.hid own3; clear own3 hg3)
        refine Handed.intro (16 - (i + 1)) ?_ (hJ1 _ _ _ (fun Φ hΦ => hΦ _ _ _ _ _ _ _ _ _ _ _ _ _ _ _ _ _ _ _ (i + 1) (n + 1) (c3) (A3) ?_))
        · have := HI.out.1
          omega
        · rw [HK.out, se]
          simp only [Bool.false_eq_true, if_false]
          refine ⟨by have := HI.out.1; omega, by rw [List.length_append, ← HI.out.2.1]; rfl, by have := HI.out.2.2; omega, ?_, F.out⟩
          rw [show strv (D ++ [s]) = strv D ++ [.string ⟨s.toArray⟩] by simp [strv]]
          exact O3.out
    · have e16 : i = 16 := by omega
      subst e16
      rw [List.take_of_length_le (by omega)] at h2 own
      have O := Lib.hid (And.intro own hb)
      clear own hb
      go_wp2
      exact HQ.out _ _ _ _ _ _ _ _ _ _ _ _ _ _ _ _ _ _ _ _ _ _ _ _ _ h2 O.out.1 O.out.2
set_option maxRecDepth 100000 in
theorem ref08_Kids (w : World) (k : Nat) (p v : List UInt8) (K : List (List UInt8)) (hK : K.length = 16) :
    Calls Tryz.prog 150 #[.agg (nodeV k p v K).toArray] w (KidsEnd w K) := by
  have HP : Hid (∀ A c n w', n = (kidsW K).length → w'.ownsRow w.heap.size 9 1 (.slice A n c) n (strv (kidsW K)) → Below w.heap.size w w' → KidsEnd w K (.returned (.slice A n c)) w') := Lib.hid (fun A c n w' g1 g2 g3 => ⟨A, c, n, rfl, g1, g2, g3⟩)
  generalize KidsEnd w K = P at HP ⊢
  go_enter Tryz.func150, Tryz.ntmps150
  go_upto_region 1 with fail
  have F := Live.ha (Lib.hid (Live.start w)) (nodeV k p v K).toArray 107
  generalize w.alloc (.cells (nodeV k p v K).toArray 107) = W0 at F ⊢
  go_upto_region 3 with fail
  refine refkids_loop w W0 k p v K hK F _ ?_ _ _ _ _ _ _ _ _ _ _ _ _ _ _ _ _ _ _ _
  intro s0 s1 s2 s4 s5 s6 s7 s8 s9 s10 s11 s12 s13 s14 s15 s16 s17 s18 s19 s20 s21 A c n w2 g1 g2 g3
  go_wp2
  exact HP.out _ _ _ _ g1 g2 g3
end Go.Proofs.YtcjafcbekegmlaaGreatDoor

namespace Go.Proofs.YtcjafcbekegmlaaGreatDoor
set_option linter.unusedVariables false
open Go.RowKit Go.Instr
attribute [local go_sem] ba_get ByteArray.mk_append_mk
set_option maxRecDepth 100000 in
set_option maxHeartbeats 1000000 in
theorem ref02_Number (n : Nat) (hn : n < 9223372036854775808) (w : World) :
    Calls Tryz.prog 103 #[.int .i64 (n : Int)] w fun e w' => e = .returned (.string ⟨(numW n).toArray⟩) ∧ Below w.heap.size w w' := by
  have HP : Hid (∀ w', Below w.heap.size w w' → (fun e w' => e = Ending.returned (.string ⟨(numW n).toArray⟩) ∧ Below w.heap.size w w') (Ending.returned (.string ⟨(UInt8.ofNat (beB n).length :: beB n).toArray⟩)) w') := Lib.hid (fun w' hb => ⟨rfl, hb⟩)
  generalize (fun e w' => e = Ending.returned (.string ⟨(numW n).toArray⟩) ∧ Below w.heap.size w w') = P at HP ⊢
  have HL := Lib.hid (beB_len 8 n (by omega))
  have HN := Lib.hid hn
  clear hn
  go_enter Tryz.func103, Tryz.ntmps103
  go_wp2_with fail
  refine wp_loop_ghost_k (fun k a wr => ∀ Φ : Act → Prop, (∀ (s1 s2 s4 s5 s6 s7 s8 s9 s10 s11 s12 s13 s14 s15 s16 s17 s18 s19 s20 s21 : Value) (m : Nat) (s : List UInt8), (m = k ∧ m ≤ n ∧ beB n = beB m ++ s ∧ Below w.heap.size w wr) → Φ { tmps := #[.int .i64 (m : Int), s1, s2, .string ⟨s.toArray⟩, s4, s5, s6, s7, s8, s9, s10, s11, s12, s13, s14, s15, s16, s17, s18, s19, s20, s21], defers := [] }) → Φ a) (n) ?_ ?_
  · refine fun Φ hΦ => hΦ _ _ _ _ _ _ _ _ _ _ _ _ _ _ _ _ _ _ _ _ (n) ([]) ?_
    exact ⟨rfl, Nat.le_refl _, by simp, Below.refl _ _⟩
  · intro k1 a1 wr1 hI1 J1 K1 hJ1 hK1
    refine hI1 (fun a => Code.wp _ _ _ a _) ?_
    clear hI1 a1
    intro s0 s1 s2 s3 s4 s5 s6 s7 s8 s9 s10 s11 s12 s13 s14 s15 s16 s17 s18 s19 m s hrel
    show Code.wp _ _ _ _ _
    obtain ⟨h1, h2, h3, hb⟩ := hrel
    have HB := Lib.hid hb
    have H3 := Lib.hid h3
    have H2 := Lib.hid h2
    have H1 := Lib.hid h1
    have hAl : Hid (∀ f, Below w.heap.size w (wr1.alloc (.cells f 5))) := Lib.hid (fun f => hb.trans ((show Below wr1.heap.size wr1 (wr1.alloc (.cells f 5)) from by go_grown).mono hb.size))
    clear h1 h2 h3 hb
    by_cases hm : 0 < m
    · have hm1 : (0 : Int) < (m : Int) := by omega
      have er : (m : Int).tmod 256 = ((m % 256 : Nat) : Int) := by rw [Int.tmod_eq_emod_of_nonneg (by omega)]; omega
      have eq : (m : Int).tdiv 256 = ((m / 256 : Nat) : Int) := by rw [Int.tdiv_eq_ediv_of_nonneg (by omega)]; omega
      have ew2 : ((m % 256 : Nat) : Int) % 256 = ((m % 256 : Nat) : Int) := by omega
      have cv := conv1d wr1 ((m : Int) % 256) (by omega) (by omega)
      have cv2 := conv1 wr1 ((m : Int) % 256) (by omega) (by omega)
      rw [show UInt8.ofNat ((m : Int) % 256).toNat = UInt8.ofNat m by rw [show ((m : Int) % 256).toNat = m % 256 by omega]; apply UInt8.toNat_inj.1; simp] at cv cv2
      have HE : Hid (beB n = beB (m / 256) ++ UInt8.ofNat m :: s) := Lib.hid (by rw [H3.out, beB_pos hm, List.append_assoc]; rfl)
      have hsl : s.length ≤ 8 := by have := congrArg List.length HE.out; simp at this; have := HL.out; omega
      have HMd : Hid (m / 256 < m ∧ m / 256 ≤ n) := Lib.hid ⟨by omega, by have := H2.out; omega⟩
      have hsl2 : s.length + 1 ≤ 9223372036854775807 := by omega
      have hsl3 : 1 + s.length ≤ 9223372036854775807 := by omega
      have wd : wrap64 ((m : Int) / 256) = ((m / 256 : Nat) : Int) := by rw [IntWalk.wrap64_in _ (by have := H2.out; have := HN.out; omega)]; omega
      go_wp2
      simp only [wd]
      refine Handed.intro (m / 256) ?_ (hJ1 _ _ _ (fun Φ hΦ => hΦ _ _ _ _ _ _ _ _ _ _ _ _ _ _ _ _ _ _ _ _ (m / 256) (UInt8.ofNat m :: s) ?_))
      · have := H1.out; have := HMd.out.1; omega
      exact ⟨rfl, HMd.out.2, HE.out, hAl.out _⟩
    · have hm1 : (0 < m) = False := by simp; omega
      have HE : Hid (beB n = s) := Lib.hid (by rw [H3.out, show m = 0 by omega, beB_zero]; rfl)
      have hsl : s.length ≤ 8 := by have := HE.out; have := HL.out; rw [‹beB n = s›] at this; exact this
      rw [HE.out] at HP
      have cv := conv1d wr1 (s.length : Int) (by omega) (by omega)
      have cv2 := conv1 wr1 (s.length : Int) (by omega) (by omega)
      rw [show UInt8.ofNat ((s.length : Int)).toNat = UInt8.ofNat s.length by congr 1] at cv cv2
      clear hm H3 HE
      have hsl2 : s.length + 1 ≤ 9223372036854775807 := by omega
      have hsl3 : 1 + s.length ≤ 9223372036854775807 := by omega
      go_wp2
      exact HP.out _ (hAl.out _)
set_option maxRecDepth 100000 in
theorem ref02_Text (s : List UInt8) (hs : s.length ≤ 9223372036854775000) (w : World) :
    Calls Tryz.prog 104 #[.string ⟨s.toArray⟩] w fun e w' => e = .returned (.string ⟨(textW s).toArray⟩) ∧ Below w.heap.size w w' := by
  have HP : Hid (∀ w', Below w.heap.size w w' → (fun e w' => e = Ending.returned (.string ⟨(textW s).toArray⟩) ∧ Below w.heap.size w w') (Ending.returned (.string ⟨(numW s.length ++ s).toArray⟩)) w') := Lib.hid (fun w' hb => ⟨rfl, hb⟩)
  generalize (fun e w' => e = Ending.returned (.string ⟨(textW s).toArray⟩) ∧ Below w.heap.size w w') = P at HP ⊢
  go_enter Tryz.func104, Tryz.ntmps104
  go_wp2_with fail
  refine (ref02_Number s.length (by omega) _).mono ?_
  rintro e w1 ⟨rfl, hb⟩
  have hl := numW_len s.length (by omega)
  generalize numW s.length = N at *
  have hsum : N.length + s.length ≤ 9223372036854775807 := by omega
  go_wp2
  exact HP.out _ hb
end Go.Proofs.YtcjafcbekegmlaaGreatDoor
