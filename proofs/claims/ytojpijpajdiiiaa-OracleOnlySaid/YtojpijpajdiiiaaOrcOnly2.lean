/- Layer 6's laws: OracleOnly, walked. No conditions. -/
import Derived.Test.YtojpijpajdiiiaaOrcOnly
namespace Go.Proofs.Ytojpijpajdiiiaa
set_option linter.unusedVariables false
open Go.RowKit Go.Instr
attribute [local go_sem] ba_get ByteArray.mk_append_mk

set_option maxHeartbeats 4000000 in
theorem law_OracleOnly (w : World) (A : Option Addr) (c : Nat) (L : List Stp) (who mark : List UInt8) (HR : Reads w w.heap.size 4 A L.length (steps L)) (hL : L.length ≤ maxLen) :
    Calls Try.prog 3 #[.slice A L.length c, .string ⟨who.toArray⟩, .string ⟨mark.toArray⟩] w fun e w' => e = .returned (.bool true) ∧ Below w.heap.size w w' := by
  have hL' := hL
  simp only [maxLen] at hL
  go_enter Try.func3, Try.ntmps3
  go_wp2_with fail
  refine (orc_works _).mono ?_
  rintro e w1 ⟨rfl, hb1⟩
  go_wp2_with fail
  refine (orc_fill _ A c L ((HR.below hb1).more hb1.size) hL').mono ?_
  rintro e w2 ⟨rfl, ⟨v, hT⟩, hb2⟩
  have HB := hb1.nxt hb2
  generalize hm : w1.heap.size = mb at *
  go_wp2_with fail
  refine wp_loop_ghost_k (fun k a wr => ∀ Φ : Act → Prop, (∀ (s3 s4 s5 s6 s11 s12 s13 s14 s15 s16 s17 s18 s19 s20 s21 s22 s23 s24 s25 s26 s27 s28 s29 s30 s31 s32 s33 s34 s35 s36 s37 s38 s39 s40 s41 s42 s43 s44 s45 s46 s47 s48 s49 s50 s51 s52 s53 s54 s55 s56 s57 s58 s59 s60 s61 s62 s63 s64 s65 s66 s67 s68 s69 s70 s71 s72 s73 s74 s75 s76 s77 s78 s79 s80 s81 s82 s83 s84 s85 s86 s87 s88 s89 s90 s91 s92 s93 s94 s95 s96 s97 s98 s99 s100 s101 s102 s103 s104 s105 s106 : Value) (i : Nat) (b8 b9 : Bool), (i + k = 40 ∧ i ≤ L.length ∧ b8 = isS who mark (L.take i) ∧ b9 = honS who (L.take i) ∧ w2 = wr) → Φ { tmps := #[.slice A L.length c, .string ⟨who.toArray⟩, .string ⟨mark.toArray⟩, s3, s4, s5, s6, .pointer (some ⟨mb + 1, 0, none⟩), .bool b8, .bool b9, .int .i64 i, s11, s12, s13, s14, s15, s16, s17, s18, s19, s20, s21, s22, s23, s24, s25, s26, s27, s28, s29, s30, s31, s32, s33, s34, s35, s36, s37, s38, s39, s40, s41, s42, s43, s44, s45, s46, s47, s48, s49, s50, s51, s52, s53, s54, s55, s56, s57, s58, s59, s60, s61, s62, s63, s64, s65, s66, s67, s68, s69, s70, s71, s72, s73, s74, s75, s76, s77, s78, s79, s80, s81, s82, s83, s84, s85, s86, s87, s88, s89, s90, s91, s92, s93, s94, s95, s96, s97, s98, s99, s100, s101, s102, s103, s104, s105, s106], defers := [] }) → Φ a) (40) ?_ ?_
  · refine fun Φ hΦ => hΦ _ _ _ _ _ _ _ _ _ _ _ _ _ _ _ _ _ _ _ _ _ _ _ _ _ _ _ _ _ _ _ _ _ _ _ _ _ _ _ _ _ _ _ _ _ _ _ _ _ _ _ _ _ _ _ _ _ _ _ _ _ _ _ _ _ _ _ _ _ _ _ _ _ _ _ _ _ _ _ _ _ _ _ _ _ _ _ _ _ _ _ _ _ _ _ _ _ _ _ _ (0) (false) (true) ?_
    exact ⟨by omega, by omega, rfl, rfl, rfl⟩
  · intro k1 a1 wr1 hI1 J1 K1 hJ1 hK1
    refine hI1 (fun a => Code.wp _ _ _ a _) ?_
    clear hI1 a1
    intro s0 s1 s2 s3 s4 s5 s6 s7 s8 s9 s10 s11 s12 s13 s14 s15 s16 s17 s18 s19 s20 s21 s22 s23 s24 s25 s26 s27 s28 s29 s30 s31 s32 s33 s34 s35 s36 s37 s38 s39 s40 s41 s42 s43 s44 s45 s46 s47 s48 s49 s50 s51 s52 s53 s54 s55 s56 s57 s58 s59 s60 s61 s62 s63 s64 s65 s66 s67 s68 s69 s70 s71 s72 s73 s74 s75 s76 s77 s78 s79 s80 s81 s82 s83 s84 s85 s86 s87 s88 s89 s90 s91 s92 s93 s94 s95 s96 s97 s98 s99 i b8 b9 hrel
    show Code.wp _ _ _ _ _
    obtain ⟨h1, h2, h8, h9, rfl⟩ := hrel
    have H8 := Lib.hid h8
    have H9 := Lib.hid h9
    clear h8 h9
    by_cases hi : i < L.length
    · by_cases h40 : i < 40
      · obtain ⟨ad, rfl, hbl, hcell⟩ := HR.2 (by omega)
        have hx : L[i]? = some L[i] := List.getElem?_eq_getElem hi
        have cell : ∀ j u, (stepv L[i])[j]? = some u → j < 4 → w2.cell? (ad.add (i * 4 + j)) = some u := fun j u hu hj => by
          rw [HB.cell (by rw [block_of_add]; exact hbl)]
          exact hcell _ _ (by rw [steps_at L i j _ hx hj, hu])
        have q0 := cell 0 _ rfl (by omega)
        have q1 := cell 1 _ rfl (by omega)
        have q2 := cell 2 _ rfl (by omega)
        rw [Nat.add_zero] at q0
        rw [add_field _ _ _ (by omega)] at q1 q2
        have i0 : (0 : Int) ≤ (i : Int) := by omega
        have i1 : (i : Int) < (L.length : Int) := by omega
        have G8 : Hid (∀ c8, c8 = (b8 || (may L[i].who L[i].mark && L[i].who == who && L[i].mark == mark)) → c8 = isS who mark (L.take (i + 1))) := Lib.hid (by
          intro c8 e8
          rw [List.take_succ_eq_append_getElem hi, isS_snoc, ← H8.out]
          exact e8)
        have G9 : Hid (∀ c9, c9 = (b9 && (!may L[i].who L[i].mark || L[i].who != who || L[i].h)) → c9 = honS who (L.take (i + 1))) := Lib.hid (by
          intro c9 e9
          rw [List.take_succ_eq_append_getElem hi, honS_snoc, ← H9.out]
          exact e9)
        clear cell hcell hx HR H8 H9
        generalize L[i] = x at *
        obtain ⟨xw, xm, xh, xf⟩ := x
        simp only at q0 q1 q2 G8 G9
        have T := Lib.hid hT
        have TB := Lib.hid HB
        clear hT HB hb1 hb2 hm hL'
        have hcase : (may xw xm = true ∧ ((1 : Int) ≤ xw.length) = True ∧ ((xw.length : Int) ≤ 6) = True ∧ ((xm.length : Int) = 32) = True) ∨ (may xw xm = false ∧ ((1 : Int) ≤ xw.length) = False) ∨ (may xw xm = false ∧ ((1 : Int) ≤ xw.length) = True ∧ ((xw.length : Int) ≤ 6) = False) ∨ (may xw xm = false ∧ ((1 : Int) ≤ xw.length) = True ∧ ((xw.length : Int) ≤ 6) = True ∧ ((xm.length : Int) = 32) = False) := by
          unfold may
          by_cases a1 : 1 ≤ xw.length
          · by_cases a2 : xw.length ≤ 6
            · by_cases a3 : xm.length = 32
              · exact .inl ⟨by simp [a1, a2, a3], by simp; omega, by simp; omega, by simp; omega⟩
              · exact .inr (.inr (.inr ⟨by simp [a3], by simp; omega, by simp; omega, by simp; omega⟩))
            · exact .inr (.inr (.inl ⟨by simp; omega, by simp; omega, by simp; omega⟩))
          · exact .inr (.inl ⟨by simp; omega, by simp; omega⟩)
        rcases hcase with ⟨m, f1, f2, f3⟩ | ⟨m, f1⟩ | ⟨m, f1, f2⟩ | ⟨m, f1, f2, f3⟩
        · rw [m] at G8 G9
          cases b8 <;> cases b9 <;> cases e1 : (xw == who)
          all_goals have e2 : (xw != who) = !(xw == who) := rfl
          all_goals rw [e1] at e2
          all_goals go_wp2
          all_goals (refine Handed.intro (40 - (i + 1)) ?_ (hJ1 _ _ _ (fun Φ hΦ => hΦ _ _ _ _ _ _ _ _ _ _ _ _ _ _ _ _ _ _ _ _ _ _ _ _ _ _ _ _ _ _ _ _ _ _ _ _ _ _ _ _ _ _ _ _ _ _ _ _ _ _ _ _ _ _ _ _ _ _ _ _ _ _ _ _ _ _ _ _ _ _ _ _ _ _ _ _ _ _ _ _ _ _ _ _ _ _ _ _ _ _ _ _ _ _ _ _ _ _ _ _ (i + 1) (_) (_) ?_)))
          all_goals first | omega | exact ⟨by omega, by omega, G8.out _ (by simp [e1, f3]), G9.out _ (by simp [e1, e2, f3]), rfl⟩
        all_goals rw [m] at G8 G9
        all_goals cases b8 <;> cases b9
        all_goals go_wp2
        all_goals (refine Handed.intro (40 - (i + 1)) ?_ (hJ1 _ _ _ (fun Φ hΦ => hΦ _ _ _ _ _ _ _ _ _ _ _ _ _ _ _ _ _ _ _ _ _ _ _ _ _ _ _ _ _ _ _ _ _ _ _ _ _ _ _ _ _ _ _ _ _ _ _ _ _ _ _ _ _ _ _ _ _ _ _ _ _ _ _ _ _ _ _ _ _ _ _ _ _ _ _ _ _ _ _ _ _ _ _ _ _ _ _ _ _ _ _ _ _ _ _ _ _ _ _ _ (i + 1) (_) (_) ?_)))
        all_goals first | omega | exact ⟨by omega, by omega, G8.out _ (by simp), G9.out _ (by simp), rfl⟩
      · have i40 : i = 40 := by omega
        have ei : L.take i = L.take 40 := by rw [i40]
        rw [ei] at H8 H9
        have hs := signs_spec (who, mark) who (L.take 40) [] (by simp only [List.length_nil, List.length_take]; omega)
        have E8 : Hid ((atRow (who, mark) (signs [] (L.take 40))).isSome = b8) := Lib.hid (by rw [atRow_isSome, hs.1, H8.out]; rfl)
        have E9 : Hid (honest (signs [] (L.take 40)) who = b9) := Lib.hid (by rw [hs.2, H9.out]; rfl)
        have EL : Hid ((signs [] (L.take 40)).length ≤ 2000) := Lib.hid (by have := signs_length [] (L.take 40); simp only [List.length_nil, List.length_take] at this; omega)
        have T := Lib.hid hT
        have TB := Lib.hid HB
        clear hs hT HB hb1 hb2 hm hL' ei H8 H9 HR
        go_wp2_with fail
        refine (orc_Signed w2 mb v _ T.out who mark).mono ?_
        rintro e w3 ⟨rfl, hb3⟩
        rw [E8.out]
        go_wp2_with fail
        refine (orc_Honest w3 mb v _ (T.out.below hb3) EL.out who).mono ?_
        rintro e w4 ⟨rfl, hb4⟩
        rw [E9.out]
        have HF := Lib.hid ((TB.out.nxt hb3).nxt hb4)
        clear hb3 hb4
        go_wp2
        go_ret
        exact ⟨rfl, HF.out⟩
    · have i40 : i ≤ 40 := by omega
      have ei : L.take i = L.take 40 := by rw [List.take_of_length_le (show L.length ≤ i by omega), List.take_of_length_le (show L.length ≤ 40 by omega)]
      rw [ei] at H8 H9
      have hs := signs_spec (who, mark) who (L.take 40) [] (by simp only [List.length_nil, List.length_take]; omega)
      have E8 : Hid ((atRow (who, mark) (signs [] (L.take 40))).isSome = b8) := Lib.hid (by rw [atRow_isSome, hs.1, H8.out]; rfl)
      have E9 : Hid (honest (signs [] (L.take 40)) who = b9) := Lib.hid (by rw [hs.2, H9.out]; rfl)
      have EL : Hid ((signs [] (L.take 40)).length ≤ 2000) := Lib.hid (by have := signs_length [] (L.take 40); simp only [List.length_nil, List.length_take] at this; omega)
      have T := Lib.hid hT
      have TB := Lib.hid HB
      clear hs hT HB hb1 hb2 hm hL' ei H8 H9 HR
      go_wp2_with fail
      refine (orc_Signed w2 mb v _ T.out who mark).mono ?_
      rintro e w3 ⟨rfl, hb3⟩
      rw [E8.out]
      go_wp2_with fail
      refine (orc_Honest w3 mb v _ (T.out.below hb3) EL.out who).mono ?_
      rintro e w4 ⟨rfl, hb4⟩
      rw [E9.out]
      have HF := Lib.hid ((TB.out.nxt hb3).nxt hb4)
      clear hb3 hb4
      go_wp2
      go_ret
      exact ⟨rfl, HF.out⟩
end Go.Proofs.Ytojpijpajdiiiaa
