import Derived.Test.YtefcmigbdfeaiaaDoorJ39
import Derived.Test.YtefcmigbdfeaiaaDoorJ13
set_option linter.unusedSimpArgs false
set_option linter.unusedVariables false
/- The walks of layer 2 (code): the reader's number. No conditions. -/
namespace Go.Proofs.YtefcmigbdfeaiaaDoor
set_option linter.unusedVariables false
open Go.RowKit Go.Instr
attribute [local go_sem] ba_get ByteArray.mk_append_mk

/-- what 'number' leaves of a reader without a code -/
def NumbEnd (w : World) (g : Nat) (all : List UInt8) (a : Nat) (r : Nat × List UInt8 × Nat) (e : Ending) (w' : World) : Prop :=
  ∃ a', e = .returned (.tuple #[.int .i64 (r.1 : Int), .int .i64 (r.2.2 : Int)]) ∧ RdB w' g all a' 0 ∧ a' ≤ all.length ∧ (r.2.2 = 0 → all.drop a' = r.2.1) ∧ w.grownBy w' (some g)

set_option maxRecDepth 100000 in
set_option maxHeartbeats 1000000 in
theorem code_number (w : World) (g : Nat) (all : List UInt8) (a : Nat) (h : RdB w g all a 0) (hl : all.length ≤ 1000000) (ha : a ≤ all.length) :
    Calls Tryd.prog 126 #[.pointer (some ⟨g, 0, none⟩)] w (NumbEnd w g all a (numT (all.drop a))) := by
  have HP : Hid (∀ (n : Nat) rest c a' w', numT (all.drop a) = (n, rest, c) → RdB w' g all a' 0 → a' ≤ all.length → (c = 0 → all.drop a' = rest) → w.grownBy w' (some g) → NumbEnd w g all a (numT (all.drop a)) (.returned (.tuple #[.int .i64 (n : Int), .int .i64 (c : Int)])) w') := Lib.hid (fun n rest c a' w' e h1 h2 h3 h4 => by
    unfold NumbEnd
    rw [e]
    exact ⟨a', rfl, h1, h2, h3, h4⟩)
  generalize NumbEnd w g all a (numT (all.drop a)) = P at HP ⊢
  obtain ⟨c0, c1, c2, f1, f2⟩ := h.cells
  have T1 := code_take w g all a 0 h hl ha 1 (by omega)
  have HH := Lib.hid h
  have HL := Lib.hid hl
  have HA := Lib.hid ha
  clear h hl ha
  cases hr : all.drop a with
  | nil =>
    rw [hr] at T1
    have HE : Hid (numT (all.drop a) = (0, [], 20)) := Lib.hid (by rw [hr]; rfl)
    simp only [List.length_nil, show ¬ (1 ≤ 0) by omega, if_false, decide_false] at T1
    have HT := Lib.hid T1
    clear T1 hr c1 f1
    go_enter Tryd.func126, Tryd.ntmps126
    go_wp2_with fail
    refine HT.out.mono ?_
    rintro e w1 ⟨rfl, hb1, hg1⟩
    go_wp2_with fail
    exact HP.out 0 [] 20 a _ HE.out hb1 HA.out (fun e => by cases e) hg1
  | cons k r =>
    have hlt : a < all.length := by
      rcases Nat.lt_or_ge a all.length with h | h
      · exact h
      · rw [List.drop_of_length_le h] at hr; cases hr
    have hr1 : all.drop (a + 1) = r := by
      have := congrArg List.tail hr
      rwa [List.tail_drop, List.tail_cons] at this
    rw [hr] at T1
    simp only [List.length_cons, show 1 ≤ r.length + 1 by omega, if_true, decide_true, List.take_succ_cons, List.take_zero] at T1
    have HT := Lib.hid T1
    have hE := numT_cons k r
    rw [← hr] at hE
    have hk256 := k.toNat_lt
    have HE := Lib.hid hE
    have HR1 := Lib.hid hr1
    have HLt := Lib.hid hlt
    have hix := fun W => run_byte [k] 0 (by simp) W
    simp only [List.getD_cons_zero] at hix
    clear T1 hr hr1 hE hlt c1 f1
    by_cases h8 : 8 < k.toNat
    · have hE2 := HE.out
      rw [if_pos h8] at hE2
      have HE2 := Lib.hid hE2
      have h8I : (8 : Int) < (k.toNat : Int) := by omega
      clear hE2 HE h8
      go_enter Tryd.func126, Tryd.ntmps126
      go_wp2_with fail
      refine HT.out.mono ?_
      rintro e w1 ⟨rfl, hb1, hg1⟩
      go_wp2_with fail
      exact HP.out 0 [] 3 (a + 1) _ HE2.out hb1 HLt.out (fun e => by cases e) hg1
    · have h8I : ((8 : Int) < (k.toNat : Int)) = False := by simp; omega
      have HE1 : Hid (numT (all.drop a) = if r.length < k.toNat then (0, [], 20) else if (0 < k.toNat ∧ r.getD 0 0 = 0) ∨ (k.toNat = 8 ∧ 128 ≤ (r.getD 0 0).toNat) then (0, [], 3) else (valBE (r.take k.toNat), r.drop k.toNat, 0)) := Lib.hid (by rw [HE.out, if_neg h8])
      have HT2 : Hid (∀ W, RdB W g all (a + 1) 0 → Calls Tryd.prog 139 #[.pointer (some ⟨g, 0, none⟩), .int .i64 (k.toNat : Int)] W (RdEnd W g all (.tuple #[.string ⟨(if k.toNat ≤ r.length then r.take k.toNat else []).toArray⟩, .bool (decide (k.toNat ≤ r.length))]) (if k.toNat ≤ r.length then a + 1 + k.toNat else a + 1) 0)) := Lib.hid (fun W hW => by
        have := code_take W g all (a + 1) 0 hW HL.out HLt.out k.toNat (by omega)
        rwa [HR1.out] at this)
      clear HE
      have hk8 : Hid (k.toNat ≤ 8) := Lib.hid (by omega)
      clear h8
      by_cases hle : k.toNat ≤ r.length
      · rw [if_pos hle, if_pos hle, decide_eq_true hle] at HT2
        have HE2 : Hid (numT (all.drop a) = if (0 < k.toNat ∧ r.getD 0 0 = 0) ∨ (k.toNat = 8 ∧ 128 ≤ (r.getD 0 0).toNat) then (0, [], 3) else (valBE (r.take k.toNat), r.drop k.toNat, 0)) := Lib.hid (by rw [HE1.out, if_neg (by omega)])
        have HLe : Hid (a + 1 + k.toNat ≤ all.length ∧ all.drop (a + 1 + k.toNat) = r.drop k.toNat) := Lib.hid (by
          have h0 := HLt.out
          have h1 := congrArg List.length HR1.out
          rw [List.length_drop] at h1
          exact ⟨by omega, by rw [← HR1.out, List.drop_drop]⟩)
        have hbl : (r.take k.toNat).length = k.toNat := by rw [List.length_take]; omega
        have HBl := Lib.hid hbl
        clear HE1 hle hbl
        generalize hbb : r.take k.toNat = b at *
        clear hix
        have HX : Hid (∀ x t, b = x :: t → r.getD 0 0 = x) := Lib.hid (fun x t e => by
          rw [e] at hbb
          cases r with
          | nil => simp at hbb
          | cons y u =>
            have hk : k.toNat = t.length + 1 := by have := HBl.out; rw [e] at this; simpa using this.symm
            rw [hk, List.take_succ_cons] at hbb
            injection hbb with h1 _)
        generalize r.drop k.toNat = rest at *
        clear hbb
        rcases Nat.eq_zero_or_pos b.length with hb0 | hb0
        · obtain rfl : b = [] := List.eq_nil_of_length_eq_zero hb0
          have HE3 : Hid (numT (all.drop a) = (valBE [], rest, 0)) := Lib.hid (by
            have h0 := HBl.out
            simp at h0
            rw [HE2.out, if_neg (by omega)])
          clear HE2 hb0
          go_enter Tryd.func126, Tryd.ntmps126
          go_wp2_with fail
          refine HT.out.mono ?_
          rintro e w1 ⟨rfl, hb1, hg1⟩
          have HG1 := Lib.hid (And.intro hb1 hg1)
          clear hb1 hg1
          go_wp2_with fail
          refine (HT2.out _ HG1.out.1).mono ?_
          rintro e w2 ⟨rfl, hb2, hg2⟩
          have HG2 := Lib.hid (And.intro hb2 (HG1.out.2.trans hg2))
          clear hb2 hg2
          go_wp2_with fail
          refine number_loop _ (by have h0 := hk8.out; have h1 := HBl.out; omega) (numT_lt HE3.out) w2 _ _ ?_ _ _ _ _ _ _ _ _ _ _ _ _ _ _ _ _ _ _ _ _ _ _ _ _ _ _ _ _ _ _ _ _ _ _ _ _ _ _ _ _ _ _ _ _ _ _ _ _ _ _ _ _ _ _ _ _ _ _ _ _ _ _ _ _ _
          intro s1 s2 s3 s4 s5 s6 s8 s9 s10 s11 s12 s13 s14 s15 s16 s17 s18 s19 s20 s21 s22 s23 s24 s25 s26 s27 s28 s29 s30 s31 s32 s33 s34 s35 s36 s37 s38 s39 s40 s41 s42 s43 s44 s45 s46 s47 s48 s49 s50 s51 s52 s53 s54 s55 s56 s57 s58 s59 s60 s61 s62 s63 s64 s65 s66 s67 s68 s69
          have HF := Lib.hid (HP.out _ _ 0 _ _ HE3.out HG2.out.1 HLe.out.1 (fun _ => HLe.out.2) HG2.out.2)
          clear HE3
          generalize valBE _ = v at HF ⊢
          go_wp2_with fail
          exact HF.out
        · obtain ⟨x, hx⟩ : ∃ x, b.getD 0 0 = x := ⟨_, rfl⟩
          have hx0 : r.getD 0 0 = x := by
            cases b with
            | nil => simp at hb0
            | cons y u => rw [HX.out y u rfl, ← hx]; rfl
          rw [hx0] at HE2
          have hjx : ∀ W, (Instr.index 9 (.string ⟨b.toArray⟩) (.int .i64 0)).run Tryd.prog W = .ok (.int .u8 (x.toNat : Int)) W := fun W => by
            have := run_byte b 0 hb0 W
            rwa [hx] at this
          have hx256 := x.toNat_lt
          have hlp : (0 : Int) < b.length := by omega
          have HB0 := Lib.hid hb0
          clear hx0 hx hb0
          by_cases hz : x = 0
          · have HE3 : Hid (numT (all.drop a) = (0, [], 3)) := Lib.hid (by rw [HE2.out, if_pos (.inl ⟨by have h0 := HBl.out; have h1 := HB0.out; omega, hz⟩)])
            have hz1 : ((x.toNat : Int) == 0) = true := by simp [hz]
            clear HE2 hz
            go_enter Tryd.func126, Tryd.ntmps126
            go_wp2_with fail
            refine HT.out.mono ?_
            rintro e w1 ⟨rfl, hb1, hg1⟩
            have HG1 := Lib.hid (And.intro hb1 hg1)
            clear hb1 hg1
            go_wp2_with fail
            refine (HT2.out _ HG1.out.1).mono ?_
            rintro e w2 ⟨rfl, hb2, hg2⟩
            have HG2 := Lib.hid (And.intro hb2 (HG1.out.2.trans hg2))
            clear hb2 hg2
            go_wp2_with fail
            exact HP.out 0 [] 3 _ _ HE3.out HG2.out.1 HLe.out.1 (fun e => by cases e) HG2.out.2
          · have hz0 : x.toNat ≠ 0 := fun e => hz (UInt8.toNat_inj.1 e)
            have hz1 : ((x.toNat : Int) == 0) = false := by simp; exact hz0
            by_cases h88 : b.length = 8
            · have h88I : ((b.length : Int) == 8) = true := by rw [beq_iff_eq]; omega
              by_cases h128 : 128 ≤ x.toNat
              · have HE3 : Hid (numT (all.drop a) = (0, [], 3)) := Lib.hid (by rw [HE2.out, if_pos (.inr ⟨HBl.out.symm.trans h88, h128⟩)])
                have h9 : (128 : Int) ≤ x.toNat := by omega
                clear HE2 hz hz0 h88 h128
                go_enter Tryd.func126, Tryd.ntmps126
                go_wp2_with fail
                refine HT.out.mono ?_
                rintro e w1 ⟨rfl, hb1, hg1⟩
                have HG1 := Lib.hid (And.intro hb1 hg1)
                clear hb1 hg1
                go_wp2_with fail
                refine (HT2.out _ HG1.out.1).mono ?_
                rintro e w2 ⟨rfl, hb2, hg2⟩
                have HG2 := Lib.hid (And.intro hb2 (HG1.out.2.trans hg2))
                clear hb2 hg2
                go_wp2_with fail
                exact HP.out 0 [] 3 _ _ HE3.out HG2.out.1 HLe.out.1 (fun e => by cases e) HG2.out.2
              · have HE3 : Hid (numT (all.drop a) = (valBE b, rest, 0)) := Lib.hid (by
                  rw [HE2.out, if_neg]
                  rintro (⟨_, h⟩ | ⟨_, h⟩)
                  · exact hz h
                  · exact h128 h)
                have h9 : ((128 : Int) ≤ x.toNat) = False := by simp; omega
                clear HE2 hz hz0 h88 h128
                go_enter Tryd.func126, Tryd.ntmps126
                go_wp2_with fail
                refine HT.out.mono ?_
                rintro e w1 ⟨rfl, hb1, hg1⟩
                have HG1 := Lib.hid (And.intro hb1 hg1)
                clear hb1 hg1
                go_wp2_with fail
                refine (HT2.out _ HG1.out.1).mono ?_
                rintro e w2 ⟨rfl, hb2, hg2⟩
                have HG2 := Lib.hid (And.intro hb2 (HG1.out.2.trans hg2))
                clear hb2 hg2
                go_wp2_with fail
                refine number_loop _ (by have h0 := hk8.out; have h1 := HBl.out; omega) (numT_lt HE3.out) w2 _ _ ?_ _ _ _ _ _ _ _ _ _ _ _ _ _ _ _ _ _ _ _ _ _ _ _ _ _ _ _ _ _ _ _ _ _ _ _ _ _ _ _ _ _ _ _ _ _ _ _ _ _ _ _ _ _ _ _ _ _ _ _ _ _ _ _ _ _
                intro s1 s2 s3 s4 s5 s6 s8 s9 s10 s11 s12 s13 s14 s15 s16 s17 s18 s19 s20 s21 s22 s23 s24 s25 s26 s27 s28 s29 s30 s31 s32 s33 s34 s35 s36 s37 s38 s39 s40 s41 s42 s43 s44 s45 s46 s47 s48 s49 s50 s51 s52 s53 s54 s55 s56 s57 s58 s59 s60 s61 s62 s63 s64 s65 s66 s67 s68 s69
                have HF := Lib.hid (HP.out _ _ 0 _ _ HE3.out HG2.out.1 HLe.out.1 (fun _ => HLe.out.2) HG2.out.2)
                clear HE3
                generalize valBE _ = v at HF ⊢
                go_wp2_with fail
                exact HF.out
            · have h88I : ((b.length : Int) == 8) = false := by
                rw [beq_eq_false_iff_ne]; intro e; apply h88; omega
              have HE3 : Hid (numT (all.drop a) = (valBE b, rest, 0)) := Lib.hid (by
                rw [HE2.out, if_neg]
                rintro (⟨_, h⟩ | ⟨h, _⟩)
                · exact hz h
                · exact h88 (HBl.out.trans h))
              clear HE2 hz hz0 h88
              go_enter Tryd.func126, Tryd.ntmps126
              go_wp2_with fail
              refine HT.out.mono ?_
              rintro e w1 ⟨rfl, hb1, hg1⟩
              have HG1 := Lib.hid (And.intro hb1 hg1)
              clear hb1 hg1
              go_wp2_with fail
              refine (HT2.out _ HG1.out.1).mono ?_
              rintro e w2 ⟨rfl, hb2, hg2⟩
              have HG2 := Lib.hid (And.intro hb2 (HG1.out.2.trans hg2))
              clear hb2 hg2
              go_wp2_with fail
              refine number_loop _ (by have h0 := hk8.out; have h1 := HBl.out; omega) (numT_lt HE3.out) w2 _ _ ?_ _ _ _ _ _ _ _ _ _ _ _ _ _ _ _ _ _ _ _ _ _ _ _ _ _ _ _ _ _ _ _ _ _ _ _ _ _ _ _ _ _ _ _ _ _ _ _ _ _ _ _ _ _ _ _ _ _ _ _ _ _ _ _ _ _
              intro s1 s2 s3 s4 s5 s6 s8 s9 s10 s11 s12 s13 s14 s15 s16 s17 s18 s19 s20 s21 s22 s23 s24 s25 s26 s27 s28 s29 s30 s31 s32 s33 s34 s35 s36 s37 s38 s39 s40 s41 s42 s43 s44 s45 s46 s47 s48 s49 s50 s51 s52 s53 s54 s55 s56 s57 s58 s59 s60 s61 s62 s63 s64 s65 s66 s67 s68 s69
              have HF := Lib.hid (HP.out _ _ 0 _ _ HE3.out HG2.out.1 HLe.out.1 (fun _ => HLe.out.2) HG2.out.2)
              clear HE3
              generalize valBE _ = v at HF ⊢
              go_wp2_with fail
              exact HF.out
      · rw [if_neg hle, if_neg hle, decide_eq_false hle] at HT2
        have HE2 : Hid (numT (all.drop a) = (0, [], 20)) := Lib.hid (by rw [HE1.out, if_pos (by omega)])
        clear HE1 hle
        go_enter Tryd.func126, Tryd.ntmps126
        go_wp2_with fail
        refine HT.out.mono ?_
        rintro e w1 ⟨rfl, hb1, hg1⟩
        have HG1 := Lib.hid (And.intro hb1 hg1)
        clear hb1 hg1
        go_wp2_with fail
        refine (HT2.out _ HG1.out.1).mono ?_
        rintro e w2 ⟨rfl, hb2, hg2⟩
        go_wp2_with fail
        exact HP.out 0 [] 20 (a + 1) _ HE2.out hb2 HLt.out (fun e => by cases e) (HG1.out.2.trans hg2)
end Go.Proofs.YtefcmigbdfeaiaaDoor

/- The walks of layer 2 (code): the reader's Num, Text, End. No conditions. -/
namespace Go.Proofs.YtefcmigbdfeaiaaDoor
set_option linter.unusedVariables false
open Go.RowKit Go.Instr
attribute [local go_sem] ba_get ByteArray.mk_append_mk

/-- a reader in memory: what is left, and its code -/
def Rdr (w : World) (g : Nat) (s : List UInt8 × Nat) : Prop := ∃ all a, RdB w g all a s.2 ∧ a ≤ all.length ∧ all.length ≤ 1000000 ∧ all.drop a = s.1
theorem Rdr.lt {w : World} {g : Nat} {s : List UInt8 × Nat} (h : Rdr w g s) : g < w.heap.size := by
  obtain ⟨all, a, h1, _⟩ := h
  exact Blk.lt h1
theorem Rdr.drew {w : World} {g : Nat} {s : List UInt8 × Nat} (h : Rdr w g s) : Rdr w.drew g s := h
def RdrEnd (w : World) (g : Nat) (v : Value) (s : List UInt8 × Nat) (e : Ending) (w' : World) : Prop := e = .returned v ∧ Rdr w' g s ∧ w.grownBy w' (some g)
/-- the next number -/
def numS (s : List UInt8 × Nat) : Nat × (List UInt8 × Nat) := if s.2 ≠ 0 then (0, s) else if (numT s.1).2.2 = 0 then ((numT s.1).1, ((numT s.1).2.1, 0)) else (0, (s.1, (numT s.1).2.2))
/-- the next text -/
def txtS (s : List UInt8 × Nat) (most : Nat) : List UInt8 × (List UInt8 × Nat) := if s.2 ≠ 0 then ([], s) else if (txtT s.1 most).2.2 = 0 then ((txtT s.1 most).1, ((txtT s.1 most).2.1, 0)) else ([], (s.1, (txtT s.1 most).2.2))
def endS (s : List UInt8 × Nat) : Nat := if s.2 = 0 ∧ s.1 ≠ [] then 3 else s.2

theorem code_number_no (w : World) (g : Nat) (all : List UInt8) (a c : Nat) (h : RdB w g all a c) (hc : c ≠ 0) :
    Calls Tryd.prog 126 #[.pointer (some ⟨g, 0, none⟩)] w (RdEnd w g all (.tuple #[.int .i64 0, .int .i64 (c : Int)]) a c) := by
  obtain ⟨c0, c1, c2, f1, f2⟩ := h.cells
  have HH := Lib.hid h
  have HP : Hid (∀ w', RdB w' g all a c → w.grownBy w' (some g) → RdEnd w g all (.tuple #[.int .i64 0, .int .i64 (c : Int)]) a c (.returned (.tuple #[.int .i64 0, .int .i64 (c : Int)])) w') := Lib.hid (fun w' a b => ⟨rfl, a, b⟩)
  generalize RdEnd w g all (.tuple #[.int .i64 0, .int .i64 (c : Int)]) a c = P at HP ⊢
  have hc1 : ((c : Int) != 0) = true := by simp; exact hc
  clear h hc
  go_enter Tryd.func126, Tryd.ntmps126
  go_wp2
  go_quiet (fail)
  go_wp2
  exact HP.out _ HH.out (only_drewN (World.grownBy.refl _ _) _)

set_option maxHeartbeats 1000000 in
theorem code_RNum (w : World) (g : Nat) (s : List UInt8 × Nat) (h : Rdr w g s) :
    Calls Tryd.prog 101 #[.pointer (some ⟨g, 0, none⟩)] w (RdrEnd w g (.int .i64 ((numS s).1 : Int)) (numS s).2) := by
  obtain ⟨rest, c⟩ := s
  obtain ⟨all, a, hB, ha, hl, hr⟩ := h
  simp only at hB hr
  subst hr
  have HP : Hid (∀ (n : Nat) s' w', numS (all.drop a, c) = (n, s') → Rdr w' g s' → w.grownBy w' (some g) → RdrEnd w g (.int .i64 ((numS (all.drop a, c)).1 : Int)) (numS (all.drop a, c)).2 (.returned (.int .i64 (n : Int))) w') := Lib.hid (fun n s' w' e h1 h2 => by rw [e]; exact ⟨rfl, h1, h2⟩)
  generalize RdrEnd w g (.int .i64 ((numS (all.drop a, c)).1 : Int)) (numS (all.drop a, c)).2 = P at HP ⊢
  obtain ⟨c0, c1, c2, f1, f2⟩ := hB.cells
  have HB := Lib.hid hB
  have HL := Lib.hid (And.intro ha hl)
  by_cases hc : c = 0
  · subst hc
    have HN := Lib.hid (code_number w g all a hB hl ha)
    clear hB ha hl
    cases he : (numT (all.drop a)).2.2 with
    | zero =>
      have HS : Hid (numS (all.drop a, 0) = ((numT (all.drop a)).1, ((numT (all.drop a)).2.1, 0))) := Lib.hid (by simp [numS, he])
      unfold NumbEnd at HN
      rw [he] at HN
      clear he
      generalize (numT (all.drop a)).1 = n at *
      generalize (numT (all.drop a)).2.1 = r at *
      go_enter Tryd.func101, Tryd.ntmps101
      go_wp2_with fail
      refine HN.out.mono ?_
      rintro e w1 ⟨a', rfl, h1, h2, h3, h4⟩
      have HF := Lib.hid (HP.out n (r, 0) w1 HS.out ⟨all, a', h1, h2, HL.out.2, h3 (by first | exact trivial | rfl)⟩ h4)
      clear h1 h2 h3 h4
      go_wp2_with fail
      exact HF.out
    | succ m =>
      have HS : Hid (numS (all.drop a, 0) = (0, (all.drop a, m + 1))) := Lib.hid (by simp [numS, he])
      unfold NumbEnd at HN
      rw [he] at HN
      have hm1 : (((m + 1 : Nat) : Int) != 0) = true := by simp; omega
      clear he
      generalize (numT (all.drop a)).1 = n at *
      generalize (numT (all.drop a)).2.1 = r at *
      generalize m + 1 = c' at *
      go_enter Tryd.func101, Tryd.ntmps101
      go_wp2_with fail
      refine HN.out.mono ?_
      rintro e w1 ⟨a', rfl, h1, h2, h3, h4⟩
      have HR := Lib.hid (code_refused w1 g all a' 0 h1 a c')
      rw [if_pos rfl, if_pos rfl] at HR
      have HG := Lib.hid h4
      clear h1 h2 h3 h4
      go_wp2_with fail
      refine HR.out.mono ?_
      rintro e w2 ⟨rfl, h5, h6⟩
      have HF := Lib.hid (HP.out 0 (all.drop a, c') w2 HS.out ⟨all, a, h5, HL.out.1, HL.out.2, rfl⟩ (HG.out.trans h6))
      clear h5 h6
      go_wp2_with fail
      exact HF.out
  · have HN := Lib.hid (code_number_no w g all a c hB hc)
    have HS : Hid (numS (all.drop a, c) = (0, (all.drop a, c))) := Lib.hid (by simp [numS, hc])
    have HC := Lib.hid hc
    have hm1 : ((c : Int) != 0) = true := by simp; exact hc
    clear hB ha hl hc
    go_enter Tryd.func101, Tryd.ntmps101
    go_wp2_with fail
    refine HN.out.mono ?_
    rintro e w1 ⟨rfl, h1, h4⟩
    have HR := Lib.hid (code_refused w1 g all a c h1 a c)
    rw [if_neg HC.out, if_neg HC.out] at HR
    have HG := Lib.hid h4
    clear h1 h4
    go_wp2_with fail
    refine HR.out.mono ?_
    rintro e w2 ⟨rfl, h5, h6⟩
    have HF := Lib.hid (HP.out 0 (all.drop a, c) w2 HS.out ⟨all, a, h5, HL.out.1, HL.out.2, rfl⟩ (HG.out.trans h6))
    clear h5 h6
    go_wp2_with fail
    exact HF.out

set_option maxHeartbeats 1000000 in
theorem code_REnd (w : World) (g : Nat) (s : List UInt8 × Nat) (h : Rdr w g s) :
    Calls Tryd.prog 103 #[.pointer (some ⟨g, 0, none⟩)] w (RdrEnd w g (.int .i64 (endS s : Int)) (s.1, endS s)) := by
  obtain ⟨rest, c⟩ := s
  obtain ⟨all, a, hB, ha, hl, hr⟩ := h
  simp only at hB hr
  subst hr
  have HP : Hid (∀ (c' : Nat) w', endS (all.drop a, c) = c' → RdB w' g all a c' → w.grownBy w' (some g) → RdrEnd w g (.int .i64 (endS (all.drop a, c) : Int)) (all.drop a, endS (all.drop a, c)) (.returned (.int .i64 (c' : Int))) w') := Lib.hid (fun c' w' e h1 h2 => by rw [e]; exact ⟨rfl, ⟨all, a, h1, ha, hl, rfl⟩, h2⟩)
  generalize RdrEnd w g (.int .i64 (endS (all.drop a, c) : Int)) (all.drop a, endS (all.drop a, c)) = P at HP ⊢
  obtain ⟨c0, c1, c2, f1, f2⟩ := hB.cells
  have HB := Lib.hid hB
  have HLf := Lib.hid (code_Left w g all a c hB hl ha)
  by_cases hz : all.length - a = 0
  · have hd : all.drop a = [] := List.drop_of_length_le (by omega)
    have HS : Hid (endS (all.drop a, c) = c) := Lib.hid (by simp [endS, hd])
    rw [hz] at HLf
    clear hB ha hl hd hz
    go_enter Tryd.func103, Tryd.ntmps103
    go_wp2_with fail
    refine HLf.out.mono ?_
    rintro e w1 ⟨rfl, h1, h4⟩
    obtain ⟨d0, d1, d2, _, _⟩ := h1.cells
    have HF := Lib.hid (HP.out c w1 HS.out h1 h4)
    clear h1 h4
    go_wp2_with fail
    exact HF.out
  · have hd : all.drop a ≠ [] := fun e => by have := congrArg List.length e; rw [List.length_drop] at this; exact hz this
    have HS : Hid (endS (all.drop a, c) = if c = 0 then 3 else c) := Lib.hid (by simp [endS, hd])
    have hzI : (0 : Int) < ((all.length - a : Nat) : Int) := by omega
    clear hB ha hl hd hz
    generalize ((all.length - a : Nat) : Int) = d at *
    go_enter Tryd.func103, Tryd.ntmps103
    go_wp2_with fail
    refine HLf.out.mono ?_
    rintro e w1 ⟨rfl, h1, h4⟩
    obtain ⟨d0, d1, d2, _, _⟩ := h1.cells
    have HR := Lib.hid (code_refused w1 g all a c h1 a 3)
    have HG := Lib.hid h4
    clear h1 h4
    go_wp2_with fail
    refine HR.out.mono ?_
    rintro e w2 ⟨rfl, h5, h6⟩
    rw [ite_self] at h5
    obtain ⟨k0, k1, k2, _, _⟩ := h5.cells
    have HF := Lib.hid (HP.out _ w2 HS.out h5 (HG.out.trans h6))
    clear h5 h6 HS HP HR
    generalize (if c = 0 then 3 else c) = c' at *
    go_wp2_with fail
    exact HF.out
end Go.Proofs.YtefcmigbdfeaiaaDoor

/- Plain laws: a node out of bytes, and back. No program in sight. -/
namespace Go.Proofs.YtefcmigbdfeaiaaDoor
set_option linter.unusedVariables false

/-- the next n bytes -/
def bytesS (s : List UInt8 × Nat) (n : Nat) : List UInt8 × (List UInt8 × Nat) :=
  if s.2 ≠ 0 then ([], s) else if n ≤ s.1.length then (s.1.take n, (s.1.drop n, 0)) else ([], (s.1, 20))
def bitAt (set n : Nat) : Bool := decide (set / 2 ^ n % 2 = 1)
def kidR (set n : Nat) (s : List UInt8 × Nat) : List UInt8 × (List UInt8 × Nat) := if bitAt set n then bytesS s 32 else ([], s)
def kidsR (set : Nat) : Nat → List UInt8 × Nat → List (List UInt8) × (List UInt8 × Nat)
  | 0, s => ([], s)
  | n + 1, s => ((kidR set n s).1 :: (kidsR set n (kidR set n s).2).1, (kidsR set n (kidR set n s).2).2)
def zeroK : List (List UInt8) := List.replicate 16 []
def set2 (b : List UInt8) : Nat := (b.getD 0 0).toNat * 256 + (b.getD 1 0).toNat
/-- a branch, read: its value and kids, and what is left -/
def brR (s : List UInt8 × Nat) : (List UInt8 × List (List UInt8)) × (List UInt8 × Nat) :=
  if (bytesS s 2).1 = [] then (([], zeroK), (bytesS s 2).2)
  else (((txtS (kidsR (set2 (bytesS s 2).1) 16 (bytesS s 2).2).2 32).1, (kidsR (set2 (bytesS s 2).1) 16 (bytesS s 2).2).1), (txtS (kidsR (set2 (bytesS s 2).1) 16 (bytesS s 2).2).2 32).2)
/-- another node, read: its path, value, kids, what is left, and whether its path was packed as it should -/
def otR (most k : Nat) (s : List UInt8 × Nat) : (List UInt8 × List UInt8 × List (List UInt8)) × (List UInt8 × Nat) × Bool :=
  if k = 1 then (((Nib.unpack (txtS s most).1).1, (txtS (txtS s most).2 32).1, zeroK), (txtS (txtS s most).2 32).2, decide ((Nib.unpack (txtS s most).1).2.2 = 0) && (Nib.unpack (txtS s most).1).2.1)
  else (((Nib.unpack (txtS s most).1).1, [], (bytesS (txtS s most).2 32).1 :: List.replicate 15 []), (bytesS (txtS s most).2 32).2, decide ((Nib.unpack (txtS s most).1).2.2 = 0) && !(Nib.unpack (txtS s most).1).2.1)
/-- a node: kind, path, value, kids -/
abbrev Nd := Nat × List UInt8 × List UInt8 × List (List UInt8)
def kindR (s : List UInt8) : Nat := (s.getD 0 0).toNat
/-- a node, read: it, what is left, does it fit? -/
def readN (most : Nat) (s : List UInt8) : Nd × (List UInt8 × Nat) × Bool :=
  if kindR s = 3 then ((3, [], (brR (bytesS (s, 0) 1).2).1.1, (brR (bytesS (s, 0) 1).2).1.2), (brR (bytesS (s, 0) 1).2).2, true)
  else ((kindR s, (otR most (kindR s) (bytesS (s, 0) 1).2).1.1, (otR most (kindR s) (bytesS (s, 0) 1).2).1.2.1, (otR most (kindR s) (bytesS (s, 0) 1).2).1.2.2), (otR most (kindR s) (bytesS (s, 0) 1).2).2)
/-- may a node be? -/
def fineD (n : Nd) : Bool := fineN n.1 n.2.1 n.2.2.1 n.2.2.2
def textD (n : Nd) : List UInt8 := nodeText n.1 n.2.1 n.2.2.1 n.2.2.2
def zeroN : Nd := (0, [], [], zeroK)
/-- a node of bytes, and what is wrong -/
def decN (s : List UInt8) : Nd × Nat :=
  if endS (readN 16 s).2.1 ≠ 0 ∨ (readN 16 s).2.2 = false ∨ fineD (readN 16 s).1 = false then (zeroN, 80) else ((readN 16 s).1, 0)

theorem txtS_ok' {s s1 : List UInt8 × Nat} {t : List UInt8} {m : Nat} (h : txtS s m = (t, s1)) (h0 : s1.2 = 0) : s.2 = 0 ∧ s.1 = textW t ++ s1.1 ∧ t.length ≤ m := by
  unfold txtS at h
  split at h
  · rename_i hc
    simp only [Prod.mk.injEq] at h
    rw [← h.2] at h0
    exact absurd h0 hc
  · rename_i hc
    split at h
    · rename_i h2
      simp only [Prod.mk.injEq] at h
      refine ⟨by omega, ?_⟩
      rw [← h.1, ← h.2]
      exact txtT_back (s := s.1) (r := (txtT s.1 m).2.1) (by rw [← h2])
    · rename_i h2
      simp only [Prod.mk.injEq] at h
      rw [← h.2] at h0
      exact absurd h0 h2
theorem bytesS_ok {s s1 : List UInt8 × Nat} {t : List UInt8} {n : Nat} (h : bytesS s n = (t, s1)) (h0 : s1.2 = 0) : s.2 = 0 ∧ s.1 = t ++ s1.1 ∧ t.length = n := by
  unfold bytesS at h
  split at h
  · rename_i hc
    simp only [Prod.mk.injEq] at h
    rw [← h.2] at h0
    exact absurd h0 hc
  · rename_i hc
    split at h
    · rename_i h2
      simp only [Prod.mk.injEq] at h
      refine ⟨by omega, ?_⟩
      rw [← h.1, ← h.2]
      exact ⟨(List.take_append_drop n s.1).symm, by rw [List.length_take]; omega⟩
    · simp only [Prod.mk.injEq] at h
      rw [← h.2] at h0
      cases h0
theorem bytesS_of (t r : List UInt8) : bytesS (t ++ r, 0) t.length = (t, (r, 0)) := by
  unfold bytesS
  rw [if_neg (by simp), if_pos (by simp)]
  simp
theorem txtS_of (t r : List UInt8) (m : Nat) (hm : t.length ≤ m) (hl : t.length < 9223372036854775808) : txtS (textW t ++ r, 0) m = (t, (r, 0)) := by
  unfold txtS
  rw [if_neg (by simp)]
  simp only [txtT_of t r m hm hl, if_true]
theorem endS_ok' {s : List UInt8 × Nat} (h : endS s = 0) : s.2 = 0 ∧ s.1 = [] := by
  unfold endS at h
  split at h
  · cases h
  · rename_i hc
    refine ⟨h, ?_⟩
    rcases hs : s.1 with _ | _
    · rfl
    · exact absurd ⟨h, by rw [hs]; simp⟩ hc
theorem flat_kids (K : List (List UInt8)) : (kidsW K).flatten = K.flatten := by
  induction K with
  | nil => rfl
  | cons a l ih =>
    unfold kidsW at ih ⊢
    rw [List.filter_cons]
    cases a with
    | nil => simp [ih]
    | cons x y => simp [ih]
theorem kidsR_length (set : Nat) : ∀ n s, (kidsR set n s).1.length = n
  | 0, _ => rfl
  | n + 1, s => by simp only [kidsR, List.length_cons, kidsR_length set n]
theorem kidR_ok {set n : Nat} {s : List UInt8 × Nat} (h0 : (kidR set n s).2.2 = 0) : s.2 = 0 ∧ s.1 = (kidR set n s).1 ++ (kidR set n s).2.1 ∧ (kidR set n s).1.length = if bitAt set n then 32 else 0 := by
  unfold kidR at h0 ⊢
  split at h0
  · rename_i hb
    rw [if_pos hb, if_pos hb]
    exact bytesS_ok (s := s) (s1 := (bytesS s 32).2) (t := (bytesS s 32).1) (n := 32) rfl h0
  · rename_i hb
    rw [if_neg hb, if_neg hb]
    exact ⟨h0, rfl, rfl⟩
theorem kidsR_ok (set : Nat) : ∀ n s, (kidsR set n s).2.2 = 0 → s.2 = 0 ∧ s.1 = (kidsR set n s).1.flatten ++ (kidsR set n s).2.1 ∧ ∀ j, j < n → ((kidsR set n s).1.getD j []).length = if bitAt set (n - 1 - j) then 32 else 0
  | 0, s, h => ⟨h, by simp [kidsR], by omega⟩
  | n + 1, s, h => by
    simp only [kidsR] at h ⊢
    obtain ⟨h1, h2, h3⟩ := kidsR_ok set n _ h
    obtain ⟨g1, g2, g3⟩ := kidR_ok h1
    refine ⟨g1, ?_, fun j hj => ?_⟩
    · rw [List.flatten_cons, List.append_assoc, ← h2]
      exact g2
    · cases j with
      | zero => rw [List.getD_cons_zero, g3]; rfl
      | succ j =>
        rw [List.getD_cons_succ, h3 j (by omega)]
        rw [show n + 1 - 1 - (j + 1) = n - 1 - j by omega]
theorem half_step (x p : Nat) (hp : 0 < p) : x / p * p = x / (2 * p) * (2 * p) + (if x / p % 2 = 1 then p else 0) := by
  have h1 : x / (2 * p) = x / p / 2 := by rw [Nat.mul_comm, Nat.div_div_eq_div_mul]
  rw [h1]
  generalize x / p = y
  have h2 := Nat.div_add_mod y 2
  generalize y / 2 = q at *
  rcases Nat.mod_two_eq_zero_or_one y with h | h
  · rw [h] at h2
    rw [h, if_neg (by omega), ← h2, Nat.add_zero, Nat.add_zero, ← Nat.mul_assoc, Nat.mul_comm 2 q]
  · rw [h] at h2
    rw [h, if_pos rfl, ← h2, Nat.add_mul, Nat.one_mul, ← Nat.mul_assoc, Nat.mul_comm 2 q]
theorem bitsTo_of_bits (K : List (List UInt8)) (set : Nat) (hs : set < 65536) (h : ∀ j, j < 16 → (K.getD j []).isEmpty = !bitAt set (15 - j)) : ∀ i, i ≤ 16 → bitsTo K i = set / 2 ^ (16 - i) * 2 ^ (16 - i)
  | 0, _ => by
    rw [show (2 : Nat) ^ (16 - 0) = 65536 by decide, Nat.div_eq_of_lt hs]
    rfl
  | i + 1, hi => by
    have ih := bitsTo_of_bits K set hs h i (by omega)
    have hp : (2 : Nat) ^ (16 - i) = 2 * 2 ^ (15 - i) := by rw [show 16 - i = 15 - i + 1 by omega, Nat.pow_succ]; omega
    rw [bitsTo, ih, hp, show 16 - (i + 1) = 15 - i by omega, half_step set (2 ^ (15 - i)) (Nat.pow_pos (by omega)), h i (by omega)]
    unfold bitAt
    by_cases hb : set / 2 ^ (15 - i) % 2 = 1
    · simp [hb]
    · simp [hb]
theorem bitsTo_near (K : List (List UInt8)) : ∀ d, d ≤ 16 → bitsTo K (16 - d) ≤ bitsTo K 16 ∧ bitsTo K 16 < bitsTo K (16 - d) + 2 ^ d
  | 0, _ => by simp
  | d + 1, hd => by
    obtain ⟨h1, h2⟩ := bitsTo_near K d (by omega)
    have e : 16 - d = (16 - (d + 1)) + 1 := by omega
    have hp : (2 : Nat) ^ (d + 1) = 2 * 2 ^ d := by rw [Nat.pow_succ]; omega
    have e3 : bitsTo K (16 - d) = bitsTo K (16 - (d + 1)) + (if (K.getD (16 - (d + 1)) []).isEmpty then 0 else 2 ^ d) := by
      rw [e]
      show bitsTo K (16 - (d + 1)) + (if (K.getD (16 - (d + 1)) []).isEmpty then 0 else 2 ^ (15 - (16 - (d + 1)))) = _
      rw [show 15 - (16 - (d + 1)) = d by omega]
    rw [e3] at h1 h2
    rw [hp]
    generalize (2 : Nat) ^ d = p at *
    generalize (K.getD (16 - (d + 1)) []).isEmpty = b at *
    cases b with
    | true => rw [if_pos rfl] at h1 h2; omega
    | false => rw [if_neg (by decide)] at h1 h2; omega
theorem bitAt_bitsTo (K : List (List UInt8)) (i : Nat) (hi : i < 16) : bitAt (bitsTo K 16) (15 - i) = !(K.getD i []).isEmpty := by
  obtain ⟨h1, h2⟩ := bitsTo_near K (15 - i) (by omega)
  obtain ⟨h3, _⟩ := bitsTo_mod K i (by omega)
  have hp : (2 : Nat) ^ (16 - i) = 2 * 2 ^ (15 - i) := by rw [show 16 - i = 15 - i + 1 by omega, Nat.pow_succ]; omega
  have e3 : bitsTo K (i + 1) = bitsTo K i + (if (K.getD i []).isEmpty then 0 else 2 ^ (15 - i)) := rfl
  rw [show 16 - (15 - i) = i + 1 by omega, e3] at h1 h2
  rw [hp] at h3
  have hpos : 0 < (2 : Nat) ^ (15 - i) := Nat.pow_pos (by omega)
  unfold bitAt
  generalize (2 : Nat) ^ (15 - i) = p at *
  obtain ⟨q, hq⟩ : ∃ q, bitsTo K i = 2 * p * q := ⟨bitsTo K i / (2 * p), by have := Nat.mod_add_div (bitsTo K i) (2 * p); omega⟩
  rw [hq, show 2 * p * q = p * (2 * q) by rw [Nat.mul_comm 2 p, Nat.mul_assoc]] at h1 h2
  cases he : (K.getD i []).isEmpty with
  | true =>
    rw [he] at h1 h2
    simp only [if_true] at h1 h2
    have : bitsTo K 16 / p = 2 * q := Nat.div_eq_of_lt_le (by rw [Nat.mul_comm]; omega) (by rw [Nat.add_mul, Nat.mul_comm (2 * q)]; omega)
    rw [this]
    simp
  | false =>
    rw [he] at h1 h2
    simp only [Bool.false_eq_true, if_false] at h1 h2
    have : bitsTo K 16 / p = 2 * q + 1 := Nat.div_eq_of_lt_le (by rw [Nat.add_mul, Nat.mul_comm (2 * q)]; omega) (by rw [Nat.add_mul, Nat.add_mul, Nat.mul_comm (2 * q)]; omega)
    rw [this]
    simp
theorem kidsR_of (K : List (List UInt8)) (hK : K.length = 16) (h32 : sumsOk (kidsW K) = true) (r : List UInt8) : ∀ n, n ≤ 16 → kidsR (bitsTo K 16) n ((K.drop (16 - n)).flatten ++ r, 0) = (K.drop (16 - n), (r, 0))
  | 0, _ => by rw [List.drop_of_length_le (by omega)]; rfl
  | n + 1, hn => by
    have ih := kidsR_of K hK h32 r n (by omega)
    have hlt : 16 - (n + 1) < K.length := by omega
    have hb := bitAt_bitsTo K (16 - (n + 1)) (by omega)
    rw [show 15 - (16 - (n + 1)) = n by omega] at hb
    have e0 : K.drop (16 - (n + 1)) = K.getD (16 - (n + 1)) [] :: K.drop (16 - n) := by
      rw [List.drop_eq_getElem_cons hlt, show 16 - (n + 1) + 1 = 16 - n by omega, List.getD_eq_getElem?_getD, List.getElem?_eq_getElem hlt]; rfl
    have hmem : K.getD (16 - (n + 1)) [] ∈ K := by rw [List.getD_eq_getElem?_getD, List.getElem?_eq_getElem hlt]; exact List.getElem_mem hlt
    rw [e0]
    generalize K.getD (16 - (n + 1)) [] = x at *
    have hk : kidR (bitsTo K 16) n ((x :: K.drop (16 - n)).flatten ++ r, 0) = (x, ((K.drop (16 - n)).flatten ++ r, 0)) := by
      unfold kidR
      rw [hb]
      cases hx : x.isEmpty with
      | true =>
        have : x = [] := by simpa using hx
        subst this
        simp
      | false =>
        have hl : x.length = 32 := by
          unfold sumsOk kidsW at h32
          rw [List.all_eq_true] at h32
          have := h32 x (List.mem_filter.2 ⟨hmem, by rw [hx]; rfl⟩)
          simpa using this
        rw [if_pos (by rfl), List.flatten_cons, List.append_assoc, ← hl]
        exact bytesS_of x _
    simp only [kidsR, hk, ih]
theorem two_of_len : ∀ {l : List UInt8}, l.length = 2 → ∃ x y, l = [x, y]
  | [x, y], _ => ⟨x, y, rfl⟩
theorem packed_len {p : List UInt8} (l : Bool) (h : p.length ≤ 16) : (Nib.packed p l).length ≤ 9 := by rw [Nib.packed_length]; omega
/-- what a node is written as is read as that node -/
theorem readN_of (most : Nat) (hm : 9 ≤ most) (n : Nd) (hK : n.2.2.2.length = 16) (hf : fineD n = true) : readN most (textD n) = (n, ([], 0), true) := by
  obtain ⟨k, p, v, K⟩ := n
  simp only at hK
  unfold fineD at hf
  simp only at hf
  obtain ⟨hk, hfit, hpl, hvl, hs⟩ := fineN_parts hf
  rcases hk with rfl | rfl | rfl
  · have hz : K = zeroK := by
      unfold fineN at hf
      rw [if_pos rfl] at hf
      simp at hf
      exact hf.1.1.1
    subst hz
    have e : textD (1, p, v, zeroK) = [1] ++ (textW (Nib.packed p true) ++ (textW v ++ [])) := by simp [textD, nodeText]
    have e1 : kindR (textD (1, p, v, zeroK)) = 1 := by rw [e]; rfl
    have e2 : bytesS (textD (1, p, v, zeroK), 0) 1 = ([1], (textW (Nib.packed p true) ++ (textW v ++ []), 0)) := by rw [e]; exact bytesS_of [1] _
    unfold readN
    rw [e1, if_neg (by decide), e2]
    unfold otR
    rw [if_pos rfl, txtS_of _ _ most (Nat.le_trans (packed_len _ hpl) hm) (by have := packed_len true hpl; omega), txtS_of _ _ 32 hvl (by omega), Nib.unpack_packed _ _ hfit]
    rfl
  · obtain ⟨h32, hz⟩ := fine_ext hf
    have hv0 : v = [] := by
      unfold fineN at hf
      rw [if_neg (by decide), if_pos rfl] at hf
      simp at hf
      exact hf.2
    subst hv0
    have e : textD (2, p, [], K) = [2] ++ (textW (Nib.packed p false) ++ (K.getD 0 [] ++ [])) := by simp [textD, nodeText]
    have e1 : kindR (textD (2, p, [], K)) = 2 := by rw [e]; rfl
    have e2 : bytesS (textD (2, p, [], K), 0) 1 = ([2], (textW (Nib.packed p false) ++ (K.getD 0 [] ++ []), 0)) := by rw [e]; exact bytesS_of [2] _
    unfold readN
    rw [e1, if_neg (by decide), e2]
    unfold otR
    have e3 : bytesS (K.getD 0 [] ++ [], 0) 32 = (K.getD 0 [], ([], 0)) := by rw [← h32]; exact bytesS_of _ _
    rw [if_neg (by decide), txtS_of _ _ most (Nat.le_trans (packed_len _ hpl) hm) (by have := packed_len false hpl; omega), Nib.unpack_packed _ _ hfit]
    simp only [e3]
    rw [← hz]
    rfl
  · have hp0 : p = [] := by
      unfold fineN at hf
      rw [if_neg (by decide), if_neg (by decide), if_pos rfl] at hf
      simp only [Bool.and_eq_true] at hf
      have := hf.1.1.1
      simpa using this
    subst hp0
    obtain ⟨_, hlt⟩ := bitsTo_mod K 16 (by omega)
    have e : textD (3, [], v, K) = [3] ++ ([UInt8.ofNat (bitsTo K 16 / 256), UInt8.ofNat (bitsTo K 16)] ++ (K.flatten ++ (textW v ++ []))) := by simp [textD, nodeText, flat_kids]
    have e1 : kindR (textD (3, [], v, K)) = 3 := by rw [e]; rfl
    have e2 : bytesS (textD (3, [], v, K), 0) 1 = ([3], ([UInt8.ofNat (bitsTo K 16 / 256), UInt8.ofNat (bitsTo K 16)] ++ (K.flatten ++ (textW v ++ [])), 0)) := by rw [e]; exact bytesS_of [3] _
    have e3 := bytesS_of [UInt8.ofNat (bitsTo K 16 / 256), UInt8.ofNat (bitsTo K 16)] (K.flatten ++ (textW v ++ []))
    have e4 : set2 [UInt8.ofNat (bitsTo K 16 / 256), UInt8.ofNat (bitsTo K 16)] = bitsTo K 16 := by
      simp [set2]
      omega
    have e5 := kidsR_of K hK hs (textW v ++ []) 16 (by omega)
    rw [show 16 - 16 = 0 from rfl, List.drop_zero] at e5
    unfold readN
    rw [e1, if_pos rfl, e2]
    unfold brR
    simp only [List.length_cons, List.length_nil] at e3
    rw [e3]
    simp only [e4, e5, txtS_of _ _ 32 hvl (show v.length < 9223372036854775808 by omega)]
    simp
/-- a node that is read of bytes to their end is written as these -/
theorem readN_back (s : List UInt8) (n : Nd) (r : List UInt8 × Nat) (h : readN 16 s = (n, r, true)) (hr : endS r = 0) (hf : fineD n = true) : n.2.2.2.length = 16 ∧ textD n = s := by
  obtain ⟨r1, r2⟩ := endS_ok' hr
  unfold readN at h
  have hb1 : ∀ t : List UInt8 × Nat, (bytesS (s, 0) 1).2 = t → t.2 = 0 → ∃ c, s = c :: t.1 ∧ kindR s = c.toNat := by
    intro t ht h0
    obtain ⟨_, h2, h3⟩ := bytesS_ok (s := (s, 0)) (n := 1) (t := (bytesS (s, 0) 1).1) (s1 := t) (by rw [← ht]) h0
    simp only at h2
    generalize (bytesS (s, 0) 1).1 = a at *
    match a, h3 with
    | [c], _ => exact ⟨c, h2, by rw [h2]; rfl⟩
  by_cases hk : kindR s = 3
  · rw [if_pos hk] at h
    simp only [Prod.mk.injEq, and_true] at h
    obtain ⟨e1, e2⟩ := h
    generalize hs1 : (bytesS (s, 0) 1).2 = s1 at *
    unfold brR at e1 e2
    by_cases h0 : (bytesS s1 2).1 = []
    · rw [if_pos h0] at e1 e2
      subst e1
      exfalso
      rw [show fineD (3, [], [], zeroK) = false by decide] at hf
      cases hf
    · rw [if_neg h0] at e1 e2
      simp only at e1 e2
      generalize hb : bytesS s1 2 = b at *
      obtain ⟨bits, s2⟩ := b
      simp only at h0 e1 e2
      generalize hset : set2 bits = set at *
      have hlK := kidsR_length set 16 s2
      have hok := kidsR_ok set 16 s2
      generalize kidsR set 16 s2 = kr at *
      obtain ⟨K, s3⟩ := kr
      simp only at e1 e2 hlK hok
      generalize ht : txtS s3 32 = tr at *
      obtain ⟨v, s4⟩ := tr
      simp only at e1 e2
      subst e1 e2
      obtain ⟨f1, f2, f3⟩ := txtS_ok' ht r1
      obtain ⟨g1, g2, g3⟩ := hok f1
      obtain ⟨k1, k2, k3⟩ := bytesS_ok hb g1
      obtain ⟨c, c1, c2⟩ := hb1 s1 rfl k1
      refine ⟨hlK, ?_⟩
      obtain ⟨x, y, rfl⟩ := two_of_len k3
      · have hx := x.toNat_lt
        have hy := y.toNat_lt
        have hset' : set = x.toNat * 256 + y.toNat := by rw [← hset]; rfl
        have hbits : bitsTo K 16 = set := by
          have := bitsTo_of_bits K set (by omega) (fun j hj => by
            have := g3 j hj
            rw [show 16 - 1 - j = 15 - j by omega] at this
            cases hb : bitAt set (15 - j) with
            | true =>
              rw [hb, if_pos rfl] at this
              generalize K.getD j [] = z at *
              cases z with
              | nil => cases this
              | cons a b => rfl
            | false => rw [hb, if_neg (by decide)] at this; rw [List.eq_nil_of_length_eq_zero this]; rfl) 16 (by omega)
          rw [this]; simp
        have hx2 : UInt8.ofNat (set / 256) = x := UInt8.toNat_inj.1 (by simp; omega)
        have hy2 : UInt8.ofNat set = y := UInt8.toNat_inj.1 (by simp; omega)
        have hc3 : c = 3 := UInt8.toNat_inj.1 (by rw [← c2, hk]; rfl)
        simp only [textD, nodeText, if_true, hbits, hx2, hy2, flat_kids]
        rw [c1, k2, g2, f2, r2, hc3]
        simp
  · rw [if_neg hk] at h
    simp only [Prod.mk.injEq] at h
    obtain ⟨e1, e2⟩ := h
    generalize hs1 : (bytesS (s, 0) 1).2 = s1 at *
    have e2a : (otR 16 (kindR s) s1).2.1 = r := by rw [e2]
    have e2b : (otR 16 (kindR s) s1).2.2 = true := by rw [e2]
    clear e2
    unfold otR at e1 e2a e2b
    generalize ht : txtS s1 16 = tr at *
    obtain ⟨t, s2⟩ := tr
    simp only at e1 e2a e2b
    by_cases h1 : kindR s = 1
    · rw [if_pos h1] at e1 e2a e2b
      simp only [Bool.and_eq_true, decide_eq_true_eq] at e1 e2a e2b
      generalize hv : txtS s2 32 = vr at *
      obtain ⟨v, s3⟩ := vr
      simp only at e1 e2a
      subst e1 e2a
      obtain ⟨f1, f2, _⟩ := txtS_ok' hv r1
      obtain ⟨g1, g2, _⟩ := txtS_ok' ht f1
      obtain ⟨c, c1, c2⟩ := hb1 s1 rfl g1
      refine ⟨rfl, ?_⟩
      have hp := Nib.pack_unpack t e2b.1
      rw [e2b.2] at hp
      unfold Nib.pack at hp
      rw [if_pos (fineN_parts hf).2.1] at hp
      have hp' : Nib.packed (Nib.unpack t).1 true = t := congrArg Prod.fst hp
      have hc : c = 1 := UInt8.toNat_inj.1 (by rw [← c2, h1]; rfl)
      show nodeText (kindR s) _ _ _ = s
      rw [h1]
      unfold nodeText
      rw [if_neg (by decide), if_pos rfl, decide_eq_true rfl, hp', c1, g2, f2, r2, hc]
      simp
    · rw [if_neg h1] at e1 e2a e2b
      simp only [Bool.and_eq_true, decide_eq_true_eq] at e1 e2a e2b
      generalize hv : bytesS s2 32 = vr at *
      obtain ⟨x, s3⟩ := vr
      simp only at e1 e2a
      subst e1 e2a
      obtain ⟨f1, f2, _⟩ := bytesS_ok hv r1
      obtain ⟨g1, g2, _⟩ := txtS_ok' ht f1
      obtain ⟨c, c1, c2⟩ := hb1 s1 rfl g1
      refine ⟨rfl, ?_⟩
      have hp := Nib.pack_unpack t e2b.1
      have hl : (Nib.unpack t).2.1 = false := by simpa using e2b.2
      rw [hl] at hp
      unfold Nib.pack at hp
      rw [if_pos (fineN_parts hf).2.1] at hp
      have hp' : Nib.packed (Nib.unpack t).1 false = t := congrArg Prod.fst hp
      have hk2 : kindR s = 2 := by
        rcases (fineN_parts hf).1 with h | h | h
        · exact absurd h h1
        · exact h
        · exact absurd h hk
      have hc : c = 2 := UInt8.toNat_inj.1 (by rw [← c2, hk2]; rfl)
      show nodeText (kindR s) _ _ _ = s
      rw [hk2]
      unfold nodeText
      rw [if_neg (by decide), if_neg (by decide), decide_eq_false (by decide), hp', c1, g2, f2, r2, hc]
      simp
/-- bytes that tell a node are that one's -/
theorem decN_ok {s : List UInt8} {n : Nd} (h : decN s = (n, 0)) : n.2.2.2.length = 16 ∧ fineD n = true ∧ textD n = s := by
  unfold decN at h
  split at h
  · simp at h
  · rename_i hc
    simp only [not_or, ne_eq, Bool.not_eq_false, Decidable.not_not] at hc
    simp only [Prod.mk.injEq, and_true] at h
    subst h
    obtain ⟨h1, h2⟩ := readN_back s (readN 16 s).1 (readN 16 s).2.1 (by rw [← hc.2.1]) hc.1 hc.2.2
    exact ⟨h1, hc.2.2, h2⟩
/-- a node that may be is told by its bytes -/
theorem decN_of (n : Nd) (hK : n.2.2.2.length = 16) (hf : fineD n = true) : decN (textD n) = (n, 0) := by
  unfold decN
  rw [readN_of 16 (by omega) n hK hf]
  simp only [hf]
  rw [if_neg (by simp [endS])]
theorem decN_cases (s : List UInt8) : decN s = (zeroN, 80) ∨ ∃ n, decN s = (n, 0) ∧ n.2.2.2.length = 16 ∧ fineD n = true ∧ textD n = s := by
  by_cases h : (decN s).2 = 0
  · exact .inr ⟨(decN s).1, by rw [← h], decN_ok (by rw [← h])⟩
  · refine .inl ?_
    unfold decN at h ⊢
    split
    · rfl
    · rename_i hc
      rw [if_neg hc] at h
      exact absurd rfl h
/-- the document's answer is the same -/
theorem decN_ref (s : List UInt8) (hs : s ≠ []) : decN s = if (readN 100 s).2.1.2 ≠ 0 ∨ (readN 100 s).1.2.2.2.length ≠ 16 ∨ fineD (readN 100 s).1 = false ∨ textD (readN 100 s).1 ≠ s then (zeroN, 80) else ((readN 100 s).1, 0) := by
  by_cases hc : (readN 100 s).2.1.2 ≠ 0 ∨ (readN 100 s).1.2.2.2.length ≠ 16 ∨ fineD (readN 100 s).1 = false ∨ textD (readN 100 s).1 ≠ s
  · rw [if_pos hc]
    rcases decN_cases s with h | ⟨n, h, h1, h2, h3⟩
    · exact h
    · exfalso
      have := readN_of 100 (by omega) n h1 h2
      rw [h3] at this
      rw [this] at hc
      simp [h1, h2, h3] at hc
  · rw [if_neg hc]
    simp only [not_or, ne_eq, Bool.not_eq_false, Decidable.not_not] at hc
    have := decN_of (readN 100 s).1 hc.2.1 hc.2.2.1
    rw [hc.2.2.2] at this
    exact this
end Go.Proofs.YtefcmigbdfeaiaaDoor
