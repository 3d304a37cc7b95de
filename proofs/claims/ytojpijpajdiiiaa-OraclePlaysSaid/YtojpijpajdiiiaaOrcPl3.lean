/- Layer 6's document: Sign, walked. No conditions. -/
import Derived.Test.YtojpijpajdiiiaaOrcCut
namespace Go.Proofs.Ytojpijpajdiiiaa
set_option linter.unusedVariables false
open Go.RowKit Go.Instr
attribute [local go_sem] ba_get ByteArray.mk_append_mk add_zero_addr

/-- a step that signs: the document's list behind it, and its code -/
def rsign (l : List Sg) (who mark : List UInt8) (h : Bool) : List Sg × Nat :=
  if who.length = 0 ∨ 6 < who.length then (l, 1)
  else if mark.length ≠ 32 then (l, 3)
  else if (atD who mark l).2 = true then (l.take (atD who mark l).1 ++ [(who, mark, ((l[(atD who mark l).1]?.map (·.2.2)).getD false && h))] ++ l.drop ((atD who mark l).1 + 1), 0)
  else if 1024 ≤ l.length then (l, 2) else (l.take (atD who mark l).1 ++ [(who, mark, h)] ++ l.drop (atD who mark l).1, 0)
def RSignEnd (w : World) (base : Nat) (v : Value) (l : List Sg) (who mark : List UInt8) (h : Bool) (e : Ending) (w' : World) : Prop :=
  ∃ v', e = .returned (.tuple #[v', .int .i64 ((rsign l who mark h).2 : Nat)]) ∧ w'.ownsRow base 37 3 v' (rsign l who mark h).1.length (srows (rsign l who mark h).1) ∧ Below w.heap.size w w' ∧ (v' = v ∨ ∀ k, v'.ownBlock = some k → w.heap.size ≤ k)
theorem own_mono {w : World} {base base' e size n : Nat} {v : Value} {xs : List Value} (h : w.ownsRow base e size v n xs) (hb : base' ≤ base) : w.ownsRow base' e size v n xs := by
  refine ⟨h.1, ?_⟩
  rcases h.2 with h2 | ⟨g, cap, cur, h1, h2, h3⟩
  · exact .inl h2
  · exact .inr ⟨g, cap, cur, h1, by omega, h3⟩

set_option maxRecDepth 100000 in
set_option maxHeartbeats 2000000 in
theorem ref_Sign (w : World) (base : Nat) (v : Value) (l : List Sg) (own : w.ownsRow base 37 3 v l.length (srows l)) (hbase : base ≤ w.heap.size) (hl : l.length ≤ 1000) (who mark : List UInt8) (h : Bool) :
    Calls Try.prog 15 #[v, .string ⟨who.toArray⟩, .string ⟨mark.toArray⟩, .bool h] w (RSignEnd w base v l who mark h) := by
  have HA := ref_At w base v l own (by omega) who mark
  have HP : Hid (∀ l2 c2, rsign l who mark h = (l2, c2) → ∀ v' w', w'.ownsRow base 37 3 v' l2.length (srows l2) → Below w.heap.size w w' → (v' = v ∨ ∀ k, v'.ownBlock = some k → w.heap.size ≤ k) → RSignEnd w base v l who mark h (.returned (.tuple #[v', .int .i64 (c2 : Nat)])) w') := Lib.hid (by
    intro l2 c2 e v' w' h1 h2 h3
    unfold RSignEnd
    rw [e]
    exact ⟨v', rfl, h1, h2, h3⟩)
  generalize RSignEnd w base v l who mark h = P at HP ⊢
  obtain ⟨A, c, rfl, HR, hc, _⟩ := own_form own
  obtain ⟨i0, hi0, hz0, hz1, hz2⟩ := info_parts info_sg
  have e9 : ((1024 : Int) ≤ l.length) = False := by simp; omega
  by_cases h0 : who.length = 0
  · have e0 : who = [] := List.eq_nil_of_length_eq_zero h0
    subst e0
    have T := Lib.hid (HP.out l 1 (by simp [rsign]) _ w own (Below.refl _ _) (.inl rfl))
    clear HP HA own HR
    go_enter Try.func15, Try.ntmps15
    go_wp2
    exact T.out
  · have e1 : ((who.length : Int) < 1) = False := by simp; omega
    by_cases h6 : 6 < who.length
    · have e6 : ((6 : Int) < who.length) = True := by simp; omega
      have T := Lib.hid (HP.out l 1 (by simp [rsign, h6]) _ w own (Below.refl _ _) (.inl rfl))
      clear HP HA own HR
      go_enter Try.func15, Try.ntmps15
      go_wp2
      exact T.out
    · have e6 : ((6 : Int) < who.length) = False := by simp; omega
      by_cases h32 : mark.length = 32
      · have e32 : ((mark.length : Int) = 32) = True := by simp; omega
        have hat := atD_le who mark l
        cases hb : (atD who mark l).2 with
        | false =>
          have HE := Lib.hid (HP.out (l.take (atD who mark l).1 ++ [(who, mark, h)] ++ l.drop (atD who mark l).1) 0 (by unfold rsign; rw [if_neg (by omega), if_neg (by omega), if_neg (by simp [hb]), if_neg (by omega)]))
          unfold AtEnd at HA
          rw [hb] at HA
          generalize (atD who mark l).1 = i at *
          have hic : (i : Int) ≤ c := by omega
          have hil : (i : Int) ≤ l.length := by omega
          obtain ⟨A1, c1, SL1, RD1⟩ := sg_cut_to A l l.length c i rfl (by omega) hc
          obtain ⟨A2, c2, SL2, RD2⟩ := sg_cut_from A l l.length c i rfl (by omega) hc
          clear HP
          have hsum : i + 1 + (l.length - i) = (l.take i ++ [(who, mark, h)] ++ l.drop i).length := by simp only [List.length_append, List.length_take, List.length_drop, List.length_cons, List.length_nil]; omega
          have HSR : Hid (srows (l.take i) ++ srow (who, mark, h) ++ srows (l.drop i) = srows (l.take i ++ [(who, mark, h)] ++ l.drop i)) := Lib.hid (by simp [srows])
          have HSUM := Lib.hid hsum
          have hlm : i + 1 + (l.length - i) ≤ 1001 := by omega
          clear hsum
          go_enter Try.func15, Try.ntmps15
          go_wp2_with fail
          refine HA.mono ?_
          rintro e w1 ⟨rfl, hb1⟩
          have R1 := RD1 w1 _ (HR.below hb1)
          go_wp2_with (first
            | (at_builtin; refine wpList_append_any w1 rfl _ _ 34 rfl w.heap.size 37 i0 _ 3 40 Try.underlying34 hi0 hz0 hz1 hz2 rfl (by decide) (.slice none 0 0) 0 [] rfl (World.ownsRow_nil _ _ _ _) w.heap.size A1 i c1 (srows (l.take i)) rfl R1 (srows_one _) (by simp only [maxLen]; omega) (by omega) hb1.size ?_; intro v2 w2 own2 hg2 ho2; rw [Nat.zero_add, List.nil_append] at own2; obtain ⟨Av2, cv2, rfl, _, _, _⟩ := own_form own2; have hb2 : Below w.heap.size w w2 := hb1.grown hg2 hb1.size (by intro k e; cases e); clear hg2 ho2 R1)
            | (at_builtin; refine wpList_append_new w2 37 (srow (who, mark, h)) rfl _ _ 34 rfl w.heap.size 3 40 _ info_sg Try.underlying34 rfl (by decide) (.slice Av2 i cv2) i (srows (l.take i)) rfl own2 1 1 rfl rfl (srow_one _) (by simp only [maxLen]; omega) (by omega) w.heap.size w hb2 (Nat.le_refl _) hb2.size ?_; intro v3 w3 own3 hb3 _ _ _; obtain ⟨Av3, cv3, rfl, _, _, hge3⟩ := own_form own3; have R2 := RD2 w3 _ (HR.below hb3); have lt3 := own3.lt)
            | (at_builtin; refine wpList_append_any w3 rfl _ _ 34 rfl w.heap.size 37 i0 _ 3 40 Try.underlying34 hi0 hz0 hz1 hz2 rfl (by decide) (.slice Av3 (i + 1) cv3) (i + 1) (srows (l.take i) ++ srow (who, mark, h)) rfl own3 w.heap.size A2 (l.length - i) c2 (srows (l.drop i)) rfl R2 (srows_one _) (by simp only [maxLen]; omega) (by omega) hb3.size ?_; intro v4 w4 own4 hg4 _; obtain ⟨Av4, cv4, rfl, _, _, _⟩ := own_form own4; have hb4 : Below w.heap.size w w4 := hb3.grown hg4 hb3.size (fun k e => (lt3 k e).1); clear hg4 R2))
          rw [HSUM.out, HSR.out] at own4
          rw [HSUM.out]
          exact HE.out _ _ (own_mono own4 hbase) hb4 (.inr (fun k e => (own4.lt k e).1))
        | true =>
          have hil2 := hat.2 hb
          have HE := Lib.hid (HP.out (l.take (atD who mark l).1 ++ [(who, mark, ((l[(atD who mark l).1]?.map (·.2.2)).getD false && h))] ++ l.drop ((atD who mark l).1 + 1)) 0 (by unfold rsign; rw [if_neg (by omega), if_neg (by omega), if_pos hb]))
          unfold AtEnd at HA
          rw [hb] at HA
          generalize (atD who mark l).1 = i at *
          have hic : (i : Int) ≤ c := by omega
          have hi1 : (i : Int) < l.length := by omega
          have hi2 : (i : Int) + 1 ≤ l.length := by omega
          obtain ⟨g, c', hv, hge, hbl, _, hcell⟩ := own3_cells own (by omega)
          injection hv with hA _ hc'
          subst hA
          subst hc'
          have hx : l[i]? = some l[i] := List.getElem?_eq_getElem hil2
          obtain ⟨_, _, q2⟩ := hcell i _ hx
          rw [hx, Option.map_some, Option.getD_some] at HE
          clear hx hcell
          generalize l[i] = x at *
          obtain ⟨r, hr⟩ : ∃ r, r = (x.2.2 && h) := ⟨_, rfl⟩
          rw [← hr] at HE
          have hil : (i : Int) ≤ l.length := by omega
          obtain ⟨A1, c1, SL1, RD1⟩ := sg_cut_to (some ⟨g, 0, none⟩) l l.length c i rfl (by omega) hc
          obtain ⟨A2, c2, SL2, RD2⟩ := sg_cut_from (some ⟨g, 0, none⟩) l l.length c (i + 1) rfl (by omega) hc
          have SL2' := SL2
          rw [show ((i + 1 : Nat) : Int) = (i : Int) + 1 from rfl] at SL2'
          clear HP
          have hsum : i + 1 + (l.length - (i + 1)) = (l.take i ++ [(who, mark, r)] ++ l.drop (i + 1)).length := by simp only [List.length_append, List.length_take, List.length_drop, List.length_cons, List.length_nil]; omega
          have HSR : Hid (srows (l.take i) ++ srow (who, mark, r) ++ srows (l.drop (i + 1)) = srows (l.take i ++ [(who, mark, r)] ++ l.drop (i + 1))) := Lib.hid (by simp [srows])
          have HSUM := Lib.hid hsum
          have hlm : i + 1 + (l.length - (i + 1)) ≤ 1002 := by omega
          clear hsum
          cases e2 : x.2.2 with
          | false =>
            rw [e2, Bool.false_and] at hr
            subst hr
            rw [e2] at q2
            go_enter Try.func15, Try.ntmps15
            go_wp2_with fail
            refine HA.mono ?_
            rintro e w1 ⟨rfl, hb1⟩
            have R1 := RD1 w1 _ (HR.below hb1)
            go_wp2_with (first
              | (at_builtin; refine wpList_append_any w1 rfl _ _ 34 rfl w.heap.size 37 i0 _ 3 40 Try.underlying34 hi0 hz0 hz1 hz2 rfl (by decide) (.slice none 0 0) 0 [] rfl (World.ownsRow_nil _ _ _ _) w.heap.size A1 i c1 (srows (l.take i)) rfl R1 (srows_one _) (by simp only [maxLen]; omega) (by omega) hb1.size ?_; intro v2 w2 own2 hg2 ho2; rw [Nat.zero_add, List.nil_append] at own2; obtain ⟨Av2, cv2, rfl, _, _, _⟩ := own_form own2; have hb2 : Below w.heap.size w w2 := hb1.grown hg2 hb1.size (by intro k e; cases e); have q3 := hb2.cell (p := ⟨g, i * 3 + 2, none⟩) hbl; rw [q2] at q3; clear hg2 ho2 R1)
              | (at_builtin; refine wpList_append_new w2 37 (srow (who, mark, false)) rfl _ _ 34 rfl w.heap.size 3 40 _ info_sg Try.underlying34 rfl (by decide) (.slice Av2 i cv2) i (srows (l.take i)) rfl own2 1 1 rfl rfl (srow_one _) (by simp only [maxLen]; omega) (by omega) w.heap.size w hb2 (Nat.le_refl _) hb2.size ?_; intro v3 w3 own3 hb3 _ _ _; obtain ⟨Av3, cv3, rfl, _, _, hge3⟩ := own_form own3; have R2 := RD2 w3 _ (HR.below hb3); have lt3 := own3.lt)
              | (at_builtin; refine wpList_append_any w3 rfl _ _ 34 rfl w.heap.size 37 i0 _ 3 40 Try.underlying34 hi0 hz0 hz1 hz2 rfl (by decide) (.slice Av3 (i + 1) cv3) (i + 1) (srows (l.take i) ++ srow (who, mark, false)) rfl own3 w.heap.size A2 (l.length - (i + 1)) c2 (srows (l.drop (i + 1))) rfl R2 (srows_one _) (by simp only [maxLen]; omega) (by omega) hb3.size ?_; intro v4 w4 own4 hg4 _; obtain ⟨Av4, cv4, rfl, _, _, _⟩ := own_form own4; have hb4 : Below w.heap.size w w4 := hb3.grown hg4 hb3.size (fun k e => (lt3 k e).1); clear hg4 R2))
            rw [HSUM.out, HSR.out] at own4
            rw [HSUM.out]
            exact HE.out _ _ (own_mono own4 hbase) hb4 (.inr (fun k e => (own4.lt k e).1))
          | true =>
            rw [e2, Bool.true_and] at hr
            subst hr
            rw [e2] at q2
            go_enter Try.func15, Try.ntmps15
            go_wp2_with fail
            refine HA.mono ?_
            rintro e w1 ⟨rfl, hb1⟩
            have R1 := RD1 w1 _ (HR.below hb1)
            go_wp2_with (first
              | (at_builtin; refine wpList_append_any w1 rfl _ _ 34 rfl w.heap.size 37 i0 _ 3 40 Try.underlying34 hi0 hz0 hz1 hz2 rfl (by decide) (.slice none 0 0) 0 [] rfl (World.ownsRow_nil _ _ _ _) w.heap.size A1 i c1 (srows (l.take i)) rfl R1 (srows_one _) (by simp only [maxLen]; omega) (by omega) hb1.size ?_; intro v2 w2 own2 hg2 ho2; rw [Nat.zero_add, List.nil_append] at own2; obtain ⟨Av2, cv2, rfl, _, _, _⟩ := own_form own2; have hb2 : Below w.heap.size w w2 := hb1.grown hg2 hb1.size (by intro k e; cases e); have q3 := hb2.cell (p := ⟨g, i * 3 + 2, none⟩) hbl; rw [q2] at q3; clear hg2 ho2 R1)
              | (at_builtin; refine wpList_append_new w2 37 (srow (who, mark, r)) rfl _ _ 34 rfl w.heap.size 3 40 _ info_sg Try.underlying34 rfl (by decide) (.slice Av2 i cv2) i (srows (l.take i)) rfl own2 1 1 rfl rfl (srow_one _) (by simp only [maxLen]; omega) (by omega) w.heap.size w hb2 (Nat.le_refl _) hb2.size ?_; intro v3 w3 own3 hb3 _ _ _; obtain ⟨Av3, cv3, rfl, _, _, hge3⟩ := own_form own3; have R2 := RD2 w3 _ (HR.below hb3); have lt3 := own3.lt)
              | (at_builtin; refine wpList_append_any w3 rfl _ _ 34 rfl w.heap.size 37 i0 _ 3 40 Try.underlying34 hi0 hz0 hz1 hz2 rfl (by decide) (.slice Av3 (i + 1) cv3) (i + 1) (srows (l.take i) ++ srow (who, mark, r)) rfl own3 w.heap.size A2 (l.length - (i + 1)) c2 (srows (l.drop (i + 1))) rfl R2 (srows_one _) (by simp only [maxLen]; omega) (by omega) hb3.size ?_; intro v4 w4 own4 hg4 _; obtain ⟨Av4, cv4, rfl, _, _, _⟩ := own_form own4; have hb4 : Below w.heap.size w w4 := hb3.grown hg4 hb3.size (fun k e => (lt3 k e).1); clear hg4 R2))
            rw [HSUM.out, HSR.out] at own4
            rw [HSUM.out]
            exact HE.out _ _ (own_mono own4 hbase) hb4 (.inr (fun k e => (own4.lt k e).1))
      · have e32 : ((mark.length : Int) = 32) = False := by simp; omega
        have T := Lib.hid (HP.out l 3 (by unfold rsign; rw [if_neg (by omega), if_pos (by omega)]) _ w own (Below.refl _ _) (.inl rfl))
        clear HP HA own HR
        go_enter Try.func15, Try.ntmps15
        go_wp2
        exact T.out
end Go.Proofs.Ytojpijpajdiiiaa
