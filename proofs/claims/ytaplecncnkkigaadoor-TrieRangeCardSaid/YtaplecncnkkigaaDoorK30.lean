import Derived.Test.YtaplecncnkkigaaDoorK29
import Derived.Test.YtaplecncnkkigaaDoorK28
import Derived.Deep.DeepCutAuto
/- Layer 10's laws: TrieRange. No conditions. -/
namespace Go.Proofs.YtaplecncnkkigaaDoor
set_option linter.unusedVariables false
open Go.RowKit Go.Instr
attribute [local go_sem] ba_get ByteArray.mk_append_mk
attribute [local go_sem ↓] Go.wp_at_zero Go.wp_at_succ

theorem told_len' {t : Trie.T} (h : Trie.Good t) (hc : Trie.count t ≤ 30) (m : List UInt8 → Bool) : (toldW m t).length ≤ 100000 := by
  rw [toldW, textsD, List.length_map]
  exact Trie.goT_short h.wf (by omega) _ _

/- the key is not in the range: the nodes on the way are not asked -/
set_option maxRecDepth 100000 in
set_option maxHeartbeats 2000000 in
theorem law_TrieRange (w : World) (A0 : Option Addr) (c0 : Nat) (L0 : List Act10) (key ya yb : List UInt8) (HR0 : Reads w w.heap.size 3 A0 L0.length (acts L0)) (hk : key.length ≤ 9223372036854775807) (hya : ya.length ≤ 9223372036854775807) (hyb : yb.length ≤ 9223372036854775807) (hT : Tbl w) :
    Calls Tryd.prog 8 #[.slice A0 L0.length c0, .string ⟨key.toArray⟩, .agg #[.string ⟨ya.toArray⟩, .string ⟨yb.toArray⟩]] w fun e w' => e = .returned (.bool true) ∧ Below w.heap.size w w' := by
  have HP : Hid (∀ w', Below w.heap.size w w' → (fun e w' => e = Ending.returned (.bool true) ∧ Below w.heap.size w w') (Ending.returned (.bool true)) w') := Lib.hid (fun W' a2 => ⟨rfl, a2⟩)
  generalize (fun e w' => e = Ending.returned (.bool true) ∧ Below w.heap.size w w') = P at HP ⊢
  have HTb := Lib.hid hT
  have HA := Lib.hid HR0
  clear hT HR0
  have HL0 : Hid (∀ W, Below w.heap.size w W → Calls Tryd.prog 29 #[.slice A0 L0.length c0, .int .i64 30] W fun e w' => e = .returned (.bool (longW L0 30)) ∧ Below W.heap.size W w') := Lib.hid (fun W hW => law10_long W A0 c0 L0 30 ((HA.out.below hW).more hW.size) (by omega))
  go_enter Tryd.func8, Tryd.ntmps8
  go_wp2_with fail
  refine (law10_works _ (HTb.out.next (by go_grown))).mono ?_
  have bk := Blk.new w 23 #[.string ⟨ya.toArray⟩, .string ⟨yb.toArray⟩]
  have hb0 : Below w.heap.size w (w.alloc (.cells #[.string ⟨ya.toArray⟩, .string ⟨yb.toArray⟩] 23)) := by go_grown
  generalize (w.alloc (.cells #[.string ⟨ya.toArray⟩, .string ⟨yb.toArray⟩] 23)) = w0 at *
  have HCells : Hid (∀ W, Below w0.heap.size w0 W → W.cell? ⟨w.heap.size, 0, none⟩ = some (.string ⟨ya.toArray⟩) ∧ W.cell? ⟨w.heap.size, 1, none⟩ = some (.string ⟨yb.toArray⟩)) :=
    Lib.hid (fun W hW => ⟨(bk.below hW bk.lt).cell 0, (bk.below hW bk.lt).cell 1⟩)
  have HB0 := Lib.hid hb0
  clear bk hb0
  rintro e w1 ⟨rfl, hb1⟩
  have HB1 : Hid (Below w0.heap.size w0 w1) := Lib.hid hb1
  clear hb1
  go_wp2_with fail
  refine (HL0.out _ (HB0.out.nxt HB1.out)).mono ?_
  rintro e w2 ⟨rfl, hb2⟩
  have HB2 := Lib.hid (HB1.out.nxt hb2)
  clear hb2
  obtain ⟨e0, e1⟩ := HCells.out _ HB2.out
  cases hlo0 : longW L0 30 with
  | true =>
    go_wp2_with fail
    exact HP.out _ (HB0.out.nxt HB2.out)
  | false =>
  by_cases k1 : 100 < key.length
  · have kI : (100 : Int) < key.length := by omega
    go_wp2_with fail
    exact HP.out _ (HB0.out.nxt HB2.out)
  have kI : ((100 : Int) < key.length) = False := by simp; omega
  by_cases k2 : 100 < ya.length
  · have kJ : (100 : Int) < ya.length := by omega
    go_wp2_with fail
    exact HP.out _ (HB0.out.nxt HB2.out)
  have kJ : ((100 : Int) < ya.length) = False := by simp; omega
  by_cases k3 : 100 < yb.length
  · have kK : (100 : Int) < yb.length := by omega
    go_wp2_with fail
    exact HP.out _ (HB0.out.nxt HB2.out)
  have kK : ((100 : Int) < yb.length) = False := by simp; omega
  have hs0 : L0.any longA = false := by simp [longW] at hlo0 ⊢; exact hlo0.2
  have HLen : Hid (key.length ≤ 100 ∧ ya.length ≤ 100 ∧ yb.length ≤ 100) := Lib.hid (by omega)
  have HM0 : Hid (∀ W, Below w.heap.size w W → Calls Tryd.prog 35 #[.slice A0 L0.length c0] W (NewEnd W (Trie.madeW L0))) := Lib.hid (fun W hW => law10_made W A0 c0 L0 ((HA.out.below hW).more hW.size) hs0 (HTb.out.next hW))
  have HC0 := Lib.hid (Trie.made_count L0)
  clear hlo0 hs0 HL0 k1 k2 k3
  generalize Trie.madeW L0 = t at *
  go_wp2_with fail
  clear e0 e1 kI kJ kK
  refine (HM0.out _ (HB0.out.nxt HB2.out)).mono ?_
  rintro e w4 ⟨v4, rfl, hk4, hb4⟩
  have HB4 := Lib.hid (HB2.out.nxt hb4)
  have HTt : Hid (∀ W, Below w4.heap.size w4 W → TrieP W t v4) := Lib.hid (fun W hW => hk4.next hW)
  have HTl := Lib.hid (told_len' HC0.out.2 HC0.out.1)
  clear hb4 hk4 HM0
  go_wp2_with fail
  refine (trie_Cover _ t v4 (HTt.out _ (Below.refl _ _)) (by have := HC0.out.1; omega) [] [] (by simp) (by simp)).mono ?_
  rw [cover_all]
  rintro e w5 ⟨A5, n5, k5, rfl, rfl, own5, hb5⟩
  have HB5 := Lib.hid (HB4.out.nxt hb5)
  have HB45 := Lib.hid hb5
  have R5 := Lib.hid (Reads.of_own own5)
  clear hb5 own5
  go_wp2_with fail
  refine (trie_Nodes _ t v4 (HTt.out _ HB45.out) (by have := HC0.out.1; omega)).mono ?_
  rintro e w15 ⟨A15, n15, k15, rfl, rfl, own15, hb15⟩
  have HB15 := Lib.hid (HB5.out.nxt hb15)
  have HB415 := Lib.hid (HB45.out.nxt hb15)
  have R5b := Lib.hid ((R5.out.below hb15).more hb15.size)
  have R15 := Lib.hid (Reads.of_own own15)
  clear hb15 own15
  go_wp2_with fail
  refine (book_SameTexts A5 A15 _ _ _ _ _ _ _ R5b.out R15.out (by have := HTl.out allW; omega) (by have := HTl.out allW; omega)).mono ?_
  rw [decide_eq_true rfl]
  rintro e w16 ⟨rfl, hb16⟩
  have HB16 := Lib.hid (HB15.out.nxt hb16)
  have HB416 := Lib.hid (HB415.out.nxt hb16)
  clear hb16 R5 R5b R15
  obtain ⟨e0, e1⟩ := HCells.out _ HB16.out
  go_wp2_with fail
  clear e0 e1
  refine (trie_Cover _ t v4 (HTt.out _ HB416.out) (by have := HC0.out.1; omega) ya yb (by have := HLen.out; omega) (by have := HLen.out; omega)).mono ?_
  rintro e w6 ⟨AC, nc, kc, rfl, rfl, own6, hb6⟩
  have HB6 := Lib.hid (HB16.out.nxt hb6)
  have HB46 := Lib.hid (HB416.out.nxt hb6)
  have RC6 := Lib.hid (Reads.of_own own6)
  clear hb6 own6
  go_upto_region 9 with (fail)
  go_cut [70] (fun s70 wx => s70 = .bool false ∧ Below w6.heap.size w6 wx)
  case first =>
    by_cases hk0 : key = []
    · subst hk0
      obtain ⟨e0, e1⟩ := HCells.out _ HB6.out
      go_wp2_with fail
      go_meet
      exact ⟨rfl, Below.refl _ _⟩
    have ne1 : (key.toArray = #[]) = False := by simp [hk0]
    have ne2 : key.isEmpty = false := by simp [hk0]
    clear hk0
    cases hlo : Op.bytesLess key ya with
    | true =>
      have hlo2 := bl_asymm _ _ hlo
      have hlo3 : (key == ya) = false := by
        simp only [beq_eq_false_iff_ne, ne_eq]; intro e; subst e; rw [bl_irrefl] at hlo; cases hlo
      obtain ⟨e0, e1⟩ := HCells.out _ HB6.out
      go_wp2_with fail
      go_meet
      exact ⟨rfl, Below.refl _ _⟩
    | false =>
      have HLO := Lib.hid hlo
      by_cases hb0 : yb = []
      · have HHI : Hid (yb = [] ∨ Op.bytesLess key yb = true) := Lib.hid (.inl hb0)
        have nb1 : (yb.toArray = #[]) = True := by simp [hb0]
        have nb2 : yb.isEmpty = true := by simp [hb0]
        clear hb0
        by_cases heq : key = ya
        · have h3 : (key == ya) = true := by simp [heq]
          have h4 : Op.bytesLess ya key = false := by rw [heq]; exact bl_irrefl ya
          have h5 : key.toArray = ya.toArray ↔ True := by simp [heq]
          clear heq
          obtain ⟨e0, e1⟩ := HCells.out _ HB6.out
          go_wp2_with fail
          clear e0 e1
          refine (trie_Trail _ t v4 (HTt.out _ HB46.out) (by have := HC0.out.1; omega) key (by have := HLen.out; omega)).mono ?_
          rintro e w14 ⟨A14, n14, k14, rfl, rfl, own14, hb14⟩
          have HB614 := Lib.hid hb14
          have RC14 := Lib.hid ((RC6.out.below hb14).more hb14.size)
          have R14 := Lib.hid (Reads.of_own own14)
          clear hb14 own14
          go_wp2_with fail
          refine (law10_among _ A14 AC k14 kc _ _ R14.out RC14.out (by have := HTl.out (trailW (Nib.of key)); omega) (by have := HTl.out (coverW (Nib.of ya) (Nib.of yb) yb); omega) (told_sub _ _ (trail_cover key ya yb HLO.out HHI.out) t)).mono ?_
          rintro e w7 ⟨rfl, hb7⟩
          have HB67 := Lib.hid (HB614.out.nxt hb7)
          clear hb7 R14
          go_wp2_with fail
          go_meet
          exact ⟨rfl, HB67.out⟩
        · have h3 : (key == ya) = false := by simp [heq]
          have h4 := bl_gt hlo (fun e => heq e.symm)
          clear heq
          obtain ⟨e0, e1⟩ := HCells.out _ HB6.out
          go_wp2_with fail
          clear e0 e1
          refine (trie_Trail _ t v4 (HTt.out _ HB46.out) (by have := HC0.out.1; omega) key (by have := HLen.out; omega)).mono ?_
          rintro e w14 ⟨A14, n14, k14, rfl, rfl, own14, hb14⟩
          have HB614 := Lib.hid hb14
          have RC14 := Lib.hid ((RC6.out.below hb14).more hb14.size)
          have R14 := Lib.hid (Reads.of_own own14)
          clear hb14 own14
          go_wp2_with fail
          refine (law10_among _ A14 AC k14 kc _ _ R14.out RC14.out (by have := HTl.out (trailW (Nib.of key)); omega) (by have := HTl.out (coverW (Nib.of ya) (Nib.of yb) yb); omega) (told_sub _ _ (trail_cover key ya yb HLO.out HHI.out) t)).mono ?_
          rintro e w7 ⟨rfl, hb7⟩
          have HB67 := Lib.hid (HB614.out.nxt hb7)
          clear hb7 R14
          go_wp2_with fail
          go_meet
          exact ⟨rfl, HB67.out⟩
      · have nb1 : (yb.toArray = #[]) = False := by simp [hb0]
        have nb2 : yb.isEmpty = false := by simp [hb0]
        clear hb0
        cases hhi : Op.bytesLess key yb with
        | true =>
          have HHI : Hid (yb = [] ∨ Op.bytesLess key yb = true) := Lib.hid (.inr hhi)
          by_cases heq : key = ya
          · have h3 : (key == ya) = true := by simp [heq]
            have h4 : Op.bytesLess ya key = false := by rw [heq]; exact bl_irrefl ya
            have h5 : key.toArray = ya.toArray ↔ True := by simp [heq]
            clear heq
            obtain ⟨e0, e1⟩ := HCells.out _ HB6.out
            go_wp2_with fail
            clear e0 e1
            refine (trie_Trail _ t v4 (HTt.out _ HB46.out) (by have := HC0.out.1; omega) key (by have := HLen.out; omega)).mono ?_
            rintro e w14 ⟨A14, n14, k14, rfl, rfl, own14, hb14⟩
            have HB614 := Lib.hid hb14
            have RC14 := Lib.hid ((RC6.out.below hb14).more hb14.size)
            have R14 := Lib.hid (Reads.of_own own14)
            clear hb14 own14
            go_wp2_with fail
            refine (law10_among _ A14 AC k14 kc _ _ R14.out RC14.out (by have := HTl.out (trailW (Nib.of key)); omega) (by have := HTl.out (coverW (Nib.of ya) (Nib.of yb) yb); omega) (told_sub _ _ (trail_cover key ya yb HLO.out HHI.out) t)).mono ?_
            rintro e w7 ⟨rfl, hb7⟩
            have HB67 := Lib.hid (HB614.out.nxt hb7)
            clear hb7 R14
            go_wp2_with fail
            go_meet
            exact ⟨rfl, HB67.out⟩
          · have h3 : (key == ya) = false := by simp [heq]
            have h4 := bl_gt hlo (fun e => heq e.symm)
            clear heq
            obtain ⟨e0, e1⟩ := HCells.out _ HB6.out
            go_wp2_with fail
            clear e0 e1
            refine (trie_Trail _ t v4 (HTt.out _ HB46.out) (by have := HC0.out.1; omega) key (by have := HLen.out; omega)).mono ?_
            rintro e w14 ⟨A14, n14, k14, rfl, rfl, own14, hb14⟩
            have HB614 := Lib.hid hb14
            have RC14 := Lib.hid ((RC6.out.below hb14).more hb14.size)
            have R14 := Lib.hid (Reads.of_own own14)
            clear hb14 own14
            go_wp2_with fail
            refine (law10_among _ A14 AC k14 kc _ _ R14.out RC14.out (by have := HTl.out (trailW (Nib.of key)); omega) (by have := HTl.out (coverW (Nib.of ya) (Nib.of yb) yb); omega) (told_sub _ _ (trail_cover key ya yb HLO.out HHI.out) t)).mono ?_
            rintro e w7 ⟨rfl, hb7⟩
            have HB67 := Lib.hid (HB614.out.nxt hb7)
            clear hb7 R14
            go_wp2_with fail
            go_meet
            exact ⟨rfl, HB67.out⟩
        | false =>
          by_cases heq : key = ya
          · have h3 : (key == ya) = true := by simp [heq]
            have h4 : Op.bytesLess ya key = false := by rw [heq]; exact bl_irrefl ya
            have h5 : key.toArray = ya.toArray ↔ True := by simp [heq]
            clear heq
            obtain ⟨e0, e1⟩ := HCells.out _ HB6.out
            go_wp2_with fail
            go_meet
            exact ⟨rfl, Below.refl _ _⟩
          · have h3 : (key == ya) = false := by simp [heq]
            have h4 := bl_gt hlo (fun e => heq e.symm)
            clear heq
            obtain ⟨e0, e1⟩ := HCells.out _ HB6.out
            go_wp2_with fail
            go_meet
            exact ⟨rfl, Below.refl _ _⟩
  case rest =>
    obtain ⟨h70, hb7⟩ := hcut
    subst h70
    have HB7 := Lib.hid (HB6.out.nxt hb7)
    have HB47 := Lib.hid (HB46.out.nxt hb7)
    have RC7 := Lib.hid ((RC6.out.below hb7).more hb7.size)
    clear hb7
    obtain ⟨e0, e1⟩ := HCells.out _ HB7.out
    go_wp2_with fail
    clear e0 e1
    refine (trie_Cover _ t v4 (HTt.out _ HB47.out) (by have := HC0.out.1; omega) ya [] (by have := HLen.out; omega) (by simp)).mono ?_
    rintro e w8 ⟨A8, n8, k8, rfl, rfl, own8, hb8⟩
    have HB8 := Lib.hid (HB7.out.nxt hb8)
    have HB48 := Lib.hid (HB47.out.nxt hb8)
    have RC8 := Lib.hid ((RC7.out.below hb8).more hb8.size)
    have R8 := Lib.hid (Reads.of_own own8)
    clear hb8 own8
    go_wp2_with fail
    refine (law10_among _ AC A8 kc k8 _ _ RC8.out R8.out (by have := HTl.out (coverW (Nib.of ya) (Nib.of yb) yb); omega) (by have := HTl.out (coverW (Nib.of ya) (Nib.of []) []); omega) (told_sub _ _ (cover_from ya yb) t)).mono ?_
    rintro e w9 ⟨rfl, hb9⟩
    have HB9 := Lib.hid (HB8.out.nxt hb9)
    have HB49 := Lib.hid (HB48.out.nxt hb9)
    have RC9 := Lib.hid ((RC8.out.below hb9).more hb9.size)
    clear hb9 R8
    obtain ⟨e0, e1⟩ := HCells.out _ HB9.out
    go_wp2_with fail
    clear e0 e1
    refine (trie_Cover _ t v4 (HTt.out _ HB49.out) (by have := HC0.out.1; omega) [] yb (by simp) (by have := HLen.out; omega)).mono ?_
    rintro e w10 ⟨A10, n10, k10, rfl, rfl, own10, hb10⟩
    have HB10 := Lib.hid (HB9.out.nxt hb10)
    have HB410 := Lib.hid (HB49.out.nxt hb10)
    have RC10 := Lib.hid ((RC9.out.below hb10).more hb10.size)
    have R10 := Lib.hid (Reads.of_own own10)
    clear hb10 own10
    go_wp2_with fail
    refine (law10_among _ AC A10 kc k10 _ _ RC10.out R10.out (by have := HTl.out (coverW (Nib.of ya) (Nib.of yb) yb); omega) (by have := HTl.out (coverW (Nib.of []) (Nib.of yb) yb); omega) (told_sub _ _ (cover_end ya yb) t)).mono ?_
    rintro e w11 ⟨rfl, hb11⟩
    have HB11 := Lib.hid (HB10.out.nxt hb11)
    have HB411 := Lib.hid (HB410.out.nxt hb11)
    have RC11 := Lib.hid ((RC10.out.below hb11).more hb11.size)
    clear hb11 R10
    go_wp2_with fail
    refine (trie_Nodes _ t v4 (HTt.out _ HB411.out) (by have := HC0.out.1; omega)).mono ?_
    rintro e w12 ⟨A12, n12, k12, rfl, rfl, own12, hb12⟩
    have HB12 := Lib.hid (HB11.out.nxt hb12)
    have RC12 := Lib.hid ((RC11.out.below hb12).more hb12.size)
    have R12 := Lib.hid (Reads.of_own own12)
    clear hb12 own12
    go_wp2_with fail
    refine (law10_among _ AC A12 kc k12 _ _ RC12.out R12.out (by have := HTl.out (coverW (Nib.of ya) (Nib.of yb) yb); omega) (by have := HTl.out allW; omega) (told_sub _ _ (cover_any ya yb) t)).mono ?_
    rintro e w13 ⟨rfl, hb13⟩
    have HB13 := Lib.hid (HB12.out.nxt hb13)
    clear hb13
    go_wp2_with fail
    exact HP.out _ (HB0.out.nxt HB13.out)
end Go.Proofs.YtaplecncnkkigaaDoor
