import Derived.Test.YtcjafcbekegmlaaGreatDoorJ39
import Derived.Test.YtcjafcbekegmlaaGreatDoorJ32
import Derived.Test.YtcjafcbekegmlaaGreatDoorJ13
import Derived.Test.YtcjafcbekegmlaaGreatDoorJ38
import Derived.Test.YtcjafcbekegmlaaGreatDoorJ31
import Derived.Test.YtcjafcbekegmlaaGreatDoorJ10
import Derived.Test.YtcjafcbekegmlaaGreatDoorJ08
import Derived.Test.YtcjafcbekegmlaaGreatDoorJ14
import Derived.Test.YtcjafcbekegmlaaGreatDoorJ24
import Derived.Test.YtcjafcbekegmlaaGreatDoorJ28
import Derived.RangeFuncNested
import Derived.RangeFuncBound
import Derived.RangeFuncCalls
import Derived.RangeFuncLeaves
import Derived.Shelf.Abstract
import Derived.Shelf.RegionOpen
import Derived.WalkKit
import Derived.OwnWalkIn
import Derived.TacticsInMore
import Derived.LoopNIn
import Derived.LoopIn
import Derived.Maps.AppendAt
import Derived.Sort.LoopGhostIn
set_option linter.unusedSimpArgs false
set_option linter.unusedVariables false
namespace Go.Proofs.YtcjafcbekegmlaaGreatDoor
set_option linter.unusedVariables false
open Go.RowKit Go.Instr
attribute [local go_sem] ba_get ByteArray.mk_append_mk
theorem it_cut_to2 (A : Option Addr) (l : List Trie.KV) (n c i : Nat) (hn : l.length = n) (hi : i ≤ n) (hc : n ≤ c) :
    ∃ A1 c1, (∀ w, (Instr.sliceAt 39 (.slice A n c) none (some (.int .i64 (i : Int))) none).run Tryz.prog w = .ok (.slice A1 i c1) w) ∧ i ≤ c1 ∧ (∀ a, A1 = some a → ∃ a0, A = some a0 ∧ a.block = a0.block) ∧ ∀ w B, Reads w B 2 A n (icells l) → Reads w B 2 A1 i (icells (l.take i)) := by
  refine ⟨if c = 0 then A else A.map (·.add (0 * 2)), c - 0, fun w => ?_, by omega, fun a ha => ?_, fun w B hr => ⟨by rw [icells_length, List.length_take]; omega, fun hp => ?_⟩⟩
  · rw [run_sliceAt_slice _ _ _ _ _ _ it_under, run_slice_h _ _ _ _ _ it_under _ _ (by omega) (by omega)]
    rw [it_elem, it_size w]
    rfl
  · split at ha
    · exact ⟨a, ha, rfl⟩
    · cases A with
      | none => cases ha
      | some a0 => injection ha with ha; subst ha; exact ⟨a0, rfl, by rw [block_of_add]⟩
  · obtain ⟨ad, rfl, hb, hcell⟩ := hr.2 (by omega)
    rw [if_neg (by omega)]
    refine ⟨ad, by simp [Addr.add], hb, fun j u hu => hcell j u ?_⟩
    rw [icells_take] at hu
    have hj : j < i * 2 := by
      have := (List.getElem?_eq_some_iff.1 hu).1
      rw [List.length_take] at this
      omega
    rw [List.getElem?_take_of_lt hj] at hu
    exact hu
def RangeIEnd (w : World) (r : List Trie.KV × List UInt8) (cd : Nat) (e : Ending) (w' : World) : Prop :=
  ∃ A c, e = .returned (.tuple #[.slice A r.1.length c, .string ⟨r.2.toArray⟩, .int .i64 (cd : Int)]) ∧ r.1.length ≤ c ∧ (∀ a, A = some a → w.heap.size ≤ a.block) ∧ Reads w' w'.heap.size 2 A r.1.length (icells r.1) ∧ Below w.heap.size w w'
set_option maxHeartbeats 1000000 in
theorem ref11_Range_bad (w : World) (v : Value) (f e : List UInt8) (most : Int) (hm : most < 1 ∨ 16 < most) :
    Calls Tryz.prog 48 #[v, .string ⟨f.toArray⟩, .string ⟨e.toArray⟩, .int .i64 most] w (RangeIEnd w ([], []) 1) := by
  have HP : Hid (RangeIEnd w ([], []) 1 (.returned (.tuple #[.slice none 0 0, .string ⟨#[]⟩, .int .i64 1])) w) := Lib.hid ⟨none, 0, rfl, Nat.le_refl _, (fun a h => by cases h), Reads.none_, Below.refl _ _⟩
  generalize RangeIEnd w ([], []) 1 = P at HP ⊢
  by_cases h1 : most < 1
  · go_enter Tryz.func48, Tryz.ntmps48
    go_wp2_with fail
    exact HP.out
  · have h2 : (16 : Int) < most := by omega
    have h3 : (most < 1) = False := by simp; omega
    clear h1 hm
    go_enter Tryz.func48, Tryz.ntmps48
    go_wp2_with fail
    exact HP.out
set_option maxRecDepth 100000 in
set_option maxHeartbeats 4000000 in
theorem ref11_Range (w : World) (L : List Trie.KV) (A : Option Addr) (c : Nat) (HR : Reads w w.heap.size 2 A L.length (icells L)) (hLc : L.length ≤ 20000) (f e : List UInt8) (m : Nat) (h1 : 1 ≤ m) (h2 : m ≤ 16) :
    Calls Tryz.prog 48 #[.slice A L.length c, .string ⟨f.toArray⟩, .string ⟨e.toArray⟩, .int .i64 (m : Int)] w (RangeIEnd w (Trie.pageW L f e m) 0) := by
  obtain ⟨j, rfl⟩ : ∃ j, m = j + 1 := ⟨m - 1, by omega⟩
  have HP : Hid (∀ l s A c w', Trie.pageW L f e (j + 1) = (l, s) → l.length ≤ c → (∀ a, A = some a → w.heap.size ≤ a.block) → Reads w' w'.heap.size 2 A l.length (icells l) → Below w.heap.size w w' → RangeIEnd w (Trie.pageW L f e (j + 1)) 0 (.returned (.tuple #[.slice A l.length c, .string ⟨s.toArray⟩, .int .i64 0])) w') := Lib.hid (fun l s A c w' h hc h0 h1 h2 => by rw [h]; exact ⟨A, c, rfl, hc, h0, h1, h2⟩)
  have HPg : Hid (Trie.pageW L f e (j + 1) = if (Trie.allIn L f e).length ≤ j + 1 then (Trie.allIn L f e, []) else ((Trie.allIn L f e).take (j + 1), Trie.behindW ((Trie.allIn L f e).getD j ([], [])).1)) := Lib.hid rfl
  generalize RangeIEnd w (Trie.pageW L f e (j + 1)) 0 = P at HP ⊢
  have HA := Lib.hid (ref11_All w L A c HR hLc f e)
  have hal : (Trie.allIn L f e).length ≤ 20000 := Nat.le_trans (List.length_filter_le _ _) hLc
  have HBe := Lib.hid (fun W key => ref11_Behind W key)
  generalize Trie.pageW L f e (j + 1) = pg at *
  generalize Trie.allIn L f e = al at *
  clear HR
  have h16 : (j : Int) + 1 ≤ 16 := by omega
  have h0 : (0 : Int) ≤ j := by omega
  have b1 : ((j : Int) + 1 < 1) = False := by simp; omega
  have b2 : ((16 : Int) < (j : Int) + 1) = False := by simp; omega
  go_enter Tryz.func48, Tryz.ntmps48
  go_wp2_with fail
  refine HA.out.mono ?_
  rintro q w1 ⟨A1, n1, c1, rfl, hn1, own1, hb1⟩
  obtain rfl := hn1
  have HB1 := Lib.hid hb1
  obtain ⟨_, _, x1, _, hc1', hlow1⟩ := own_form own1
  injection x1 with x1a _ x1c
  subst x1a
  subst x1c
  have hc1 := hc1'
  have HLow := Lib.hid hlow1
  have R1 := Lib.hid (Reads.of_own own1)
  clear own1 hb1 HA
  by_cases hle : al.length ≤ j + 1
  · have hI : (al.length : Int) ≤ (j : Int) + 1 := by omega
    have HE : Hid (pg = (al, [])) := Lib.hid (by rw [HPg.out, if_pos hle])
    clear HPg
    go_wp2_with fail
    exact HP.out _ [] _ _ _ HE.out hc1 HLow.out R1.out HB1.out
  · have hI : ((al.length : Int) ≤ (j : Int) + 1) = False := by simp; omega
    have hj : j < al.length := by omega
    have HE : Hid (pg = (al.take (j + 1), Trie.behindW (al[j]'hj).1)) := Lib.hid (by rw [HPg.out, if_neg hle, List.getD_eq_getElem?_getD, List.getElem?_eq_getElem hj]; rfl)
    obtain ⟨A2, c2, SL, hc2, hlow2, RD⟩ := it_cut_to2 A1 al al.length c1 (j + 1) rfl (by omega) hc1
    have HRD := Lib.hid (And.intro hlow2 RD)
    clear hlow2
    have SL2 := SL
    rw [show ((j + 1 : Nat) : Int) = (j : Int) + 1 from rfl] at SL2
    obtain ⟨ad, off, rfl, hbl, hcell⟩ := item_cells R1.out hj
    have q0 := (hcell _ (Below.refl _ _)).1
    have hj1 : (j : Int) < al.length := by omega
    have hj2 : (j : Int) + 1 ≤ al.length := by omega
    have hj3 : (j : Int) + 1 ≤ c1 := by omega
    have hj4 : (0 : Int) ≤ (j : Int) + 1 := by omega
    have hw : IntKind.i64.wrap ((j : Int) + 1 - 1) = (j : Int) := by rw [Int.add_sub_cancel]; exact IntWalk.i64_in _ (by omega)
    have hw2 : IntKind.i64.wrap (j : Int) = (j : Int) := IntWalk.i64_in _ (by omega)
    have HHc := Lib.hid hcell
    clear RD HPg hle hcell
    go_wp2_with fail
    generalize al[j] = x at *
    go_region_held3 (fun w' => w'.cell? ⟨ad, off + j * 2, none⟩ = some (.string ⟨x.1.toArray⟩)) (first | go_keep | assumption) ((go_at_call 57; refine (HBe.out _ _).mono ?_; rintro q w2 ⟨rfl, hb'⟩; have B2 : Below w1.heap.size w1 w2 := (by first | exact hb' | exact hb'.start); have q1 := (HHc.out _ B2).1; clear hb'))
    go_wp2_with fail
    have hlen : (al.take (j + 1)).length = j + 1 := by rw [List.length_take]; omega
    have := HP.out (al.take (j + 1)) (Trie.behindW x.1) A2 c2 w2 HE.out (by omega) (fun a ha => by
      obtain ⟨a0, e0, e1⟩ := HRD.out.1 a ha
      rw [e1]
      exact HLow.out a0 e0) (by rw [hlen]; exact HRD.out.2 _ _ ((R1.out.below B2).more B2.size)) (HB1.out.nxt B2)
    rw [hlen] at this
    exact this
theorem ref14_UpTo (w : World) (nx e : List UInt8) :
    Calls Tryz.prog 51 #[.string ⟨nx.toArray⟩, .string ⟨e.toArray⟩] w (Ret w (.string ⟨(Trie.upToW nx e).toArray⟩)) := by
  have HP : Hid (∀ s, Trie.upToW nx e = s → Ret w (.string ⟨(Trie.upToW nx e).toArray⟩) (.returned (.string ⟨s.toArray⟩)) w) := Lib.hid (fun b h => ⟨by rw [h], Below.refl _ _⟩)
  generalize Ret w (.string ⟨(Trie.upToW nx e).toArray⟩) = P at HP ⊢
  by_cases hn : nx = []
  · subst hn
    have HE : Hid (Trie.upToW [] e = e) := Lib.hid rfl
    go_enter Tryz.func51, Tryz.ntmps51
    go_wp2_with fail
    exact HP.out _ HE.out
  · have ne1 : (nx.toArray = #[]) = False := by simp [hn]
    have ne2 : nx.isEmpty = false := by simp [hn]
    have HE : Hid (Trie.upToW nx e = nx) := Lib.hid (by unfold Trie.upToW; rw [if_pos hn])
    clear hn
    go_enter Tryz.func51, Tryz.ntmps51
    go_wp2_with fail
    exact HP.out _ HE.out
end Go.Proofs.YtcjafcbekegmlaaGreatDoor

namespace Go.Proofs.YtcjafcbekegmlaaGreatDoor
set_option linter.unusedVariables false
open Go.RowKit Go.Instr
attribute [local go_sem] ba_get ByteArray.mk_append_mk
theorem spots_snoc (may : List UInt8 → Bool) (D : List (List UInt8 × Trie.T)) (i : Nat) (hi : i < D.length) : textsD ((D.take (i + 1)).filter fun x => may x.1) = textsD ((D.take i).filter fun x => may x.1) ++ (if may D[i].1 then [Trie.textT D[i].2] else []) := by
  rw [List.take_succ_eq_append_getElem hi, List.filter_append]
  unfold textsD
  rw [List.map_append]
  congr 1
  cases h : may D[i].1 <;> simp [h]
set_option maxRecDepth 100000 in
set_option maxHeartbeats 1000000 in
theorem ref10_In (w : World) (pl from_ end_ : List UInt8) (hp : pl.length ≤ 1000) (h1 : from_.length ≤ 2000) (h2 : end_.length ≤ 2000) :
    Calls Tryz.prog 87 #[.string ⟨pl.toArray⟩, .string ⟨from_.toArray⟩, .string ⟨end_.toArray⟩] w (Ret w (.bool (coverW (Nib.of from_) (Nib.of end_) end_ pl))) := by
  have HP : Hid (∀ b w', coverW (Nib.of from_) (Nib.of end_) end_ pl = b → Below w.heap.size w w' → Ret w (.bool (coverW (Nib.of from_) (Nib.of end_) end_ pl)) (.returned (.bool b)) w') := Lib.hid (fun b w' e h => ⟨by rw [e], h⟩)
  generalize Ret w (.bool (coverW (Nib.of from_) (Nib.of end_) end_ pl)) = P at HP ⊢
  have HX : Hid (coverW (Nib.of from_) (Nib.of end_) end_ pl = (decide (0 ≤ Nib.side pl (Nib.of from_)) && (end_.isEmpty || decide (Nib.side pl (Nib.of end_) ≤ 0)))) := Lib.hid rfl
  generalize coverW (Nib.of from_) (Nib.of end_) end_ pl = X at *
  have HO1 := Lib.hid (fun W => refnib_Of from_ W h1)
  have HO2 := Lib.hid (fun W => refnib_Of end_ W h2)
  have HS1 := Lib.hid (fun W => refnib_Side pl (Nib.of from_) W (by omega) (by rw [Nib.of_length]; omega))
  have HS2 := Lib.hid (fun W => refnib_Side pl (Nib.of end_) W (by omega) (by rw [Nib.of_length]; omega))
  generalize Nib.of from_ = low at *
  generalize Nib.of end_ = high at *
  generalize Nib.side pl low = s1 at *
  generalize Nib.side pl high = s2 at *
  go_enter Tryz.func87, Tryz.ntmps87
  go_wp2_with fail
  refine (HO1.out _).mono ?_
  rintro e w1 ⟨rfl, hb1⟩
  have HB1 := Lib.hid hb1
  clear hb1
  go_wp2_with fail
  refine (HS1.out _).mono ?_
  rintro e w2 ⟨rfl, hb2⟩
  have HB2 := Lib.hid (HB1.out.nxt hb2)
  clear hb2
  by_cases hs1 : s1 < 0
  · have HE : Hid (X = false) := Lib.hid (by rw [HX.out, decide_eq_false (by omega)]; rfl)
    go_wp2_with fail
    exact HP.out _ _ HE.out HB2.out
  · have hs1I : (s1 < 0) = False := by simp; omega
    have HE : Hid (X = (end_.isEmpty || decide (s2 ≤ 0))) := Lib.hid (by rw [HX.out, decide_eq_true (by omega), Bool.true_and])
    clear HX hs1
    by_cases he : end_ = []
    · subst he
      go_wp2_with fail
      exact HP.out _ _ HE.out HB2.out
    · have ne1 : (end_.toArray = #[]) = False := by simp [he]
      have ne2 : end_.isEmpty = false := by simp [he]
      rw [ne2, Bool.false_or] at HE
      clear he
      go_wp2_with fail
      refine (HO2.out _).mono ?_
      rintro e w3 ⟨rfl, hb3⟩
      have HB3 := Lib.hid (HB2.out.nxt hb3)
      clear hb3
      go_wp2_with fail
      refine (HS2.out _).mono ?_
      rintro e w4 ⟨rfl, hb4⟩
      have HB4 := Lib.hid (HB3.out.nxt hb4)
      clear hb4
      by_cases hs2 : s2 < 1
      · have hs2I : (s2 < 1) = True := by simp; omega
        rw [decide_eq_true (show s2 ≤ 0 by omega)] at HE
        clear hs2
        go_wp2_with fail
        exact HP.out _ _ HE.out HB4.out
      · have hs2I : (s2 < 1) = False := by simp; omega
        rw [decide_eq_false (show ¬ s2 ≤ 0 by omega)] at HE
        clear hs2
        go_wp2_with fail
        exact HP.out _ _ HE.out HB4.out
set_option maxRecDepth 100000 in
set_option maxHeartbeats 2000000 in
theorem ref10_Cover (w : World) (D : List (List UInt8 × Trie.T)) (hD : D.length ≤ 100000) (hp : ∀ x ∈ D, x.1.length ≤ 1000) (from_ end_ : List UInt8) (hf : from_.length ≤ 2000) (he : end_.length ≤ 2000) (A : Option Addr) (cp : Nat) (HR : Reads w w.heap.size 22 A D.length (spv D)) :
    Calls Tryz.prog 49 #[.slice A D.length cp, .string ⟨from_.toArray⟩, .string ⟨end_.toArray⟩] w (TextsEnd w (textsD (D.filter fun x => coverW (Nib.of from_) (Nib.of end_) end_ x.1))) := by
  obtain ⟨may, hmay⟩ : ∃ may, coverW (Nib.of from_) (Nib.of end_) end_ = may := ⟨_, rfl⟩
  have HIn : Hid (∀ W pl, pl.length ≤ 1000 → Calls Tryz.prog 87 #[.string ⟨pl.toArray⟩, .string ⟨from_.toArray⟩, .string ⟨end_.toArray⟩] W (Ret W (.bool (may pl)))) := Lib.hid (fun W pl h => by rw [← hmay]; exact ref10_In W pl from_ end_ h hf he)
  rw [hmay]
  have HP : Hid (∀ l A n c w', textsD (D.filter fun x => may x.1) = l → n = l.length → w'.ownsRow w.heap.size 9 1 (.slice A n c) n (strv l) → Below w.heap.size w w' → TextsEnd w (textsD (D.filter fun x => may x.1)) (.returned (.slice A n c)) w') := Lib.hid (fun l A n c w' e h1 h2 h3 => by rw [e]; exact ⟨A, n, c, rfl, h1, h2, h3⟩)
  generalize TextsEnd w (textsD (D.filter fun x => may x.1)) = P at HP ⊢
  have HRR := Lib.hid HR
  have HL := Lib.hid (And.intro hD hp)
  clear HR hD hp hf he hmay
  go_enter Tryz.func49, Tryz.ntmps49
  go_wp2_with fail
  refine wp_loop_ghost_k (fun k a wr => ∀ Φ : Act → Prop, (∀ (s3 s4 s5 s6 s9 s10 s11 s12 s13 s14 s15 s16 s17 s18 s19 s20 s21 s22 s23 s24 s25 s26 s27 s28 s29 s30 s31 : Value) (i n c2 : Nat) (O : Option Addr) (l : List (List UInt8)), (i + k = D.length ∧ n = l.length ∧ n ≤ i ∧ textsD ((D.take i).filter fun x => may x.1) = l ∧ wr.ownsRow w.heap.size 9 1 (.slice O n c2) n (strv l) ∧ Below w.heap.size w wr) → Φ { tmps := #[.slice A D.length cp, .string ⟨from_.toArray⟩, .string ⟨end_.toArray⟩, s3, s4, s5, s6, .slice O n c2, .int .i64 (i : Int), s9, s10, s11, s12, s13, s14, s15, s16, s17, s18, s19, s20, s21, s22, s23, s24, s25, s26, s27, s28, s29, s30, s31], defers := [] }) → Φ a) (D.length) ?_ ?_
  · refine fun Φ hΦ => hΦ _ _ _ _ _ _ _ _ _ _ _ _ _ _ _ _ _ _ _ _ _ _ _ _ _ _ _ (0) (0) (0) (none) ([]) ?_
    exact ⟨by omega, rfl, Nat.le_refl _, rfl, World.ownsRow_nil _ _ _ _, Below.refl _ _⟩
  · intro k1 a1 wr1 hI1 J1 K1 hJ1 hK1
    refine hI1 (fun a => Code.wp _ _ _ a _) ?_
    clear hI1 a1
    intro s0 s1 s2 s3 s4 s5 s6 s7 s8 s9 s10 s11 s12 s13 s14 s15 s16 s17 s18 s19 s20 s21 s22 s23 s24 s25 s26 i n c2 O l hrel
    show Code.wp _ _ _ _ _
    obtain ⟨h1, hnl, hni, h2, own, hb⟩ := hrel
    by_cases hi : i < D.length
    · obtain ⟨ad, off, rfl, hbl, hcell⟩ := spot_cells HRR.out hi
      obtain ⟨q0, q1, q2⟩ := hcell _ hb
      have HCl := Lib.hid hcell
      have hpx := HL.out.2 _ (List.getElem_mem hi)
      have hsn := spots_snoc may D i hi
      rw [h2] at hsn
      have hi1 : (i : Int) < D.length := by omega
      have hi0 : (0 : Int) ≤ i := by omega
      have hl := HL.out.1
      have hn3 : n ≤ 100000 := by omega
      have HI := Lib.hid (And.intro h1 (And.intro hnl hni))
      have HSn := Lib.hid hsn
      have OW := Lib.hid (And.intro own hb)
      have HIc := Lib.hid (fun W => HIn.out W D[i].1 hpx)
      clear hcell h1 h2 q2 q1 hsn hnl hni own hb hpx
      generalize Trie.textT D[i].2 = s at *
      generalize D[i].1 = pl at *
      go_wp2_with fail
      refine (HIc.out _).mono ?_
      rintro e w2 ⟨rfl, hb2⟩
      obtain ⟨q0', q1, q2⟩ := HCl.out _ (OW.out.2.nxt hb2)
      have OW2 := Lib.hid (And.intro (own_below OW.out.1 hb2) (OW.out.2.nxt hb2))
      clear hb2 q0 q0' q2
      cases hm : may pl with
      | true =>
        rw [hm, if_pos rfl] at HSn
        have hone : ∀ u ∈ [Value.string ⟨s.toArray⟩], u.oneCell' = true := by intro u hu; rw [List.mem_singleton] at hu; subst hu; rfl
        have HSV : Hid (strv (l ++ [s]) = strv l ++ [.string ⟨s.toArray⟩]) := Lib.hid (strv_snoc l s)
        generalize strv l = SV at *
        go_wp2_with (at_builtin; refine wpList_append_new w2 9 [.string ⟨s.toArray⟩] rfl _ _ 23 rfl w.heap.size 1 16 _ info_str Tryz.underlying23 rfl (by decide) (.slice O n c2) n SV rfl OW2.out.1 1 1 rfl rfl hone (by simp only [maxLen]; omega) (by omega) w.heap.size w OW2.out.2 (Nat.le_refl _) OW2.out.2.size ?_; intro v3 w3 own3 hb3 hg3 _ _; obtain ⟨A3, c3, rfl, _, _, _⟩ := own_form own3; have O3 := Lib.hid (And.intro own3 hb3); clear own3 hb3 hg3)
        refine Handed.intro (D.length - (i + 1)) ?_ (hJ1 _ _ _ (fun Φ hΦ => hΦ _ _ _ _ _ _ _ _ _ _ _ _ _ _ _ _ _ _ _ _ _ _ _ _ _ _ _ (i + 1) (n + 1) (c3) (A3) (l ++ [s]) ?_))
        · have := HI.out.1; omega
        · refine ⟨by have := HI.out.1; omega, by rw [List.length_append, ← HI.out.2.1]; rfl, by have := HI.out.2.2; omega, HSn.out, ?_, O3.out.2⟩
          rw [HSV.out]
          exact O3.out.1
      | false =>
        rw [hm, if_neg (by decide), List.append_nil] at HSn
        clear q1
        go_wp2_with fail
        refine Handed.intro (D.length - (i + 1)) ?_ (hJ1 _ _ _ (fun Φ hΦ => hΦ _ _ _ _ _ _ _ _ _ _ _ _ _ _ _ _ _ _ _ _ _ _ _ _ _ _ _ (i + 1) (n) (c2) (O) (l) ?_))
        · have := HI.out.1; omega
        · exact ⟨by have := HI.out.1; omega, HI.out.2.1, by have := HI.out.2.2; omega, HSn.out, OW2.out.1, OW2.out.2⟩
    · have hi2 : ((i : Int) < D.length) = False := by simp; omega
      rw [List.take_of_length_le (by omega)] at h2
      have H := Lib.hid (And.intro hnl (And.intro h2 (And.intro own hb)))
      clear own hb hnl hni h2 h1 hi
      go_wp2_with fail
      exact HP.out _ _ _ _ _ H.out.2.1 H.out.1 H.out.2.2.1 H.out.2.2.2
end Go.Proofs.YtcjafcbekegmlaaGreatDoor

namespace Go.Proofs.YtcjafcbekegmlaaGreatDoor
set_option linter.unusedVariables false
open Go.RowKit Go.Instr
attribute [local go_sem] ba_get ByteArray.mk_append_mk
set_option maxHeartbeats 1000000 in
theorem scan_Behind (w : World) (key : List UInt8) :
    Calls Tryz.prog 82 #[.string ⟨key.toArray⟩] w (Ret w (.string ⟨(Trie.behindW key).toArray⟩)) := by
  have HP : Hid (∀ s w', Trie.behindW key = s → Below w.heap.size w w' → Ret w (.string ⟨(Trie.behindW key).toArray⟩) (Ending.returned (.string ⟨s.toArray⟩)) w') := Lib.hid (fun s W' a1 a2 => ⟨by rw [a1], a2⟩)
  by_cases h8 : 8 < key.length
  · have HB := Lib.hid (Trie.behind_long h8)
    generalize Ret w (.string ⟨(Trie.behindW key).toArray⟩) = P at HP ⊢
    have hI : (8 : Int) < key.length := by omega
    clear h8
    go_enter Tryz.func82, Tryz.ntmps82
    go_wp2_with fail
    exact HP.out [] _ HB.out (Below.refl _ _)
  have hI : ((8 : Int) < key.length) = False := by simp; omega
  by_cases h7 : key.length < 8
  · have HB := Lib.hid (Trie.behind_short h7)
    generalize Ret w (.string ⟨(Trie.behindW key).toArray⟩) = P at HP ⊢
    have hJ : (key.length : Int) < 8 := by omega
    have hsum : key.length + 1 ≤ 9223372036854775807 := by omega
    clear h8 h7
    go_enter Tryz.func82, Tryz.ntmps82
    go_wp2_with fail
    exact HP.out _ _ HB.out (Below.refl _ _)
  have h8' : key.length = 8 := by omega
  have HZ : Hid (∀ n, n ≤ 8 → (∀ i, n ≤ i → i < 8 → key[i]? = some 255) → (n = 0 → Trie.behindW key = []) ∧ (∀ m, n = m + 1 → key.getD m 0 ≠ 255 → Trie.behindW key = key.take m ++ [key.getD m 0 + 1])) := Lib.hid (fun n hn hi => ⟨fun e => by subst e; exact Trie.behind_zero h8' (fun i h => hi i (Nat.zero_le _) h), fun m e hne => by
    subst e
    have hm : m < key.length := by omega
    have e1 : key.getD m 0 = key[m] := by rw [List.getD_eq_getElem?_getD, List.getElem?_eq_getElem hm]; rfl
    rw [e1] at hne ⊢
    exact Trie.behind_at h8' hn (Nat.succ_pos _) hi (by rw [Nat.add_sub_cancel, List.getElem?_eq_getElem hm]) hne⟩)
  generalize Ret w (.string ⟨(Trie.behindW key).toArray⟩) = P at HP ⊢
  have hL : (key.length : Int) = 8 := by omega
  have H8 := Lib.hid h8'
  clear h8 h7 h8' hI
  go_enter Tryz.func82, Tryz.ntmps82
  go_wp2_with fail
  refine wp_loop_ghost_k (fun k a wr => ∀ Φ : Act → Prop, (∀ (s1 s2 s4 s5 s6 s7 s8 s9 s10 s11 s12 s13 s14 s15 s16 s17 s18 s19 s20 s21 s22 s23 s24 s25 s26 s27 s28 s29 s30 s31 s32 s33 s34 s35 s36 s37 s38 : Value) (n : Nat), (n ≤ 8 ∧ k = n ∧ (∀ i, n ≤ i → i < 8 → key[i]? = some 255) ∧ Below w.heap.size w wr) → Φ { tmps := #[.string ⟨key.toArray⟩, s1, s2, .int .i64 (n : Int), s4, s5, s6, s7, s8, s9, s10, s11, s12, s13, s14, s15, s16, s17, s18, s19, s20, s21, s22, s23, s24, s25, s26, s27, s28, s29, s30, s31, s32, s33, s34, s35, s36, s37, s38], defers := [] }) → Φ a) (8) ?_ ?_
  · refine fun Φ hΦ => hΦ _ _ _ _ _ _ _ _ _ _ _ _ _ _ _ _ _ _ _ _ _ _ _ _ _ _ _ _ _ _ _ _ _ _ _ _ _ (8) ?_
    exact ⟨Nat.le_refl _, rfl, fun i h1 h2 => absurd h2 (by omega), Below.refl _ _⟩
  · intro k1 a1 wr1 hI1 J1 K1 hJ1 hK1
    refine hI1 (fun a => Code.wp _ _ _ a _) ?_
    clear hI1 a1
    intro s0 s1 s2 s3 s4 s5 s6 s7 s8 s9 s10 s11 s12 s13 s14 s15 s16 s17 s18 s19 s20 s21 s22 s23 s24 s25 s26 s27 s28 s29 s30 s31 s32 s33 s34 s35 s36 n hrel
    show Code.wp _ _ _ _ _
    obtain ⟨h1, h2, h3, hb⟩ := hrel
    have HH := Lib.hid h3
    have HBl := Lib.hid hb
    clear h3 hb
    cases n with
    | zero =>
      have HB := Lib.hid ((HZ.out 0 (by omega) HH.out).1 rfl)
      clear h1 h2 HZ
      go_wp2_with fail
      exact HP.out [] _ HB.out HBl.out
    | succ m =>
      have hm : m < key.length := by have := H8.out; omega
      have HX := fun W => run_byte key m hm W
      have hp : (0 : Int) < (m : Int) + 1 := by omega
      have em : ((m : Int) + 1 - 1) = (m : Int) := by omega
      have hw : IntKind.i64.wrap (m : Int) = (m : Int) := IntWalk.i64_in _ (by omega)
      have HN := Lib.hid ((HZ.out (m + 1) h1 HH.out).2 m rfl)
      have HU : Hid (key.getD m 0 = 255 → ∀ i, m ≤ i → i < 8 → key[i]? = some 255) := Lib.hid (fun e i g1 g2 => by
        by_cases hi : i = m
        · subst hi
          rw [List.getElem?_eq_getElem hm]
          rw [List.getD_eq_getElem?_getD, List.getElem?_eq_getElem hm] at e
          exact congrArg some e
        · exact HH.out i (by omega) g2)
      have HT := fun W => run_take key m (by omega) W
      have HM := Lib.hid (And.intro h1 (And.intro h2 hm))
      clear HZ h1 h2 HH
      generalize key.getD m 0 = b at *
      by_cases hb : b = 255
      · have hbI : ((b.toNat : Int) == 255) = true := by subst hb; rfl
        have HU2 := Lib.hid (HU.out hb)
        clear hb HU HN HT
        go_wp2_with fail
        refine Handed.intro (m) ?_ (hJ1 _ _ _ (fun Φ hΦ => hΦ _ _ _ _ _ _ _ _ _ _ _ _ _ _ _ _ _ _ _ _ _ _ _ _ _ _ _ _ _ _ _ _ _ _ _ _ _ (m) ?_))
        · have := HM.out.2.1; omega
        · exact ⟨by have := HM.out.1; omega, rfl, HU2.out, HBl.out⟩
      · have hn255 : b.toNat ≠ 255 := fun e => hb (UInt8.toNat_inj.1 e)
        have hbI : ((b.toNat : Int) == 255) = false := by simp; omega
        have hlt := b.toNat_lt
        have HB := Lib.hid (HN.out hb)
        have hbw : IntKind.u8.wrap ((b.toNat : Int) + 1) = (b.toNat : Int) + 1 := IntWalk.u8_in _ (by omega)
        have hcv : UInt8.ofNat ((b.toNat : Int) + 1).toNat = b + 1 := by
          apply UInt8.toNat_inj.1
          rw [UInt8.toNat_add]
          simp
        have hq0 : (0 : Int) ≤ (b.toNat : Int) + 1 := by omega
        have hq1 : (b.toNat : Int) + 1 < 256 := by omega
        have hc1 := fun W => conv1 W ((b.toNat : Int) + 1) hq0 hq1
        have hc2 := fun W => conv1d W ((b.toNat : Int) + 1) hq0 hq1
        rw [hcv] at hc1 hc2
        have hmz : ((m : Int) + 1 == 0) = false := by simp; omega
        have hjs : (key.take m).length + 1 ≤ 9223372036854775807 := by rw [List.length_take]; omega
        clear hb HU HN hn255 hcv hlt hq0 hq1
        generalize key.take m = pre at *
        go_wp2_with fail
        go_region
        all_goals go_wp2
        all_goals exact HP.out _ _ HB.out (HBl.out.nxt (by go_grown))
end Go.Proofs.YtcjafcbekegmlaaGreatDoor

namespace Go.Proofs.YtcjafcbekegmlaaGreatDoor
set_option linter.unusedVariables false
open Go.RowKit Go.Shelf Go.Instr
attribute [local go_sem] ba_get ByteArray.mk_append_mk
attribute [local go_sem] Oper.semAt_some
def NotOwn (b : Nat) (W : World) (g : Nat) : Prop := ∀ o n c, W.cell? ⟨b, 0, none⟩ ≠ some (.slice (some ⟨g, o, none⟩) n c)
def Safe (b : Nat) (W : World) (g : Nat) : Prop := g ≠ b ∧ g ≠ b + 1 ∧ g ≠ b + 2 ∧ (∃ o, W.heap[g]? = some o ∧ o.isCells = true) ∧ NotOwn b W g
def KpI (b : Nat) (W W' : World) : Prop := W.heap.size ≤ W'.heap.size ∧ ∀ g, Safe b W g → W'.heap[g]? = W.heap[g]? ∧ NotOwn b W' g
theorem KpI.safe {b g : Nat} {W W' : World} (h : KpI b W W') (hs : Safe b W g) : Safe b W' g := by
  obtain ⟨h1, h2⟩ := h.2 g hs
  obtain ⟨a1, a2, a3, ⟨o, a4, a5⟩, a6⟩ := hs
  exact ⟨a1, a2, a3, ⟨o, h1.trans a4, a5⟩, h2⟩
theorem KpI.trans {b : Nat} {A B C : World} (h : KpI b A B) (k : KpI b B C) : KpI b A C :=
  ⟨Nat.le_trans h.1 k.1, fun g hs => ⟨((k.2 g (h.safe hs)).1).trans (h.2 g hs).1, (k.2 g (h.safe hs)).2⟩⟩
theorem cell_of_heap {W W' : World} {p : Addr} (h : W'.heap[p.block]? = W.heap[p.block]?) : W'.cell? p = W.cell? p := by
  unfold World.cell?
  rw [h]
theorem KpI.book {b : Nat} {w : World} (hb : b < w.heap.size) (W : World) (l : Nat) (o o' : Obj) (hl : w.heap.size ≤ l) (h : W.heap[l]? = some o) (hc : o.isCells = false) (_ : o.isWalk = false) : KpI b W (W.putObj l o') := by
  refine ⟨by simp [World.putObj], fun g hs => ?_⟩
  obtain ⟨a1, a2, a3, ⟨o1, a4, a5⟩, a6⟩ := hs
  have hne : g ≠ l := fun e => by subst e; rw [h] at a4; cases a4; rw [hc] at a5; cases a5
  refine ⟨World.putObj_heap_other hne, fun o2 n c => ?_⟩
  rw [cell_of_heap (W := W) (World.putObj_heap_other (by simp only; omega))]
  exact a6 o2 n c
structure KeepS (b : Nat) (W1 W : World) (S : Nat → Prop) : Prop where
  size : W1.heap.size ≤ W.heap.size
  same : ∀ g, S g → W.heap[g]? = W1.heap[g]?
  safe : ∀ g, S g → Safe b W g
theorem KeepS.kp {b : Nat} {W1 W W' : World} {S : Nat → Prop} (h : KeepS b W1 W S) (k : KpI b W W') : KeepS b W1 W' S :=
  ⟨Nat.le_trans h.size k.1, fun g hg => ((k.2 g (h.safe g hg)).1).trans (h.same g hg), fun g hg => k.safe (h.safe g hg)⟩
theorem KeepS.alloc {b : Nat} {W1 W : World} {S : Nat → Prop} (h : KeepS b W1 W S) (hb : b < W.heap.size) (o : Obj) : KeepS b W1 (W.alloc o) S := by
  have hs : ∀ g, g < W.heap.size → (W.alloc o).heap[g]? = W.heap[g]? := fun g hg => Below.heap_alloc _ _ _ hg
  have lt : ∀ g, S g → g < W.heap.size := fun g hg => by
    obtain ⟨_, _, _, ⟨o1, a4, _⟩, _⟩ := h.safe g hg
    exact (Array.getElem?_eq_some_iff.1 a4).1
  refine ⟨Nat.le_trans h.size (by simp), fun g hg => (hs g (lt g hg)).trans (h.same g hg), fun g hg => ?_⟩
  obtain ⟨a1, a2, a3, ⟨o1, a4, a5⟩, a6⟩ := h.safe g hg
  refine ⟨a1, a2, a3, ⟨o1, (hs g (lt g hg)).trans a4, a5⟩, fun o2 n c => ?_⟩
  rw [cell_of_heap (W := W) (hs b hb)]
  exact a6 o2 n c
theorem KeepS.cell {b : Nat} {W1 W : World} {S : Nat → Prop} (h : KeepS b W1 W S) {p : Addr} (hp : S p.block) : W.cell? p = W1.cell? p := cell_of_heap (h.same _ hp)
theorem cells_of_cell {W : World} {p : Addr} {v : Value} (hv : W.cell? p = some v) : ∃ o, W.heap[p.block]? = some o ∧ o.isCells = true := by
  unfold World.cell? at hv
  split at hv
  · rename_i c t e ho
    exact ⟨_, ho, rfl⟩
  · cases hv
theorem KeepS.start {b : Nat} {W : World} {S : Nat → Prop} (hn : W.cell? ⟨b, 0, none⟩ = some (.slice none 0 0)) (h : ∀ g, S g → g ≠ b ∧ g ≠ b + 1 ∧ g ≠ b + 2 ∧ ∃ o, W.heap[g]? = some o ∧ o.isCells = true) : KeepS b W W S := by
  refine ⟨Nat.le_refl _, fun _ _ => rfl, fun g hg => ?_⟩
  obtain ⟨a1, a2, a3, hv⟩ := h g hg
  exact ⟨a1, a2, a3, hv, fun o n c e => by rw [hn] at e; injection e with e; injection e with e; cases e⟩
theorem iter_next {B : Nat} {J : List Trie.KV → World → Prop} (h : AbidesFrom B J) {pre : List Trie.KV} {W W' : World} (hj : J pre W) (hb : Below W.heap.size W W') : J pre W' :=
  h pre W W' none hj (only_of_below hb none) (fun r e => by cases e)
theorem allIn_snoc (l : List Trie.KV) (x : Trie.KV) (f e : List UInt8) : Trie.allIn (l ++ [x]) f e = if Trie.inK f e x.1 = true then Trie.allIn l f e ++ [x] else Trie.allIn l f e := by
  unfold Trie.allIn
  rw [List.filter_append]
  by_cases h : Trie.inK f e x.1 = true
  · rw [if_pos h]; simp [h]
  · rw [if_neg h]; simp [h]
theorem allIn_stop {L : List Trie.KV} (hr : Trie.rises L) (f e : List UInt8) (he : e ≠ []) (i : Nat) (hi : i < L.length) (hx : Op.bytesLess L[i].1 e = false) : Trie.allIn L f e = Trie.allIn (L.take i) f e := by
  have hd : Trie.allIn (L.drop i) f e = [] := by
    unfold Trie.allIn
    rw [List.filter_eq_nil_iff]
    intro y hy
    obtain ⟨j, hj, rfl⟩ := List.getElem_of_mem hy
    rw [List.length_drop] at hj
    rw [List.getElem_drop]
    have hle : Op.bytesLess (L[i + j]'(by omega)).1 e = false := by
      by_cases h0 : j = 0
      · subst h0; exact hx
      · have h1 := List.pairwise_iff_getElem.1 hr i (i + j) hi (by omega) (by omega)
        cases h2 : Op.bytesLess (L[i + j]'(by omega)).1 e with
        | false => rfl
        | true => rw [bl_trans _ _ _ h1 h2] at hx; cases hx
    unfold Trie.inK
    simp [hle, he]
  conv => lhs; rw [← List.take_append_drop i L]
  unfold Trie.allIn at hd ⊢
  rw [List.filter_append, hd, List.append_nil]
theorem allIn_take_le (L : List Trie.KV) (f e : List UInt8) (i : Nat) : Trie.allIn (L.take i) f e <+: Trie.allIn L f e := by
  refine ⟨Trie.allIn (L.drop i) f e, ?_⟩
  unfold Trie.allIn
  rw [← List.filter_append, List.take_append_drop]
set_option maxHeartbeats 1000000 in
theorem scan_within (w : World) (p : Option Addr) (f e : ByteArray) :
    CallsIn Fence.wide 5 Tryz.prog 81 #[.pointer p, .string f, .string e] w fun r w' => r = .returned (.func (.func 114) #[] #[.pointer (some ⟨w.heap.size, 0, none⟩), .pointer (some ⟨w.heap.size + 1, 0, none⟩), .pointer (some ⟨w.heap.size + 1 + 1, 0, none⟩)]) ∧
      w' = ((w.alloc (.cells #[.pointer p] 42)).alloc (.cells #[.string f] 9)).alloc (.cells #[.string e] 9) := by
  refine callsIn_of_wp Tryz.func81 rfl trivial ?_ rfl
  simp only [Tryz.ntmps81, List.size_toArray, List.length_cons, List.length_nil, Nat.reduceAdd, Nat.reduceSub, Array.replicate_succ, Array.replicate_zero, List.push_toArray, List.append_toArray, List.nil_append, List.cons_append]
  gi_wp2
  go_ret
  exact ⟨rfl, rfl⟩
end Go.Proofs.YtcjafcbekegmlaaGreatDoor
