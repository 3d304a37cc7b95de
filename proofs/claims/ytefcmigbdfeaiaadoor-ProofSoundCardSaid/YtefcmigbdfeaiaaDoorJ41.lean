import Derived.Test.YtefcmigbdfeaiaaDoorJ40
import Derived.Test.YtefcmigbdfeaiaaDoorJ36
import Derived.Test.YtefcmigbdfeaiaaDoorJ27
import Derived.Test.YtefcmigbdfeaiaaDoorJ09
set_option linter.unusedSimpArgs false
set_option linter.unusedVariables false
/- The document's layer 10 (trie): Root, Texts, In. No conditions. -/
namespace Go.Proofs.YtefcmigbdfeaiaaDoor
set_option linter.unusedVariables false
open Go.RowKit Go.Instr
attribute [local go_sem] ba_get ByteArray.mk_append_mk
theorem goT_nil_iff {t : Trie.T} (pl : List UInt8) : Trie.goT allW t pl = [] ↔ t = .nil := by
  cases t <;> simp [Trie.goT, allW]
theorem goT_first {t : Trie.T} (hn : t ≠ .nil) (pl : List UInt8) : ∃ D, Trie.goT allW t pl = (pl, t) :: D := by
  cases t with
  | nil => exact absurd rfl hn
  | leaf p v => exact ⟨[], by simp [Trie.goT, allW]⟩
  | ext p t => exact ⟨_, by simp [Trie.goT, allW]; rfl⟩
  | branch v kids => exact ⟨_, by simp [Trie.goT, allW]; rfl⟩
theorem texts_snoc (D : List (List UInt8 × Trie.T)) (x : List UInt8 × Trie.T) : textsD (D ++ [x]) = textsD D ++ [Trie.textT x.2] := by simp [textsD]
theorem strv_snoc (D : List (List UInt8)) (s : List UInt8) : strv (D ++ [s]) = strv D ++ [.string ⟨s.toArray⟩] := by simp [strv]
theorem texts_len (D : List (List UInt8 × Trie.T)) : (textsD D).length = D.length := by simp [textsD]
theorem itemsW_len (t : Trie.T) : (Trie.itemsW t).length = Trie.count t := by rw [Trie.itemsW, List.length_map, Trie.length_items]
set_option maxRecDepth 100000 in
set_option maxHeartbeats 2000000 in
theorem ref10_Root (w : World) (t : Trie.T) (h : Trie.Good t) (hc : Trie.count t ≤ 2000) (A : Option Addr) (cp : Nat) (HR : Reads w w.heap.size 2 A (Trie.itemsW t).length (icells (Trie.itemsW t))) :
    Calls Tryd.prog 26 #[.slice A (Trie.itemsW t).length cp] w (Ret w (.string ⟨(Trie.sumT t).toArray⟩)) := by
  have HP : Hid (∀ w', Below w.heap.size w w' → Ret w (.string ⟨(Trie.sumT t).toArray⟩) (.returned (.string ⟨(Trie.sumT t).toArray⟩)) w') := Lib.hid (fun w' g => ⟨rfl, g⟩)
  generalize Ret w (.string ⟨(Trie.sumT t).toArray⟩) = P at HP ⊢
  have HS := Lib.hid (ref10_Spots w t h hc A cp (Trie.itemsW t).length (itemsW_len t) HR)
  clear HR hc h
  by_cases hn : t = .nil
  · rw [(goT_nil_iff []).2 hn] at HS
    subst hn
    go_enter Tryd.func26, Tryd.ntmps26
    go_wp2_with fail
    refine HS.out.mono ?_
    rintro e w1 ⟨A1, c1, n1, rfl, hn1, own1, hb1⟩
    have HB := Lib.hid hb1
    obtain rfl : n1 = 0 := hn1
    clear own1 hb1
    go_wp2_with fail
    exact HP.out _ HB.out
  · obtain ⟨D, hD⟩ := goT_first hn []
    rw [hD] at HS
    clear hD
    go_enter Tryd.func26, Tryd.ntmps26
    go_wp2_with fail
    refine HS.out.mono ?_
    rintro e w1 ⟨A1, c1, n1, rfl, hn1, own1, hb1⟩
    obtain rfl := hn1
    obtain ⟨ad, off, rfl, hbl, hcell⟩ := spot_cells (Reads.of_own own1) (i := 0) (by simp)
    obtain ⟨q0, q1, q2⟩ := hcell _ (Below.refl _ _)
    simp only [List.getElem_cons_zero, Nat.zero_mul, Nat.add_zero] at q0 q1 q2
    have HB := Lib.hid hb1
    have hz : ((D.length + 1 : Nat) : Int) ≠ 0 := by omega
    have hz2 : (((([], t) :: D : List (List UInt8 × Trie.T)).length : Nat) : Int) = (D.length : Int) + 1 := by simp
    have hz3 : (0 : Int) < (D.length : Int) + 1 := by omega
    have hz4 : ((D.length : Int) + 1 == 0) = false := by simp; omega
    clear own1 hb1 hcell q0 q1 hz
    go_wp2_with fail
    exact HP.out _ HB.out
set_option maxRecDepth 100000 in
set_option maxHeartbeats 2000000 in
theorem ref10_Texts (w : World) (D : List (List UInt8 × Trie.T)) (hD : D.length ≤ 100000) (A : Option Addr) (cp : Nat) (HR : Reads w w.heap.size 22 A D.length (spv D)) :
    Calls Tryd.prog 19 #[.slice A D.length cp] w (TextsEnd w (textsD D)) := by
  have HP : Hid (∀ A n c w', n = (textsD D).length → w'.ownsRow w.heap.size 9 1 (.slice A n c) n (strv (textsD D)) → Below w.heap.size w w' → TextsEnd w (textsD D) (.returned (.slice A n c)) w') := Lib.hid (fun A n c w' h1 h2 h3 => ⟨A, n, c, rfl, h1, h2, h3⟩)
  generalize TextsEnd w (textsD D) = P at HP ⊢
  have HRR := Lib.hid HR
  have HL := Lib.hid hD
  clear HR hD
  go_enter Tryd.func19, Tryd.ntmps19
  go_wp2
  refine wp_loop_ghost_k (fun k a wr => ∀ Φ : Act → Prop, (∀ (s1 s2 s5 s6 s7 s8 s9 s10 s11 s12 s13 s14 s15 s16 s17 s18 s19 : Value) (i n c2 : Nat) (O : Option Addr), (i + k = D.length ∧ n = i ∧ wr.ownsRow w.heap.size 9 1 (.slice O n c2) n (strv (textsD (D.take i))) ∧ Below w.heap.size w wr) → Φ { tmps := #[.slice A D.length cp, s1, s2, .slice O n c2, .int .i64 (i : Int), s5, s6, s7, s8, s9, s10, s11, s12, s13, s14, s15, s16, s17, s18, s19], defers := [] }) → Φ a) (D.length) ?_ ?_
  · refine fun Φ hΦ => hΦ _ _ _ _ _ _ _ _ _ _ _ _ _ _ _ _ _ (0) (0) (0) (none) ?_
    exact ⟨by omega, rfl, World.ownsRow_nil _ _ _ _, Below.refl _ _⟩
  · intro k1 a1 wr1 hI1 J1 K1 hJ1 hK1
    refine hI1 (fun a => Code.wp _ _ _ a _) ?_
    clear hI1 a1
    intro s0 s1 s2 s3 s4 s5 s6 s7 s8 s9 s10 s11 s12 s13 s14 s15 s16 i n c2 O hrel
    show Code.wp _ _ _ _ _
    obtain ⟨h1, rfl, own, hb⟩ := hrel
    by_cases hi : n < D.length
    · obtain ⟨ad, off, rfl, hbl, hcell⟩ := spot_cells HRR.out hi
      obtain ⟨q0, q1, q2⟩ := hcell _ hb
      have HS : Hid (strv (textsD (D.take (n + 1))) = strv (textsD (D.take n)) ++ [.string ⟨(Trie.textT D[n].2).toArray⟩]) := Lib.hid (by
        rw [List.take_succ_eq_append_getElem hi, texts_snoc, strv_snoc])
      have hi1 : (n : Int) < D.length := by omega
      have hi0 : (0 : Int) ≤ n := by omega
      have hl := HL.out
      have hn3 : n ≤ 100000 := by omega
      have HI := Lib.hid h1
      clear hcell h1 q0 q2
      generalize Trie.textT D[n].2 = s at *
      have hone : ∀ u ∈ [Value.string ⟨s.toArray⟩], u.oneCell' = true := by intro u hu; rw [List.mem_singleton] at hu; subst hu; rfl
      generalize strv (textsD (D.take n)) = SV at *
      go_wp2_with (at_builtin; refine wpList_append_new wr1 9 [.string ⟨s.toArray⟩] rfl _ _ 36 rfl w.heap.size 1 16 _ info_str Tryd.underlying36 rfl (by decide) (.slice O n c2) n SV rfl own 1 1 rfl rfl hone (by simp only [maxLen]; omega) (by omega) w.heap.size w hb (Nat.le_refl _) hb.size ?_; intro v3 w3 own3 hb3 hg3 _ _; obtain ⟨A3, c3, rfl, _, _, _⟩ := own_form own3; have O3 := Lib.hid (And.intro own3 hb3); clear own3 hb3 hg3)
      refine Handed.intro (D.length - (n + 1)) ?_ (hJ1 _ _ _ (fun Φ hΦ => hΦ _ _ _ _ _ _ _ _ _ _ _ _ _ _ _ _ _ (n + 1) (n + 1) (c3) (A3) ?_))
      · have := HI.out; omega
      · refine ⟨by have := HI.out; omega, rfl, ?_, O3.out.2⟩
        rw [HS.out]
        exact O3.out.1
    · have hi2 : ((n : Int) < D.length) = False := by simp; omega
      have e : D.take n = D := List.take_of_length_le (by omega)
      rw [e] at own
      have hl : n = (textsD D).length := by rw [texts_len]; omega
      have H := Lib.hid (And.intro hl (And.intro own hb))
      clear own hb e hl
      go_wp2_with fail
      exact HP.out _ _ _ _ H.out.1 H.out.2.1 H.out.2.2
theorem side_low {x y : List UInt8} (z : List UInt8) (h : 0 ≤ Nib.side (x ++ z) y) : 0 ≤ Nib.side x y := by
  refine Decidable.byContradiction fun hn => ?_
  have h1 : Nib.side x y = -1 := by rcases Nib.side_cases x y with e | e | e <;> omega
  have h2 := Nib.side_below z h1
  have : Nib.side (x ++ z) y = -1 := by
    unfold Nib.side at h1 ⊢
    split at h1
    · cases h1
    · rename_i e1
      split at h1
      · cases h1
      · rename_i e2
        have hle := Nib.common_le x y
        obtain ⟨c1, c2⟩ := Nib.common_append x z y (by omega)
        rw [c1, if_neg e1, if_neg (by rw [List.length_append]; omega), c2]
        exact h1
  omega
theorem side_high {x y : List UInt8} (z : List UInt8) (h : Nib.side (x ++ z) y ≤ 0) : Nib.side x y ≤ 0 := by
  refine Decidable.byContradiction fun hn => ?_
  have h1 : Nib.side x y = 1 := by rcases Nib.side_cases x y with e | e | e <;> omega
  have : Nib.side (x ++ z) y = 1 := by
    by_cases e1 : Nib.common x y = y.length
    · have := Nib.common_append_le x z y e1
      unfold Nib.side
      rw [if_pos this]
    · unfold Nib.side at h1 ⊢
      rw [if_neg e1] at h1
      split at h1
      · cases h1
      · rename_i e2
        have hle := Nib.common_le x y
        obtain ⟨c1, c2⟩ := Nib.common_append x z y (by omega)
        rw [c1, if_neg e1, if_neg (by rw [List.length_append]; omega), c2]
        exact h1
  omega
theorem goT_below (may : List UInt8 → Bool) (t : Trie.T) : ∀ pl, (∀ z, may (pl ++ z) = false) → (Trie.goT allW t pl).filter (fun x => may x.1) = [] := by
  induction t with
  | nil => intro pl _; rfl
  | leaf p v =>
    intro pl h
    have := h []
    rw [List.append_nil] at this
    simp [Trie.goT, allW, this]
  | ext p t ih =>
    intro pl h
    have h0 := h []
    rw [List.append_nil] at h0
    simp only [Trie.goT, allW, if_true]
    rw [List.filter_cons, if_neg (by simp [h0])]
    exact ih _ fun z => by rw [List.append_assoc]; exact h _
  | branch v kids ih =>
    intro pl h
    have h0 := h []
    rw [List.append_nil] at h0
    simp only [Trie.goT, allW, if_true]
    rw [List.filter_cons, if_neg (by simp [h0]), List.filter_flatMap, List.flatMap_eq_nil_iff]
    intro i _
    exact ih i _ fun z => by rw [List.append_assoc]; exact h _
/-- what is gone into just where it may be, is those of all that may be -/
theorem goT_filter (may : List UInt8 → Bool) (hm : ∀ pl z, may (pl ++ z) = true → may pl = true) (t : Trie.T) : ∀ pl, Trie.goT may t pl = (Trie.goT allW t pl).filter (fun x => may x.1) := by
  have key : ∀ t pl, may pl = false → (Trie.goT allW t pl).filter (fun x => may x.1) = [] := fun t pl h => goT_below may t pl fun z => by
    cases he : may (pl ++ z) with
    | false => rfl
    | true => rw [hm pl z he] at h; cases h
  induction t with
  | nil => intro pl; rfl
  | leaf p v =>
    intro pl
    cases h : may pl with
    | false => rw [key _ _ h]; simp [Trie.goT, h]
    | true => simp [Trie.goT, allW, h]
  | ext p t ih =>
    intro pl
    cases h : may pl with
    | false => rw [key _ _ h]; simp [Trie.goT, h]
    | true =>
      simp only [Trie.goT, allW, if_true, h]
      rw [List.filter_cons, if_pos (by simp [h]), ih (pl ++ p)]
  | branch v kids ih =>
    intro pl
    cases h : may pl with
    | false => rw [key _ _ h]; simp [Trie.goT, h]
    | true =>
      simp only [Trie.goT, allW, if_true, h]
      rw [List.filter_cons, if_pos (by simp [h]), List.filter_flatMap]
      congr 2
      funext i
      exact ih i _
theorem trail_closed (path : List UInt8) (pl z : List UInt8) (h : trailW path (pl ++ z) = true) : trailW path pl = true := by
  have := Trie.prefix_common.1 (of_decide_eq_true h)
  refine decide_eq_true (Trie.prefix_common.2 ?_)
  rw [this]
  simp
theorem cover_closed (low high end_ : List UInt8) (pl z : List UInt8) (h : coverW low high end_ (pl ++ z) = true) : coverW low high end_ pl = true := by
  simp only [coverW, Bool.and_eq_true, Bool.or_eq_true, decide_eq_true_eq] at h ⊢
  exact ⟨side_low z h.1, h.2.imp id (side_high z)⟩
theorem told_filter (may : List UInt8 → Bool) (hm : ∀ pl z, may (pl ++ z) = true → may pl = true) (t : Trie.T) : toldW may t = textsD ((Trie.goT allW t []).filter fun x => may x.1) := by
  unfold toldW
  rw [goT_filter may hm]
end Go.Proofs.YtefcmigbdfeaiaaDoor

/- The document's layer 1 (nibble): Unpack. No conditions. -/
namespace Go.Proofs.YtefcmigbdfeaiaaDoor
set_option linter.unusedVariables false
open Go.RowKit
attribute [local go_sem] ba_get ByteArray.mk_append_mk ByteArray.extract_mk

theorem refnib_Unpack_nil (w : World) :
    Calls Tryd.prog 123 #[.string ⟨#[]⟩] w fun e w' => e = .returned (.tuple #[.string ⟨#[]⟩, .bool false, .int .i64 3]) ∧ Below w.heap.size w w' := by
  go_enter Tryd.func123, Tryd.ntmps123
  go_wp2
  go_ret3
  exact ⟨rfl, Below.refl _ _⟩

set_option maxHeartbeats 400000 in
theorem refnib_Unpack_cons (b : UInt8) (r : List UInt8) (w : World) (hs : r.length ≤ 1999) :
    Calls Tryd.prog 123 #[.string ⟨(b :: r).toArray⟩] w fun e w' => e = .returned (.tuple #[.string ⟨(Nib.unpack (b :: r)).1.toArray⟩, .bool (Nib.unpack (b :: r)).2.1, .int .i64 (Nib.unpack (b :: r)).2.2]) ∧ Below w.heap.size w w' := by
  have hlt := b.toNat_lt
  rw [Nib.unpack_cons]
  have ho : Nib.of (b :: r) = b / 16 :: b % 16 :: Nib.of r := by simp [Nib.of]
  obtain ⟨x, hx⟩ : ∃ x, x = b / 16 := ⟨_, rfl⟩
  obtain ⟨y, hy⟩ : ∃ y, y = b % 16 := ⟨_, rfl⟩
  have hxn : x.toNat = b.toNat / 16 := by rw [hx]; simp
  have hyn : y.toNat = b.toNat % 16 := by rw [hy]; simp
  rw [← hx, ← hy] at ho
  have HO := Lib.hid ho
  have HL := Nib.of_length r
  have HL2 : (Nib.of r).length ≤ 4000 := by omega
  rw [← hxn, ← hyn, ← hy]
  clear hx hy ho HL
  have hx16 : x.toNat < 16 := by omega
  clear hxn hyn hlt
  by_cases h1 : 3 < x.toNat
  · have hk : 3 < (x.toNat : Int) := by omega
    rw [if_pos (.inl h1)]
    clear h1
    go_enter Tryd.func123, Tryd.ntmps123
    go_wp2_with fail
    refine (refnib_Of (b :: r) _ (by simp; omega)).mono ?_
    rintro e w1 ⟨rfl, hb⟩
    rw [HO.out]
    go_wp2
    go_ret3
    exact ⟨rfl, hb⟩
  · have hk : ¬ 3 < (x.toNat : Int) := by omega
    have hge : decide (2 ≤ (x.toNat : Int)) = decide (2 ≤ x.toNat) := by rw [decide_eq_decide]; omega
    have HG := Lib.hid hge
    clear hge
    by_cases h2 : x.toNat % 2 = 1
    · rw [if_neg (by omega), if_pos h2]
      have ho1 : ((x.toNat : Int) % 2 == 0) = false := by rw [beq_eq_false_iff_ne]; omega
      have ho2 : ((x.toNat : Int) % 2 == 1) = true := by rw [beq_iff_eq]; omega
      clear h1 h2
      go_enter Tryd.func123, Tryd.ntmps123
      go_wp2_with fail
      refine (refnib_Of (b :: r) _ (by simp; omega)).mono ?_
      rintro e w1 ⟨rfl, hb⟩
      rw [HO.out]
      go_wp2
      go_ret3
      rw [← HG.out]
      exact ⟨rfl, hb⟩
    · have ho1 : ((x.toNat : Int) % 2 == 0) = true := by rw [beq_iff_eq]; omega
      have ho2 : ((x.toNat : Int) % 2 == 1) = false := by rw [beq_eq_false_iff_ne]; omega
      by_cases h3 : y.toNat = 0
      · rw [if_neg (by omega), if_neg h2]
        have hz : ((y.toNat : Int) != 0) = false := by simp; omega
        clear h1 h2 h3
        go_enter Tryd.func123, Tryd.ntmps123
        go_wp2_with fail
        refine (refnib_Of (b :: r) _ (by simp; omega)).mono ?_
        rintro e w1 ⟨rfl, hb⟩
        rw [HO.out]
        go_wp2
        go_ret3
        rw [← HG.out]
        exact ⟨rfl, hb⟩
      · rw [if_pos (.inr ⟨by omega, h3⟩)]
        have hz : ((y.toNat : Int) != 0) = true := by rw [bne_iff_ne]; omega
        clear h1 h2 h3
        go_enter Tryd.func123, Tryd.ntmps123
        go_wp2_with fail
        refine (refnib_Of (b :: r) _ (by simp; omega)).mono ?_
        rintro e w1 ⟨rfl, hb⟩
        rw [HO.out]
        go_wp2
        go_ret3
        exact ⟨rfl, hb⟩
theorem refnib_Unpack (s : List UInt8) (w : World) (hs : s.length ≤ 2000) :
    Calls Tryd.prog 123 #[.string ⟨s.toArray⟩] w fun e w' => e = .returned (.tuple #[.string ⟨(Nib.unpack s).1.toArray⟩, .bool (Nib.unpack s).2.1, .int .i64 (Nib.unpack s).2.2]) ∧ Below w.heap.size w w' := by
  cases s with
  | nil => exact refnib_Unpack_nil w
  | cons b r => exact refnib_Unpack_cons b r w (by simp at hs; omega)
end Go.Proofs.YtefcmigbdfeaiaaDoor

/- The document's layer 10 (trie): Trail, In, Cover. No conditions. -/
namespace Go.Proofs.YtefcmigbdfeaiaaDoor
set_option linter.unusedVariables false
open Go.RowKit Go.Instr
attribute [local go_sem] ba_get ByteArray.mk_append_mk
theorem spots_snoc (may : List UInt8 → Bool) (D : List (List UInt8 × Trie.T)) (i : Nat) (hi : i < D.length) : textsD ((D.take (i + 1)).filter fun x => may x.1) = textsD ((D.take i).filter fun x => may x.1) ++ (if may D[i].1 then [Trie.textT D[i].2] else []) := by
  rw [List.take_succ_eq_append_getElem hi, List.filter_append]
  unfold textsD
  rw [List.map_append]
  congr 1
  cases h : may D[i].1 <;> simp [h]
theorem trail_test (path pl : List UInt8) : trailW path pl = (decide (pl.length ≤ path.length) && (path.take pl.length == pl)) := by
  cases h : trailW path pl with
  | true =>
    have h1 := Trie.prefix_common.1 (of_decide_eq_true h)
    have h2 : path.take pl.length = pl := by rw [h1]; simp
    have h3 : pl.length ≤ path.length := by rw [h1]; simp
    simp [h2, h3]
  | false =>
    by_cases h3 : pl.length ≤ path.length
    · by_cases h2 : path.take pl.length = pl
      · exfalso
        have : trailW path pl = true := decide_eq_true (Trie.prefix_common.2 (by
          conv => lhs; rw [← List.take_append_drop pl.length path, h2]))
        rw [h] at this
        cases this
      · simp [h2]
    · simp [h3]
set_option maxRecDepth 100000 in
set_option maxHeartbeats 2000000 in
theorem ref10_Trail (w : World) (D : List (List UInt8 × Trie.T)) (hD : D.length ≤ 100000) (hp : ∀ x ∈ D, x.1.length ≤ 1000) (key : List UInt8) (hk : key.length ≤ 2000) (A : Option Addr) (cp : Nat) (HR : Reads w w.heap.size 22 A D.length (spv D)) :
    Calls Tryd.prog 21 #[.slice A D.length cp, .string ⟨key.toArray⟩] w (TextsEnd w (textsD (D.filter fun x => trailW (Nib.of key) x.1))) := by
  have HP : Hid (∀ l A n c w', textsD (D.filter fun x => trailW (Nib.of key) x.1) = l → n = l.length → w'.ownsRow w.heap.size 9 1 (.slice A n c) n (strv l) → Below w.heap.size w w' → TextsEnd w (textsD (D.filter fun x => trailW (Nib.of key) x.1)) (.returned (.slice A n c)) w') := Lib.hid (fun l A n c w' e h1 h2 h3 => by rw [e]; exact ⟨A, n, c, rfl, h1, h2, h3⟩)
  generalize TextsEnd w (textsD (D.filter fun x => trailW (Nib.of key) x.1)) = P at HP ⊢
  have HO := Lib.hid (refnib_Of key w hk)
  have hql : (Nib.of key).length ≤ 4000 := by rw [Nib.of_length]; omega
  generalize Nib.of key = path at *
  have HRR := Lib.hid HR
  have HL := Lib.hid (And.intro hD hp)
  clear HR hD hp hk
  go_enter Tryd.func21, Tryd.ntmps21
  go_wp2_with fail
  refine HO.out.mono ?_
  rintro e w1 ⟨rfl, hb1⟩
  have HB1 := Lib.hid hb1
  clear hb1
  go_wp2_with fail
  refine wp_loop_ghost_k (fun k a wr => ∀ Φ : Act → Prop, (∀ (s1 s2 s3 s4 s8 s9 s10 s11 s12 s13 s14 s15 s16 s17 s18 s19 s20 s21 s22 s23 s24 s25 s26 s27 s28 s29 s30 s31 s32 s33 s34 s35 s36 s37 s38 s39 s40 s41 s42 s43 : Value) (i n c2 : Nat) (O : Option Addr) (l : List (List UInt8)), (i + k = D.length ∧ n = l.length ∧ n ≤ i ∧ textsD ((D.take i).filter fun x => trailW path x.1) = l ∧ wr.ownsRow w.heap.size 9 1 (.slice O n c2) n (strv l) ∧ Below w.heap.size w wr) → Φ { tmps := #[.slice A D.length cp, s1, s2, s3, s4, .string ⟨path.toArray⟩, .slice O n c2, .int .i64 (i : Int), s8, s9, s10, s11, s12, s13, s14, s15, s16, s17, s18, s19, s20, s21, s22, s23, s24, s25, s26, s27, s28, s29, s30, s31, s32, s33, s34, s35, s36, s37, s38, s39, s40, s41, s42, s43], defers := [] }) → Φ a) (D.length) ?_ ?_
  · refine fun Φ hΦ => hΦ _ _ _ _ _ _ _ _ _ _ _ _ _ _ _ _ _ _ _ _ _ _ _ _ _ _ _ _ _ _ _ _ _ _ _ _ _ _ _ _ (0) (0) (0) (none) ([]) ?_
    exact ⟨by omega, rfl, Nat.le_refl _, rfl, World.ownsRow_nil _ _ _ _, HB1.out⟩
  · intro k1 a1 wr1 hI1 J1 K1 hJ1 hK1
    refine hI1 (fun a => Code.wp _ _ _ a _) ?_
    clear hI1 a1
    intro s0 s1 s2 s3 s4 s5 s6 s7 s8 s9 s10 s11 s12 s13 s14 s15 s16 s17 s18 s19 s20 s21 s22 s23 s24 s25 s26 s27 s28 s29 s30 s31 s32 s33 s34 s35 s36 s37 s38 s39 i n c2 O l hrel
    show Code.wp _ _ _ _ _
    obtain ⟨h1, hnl, hni, h2, own, hb⟩ := hrel
    by_cases hi : i < D.length
    · obtain ⟨ad, off, rfl, hbl, hcell⟩ := spot_cells HRR.out hi
      obtain ⟨q0, q1, q2⟩ := hcell _ hb
      have hpx := HL.out.2 _ (List.getElem_mem hi)
      have hsn := spots_snoc (trailW path) D i hi
      rw [h2] at hsn
      have htt := trail_test path D[i].1
      have hi1 : (i : Int) < D.length := by omega
      have hi0 : (0 : Int) ≤ i := by omega
      have hl := HL.out.1
      have hn3 : n ≤ 100000 := by omega
      have HI := Lib.hid (And.intro h1 (And.intro hnl hni))
      have HSn := Lib.hid hsn
      have OW := Lib.hid (And.intro own hb)
      clear hcell h1 h2 q2 hsn hnl hni own hb HO
      generalize Trie.textT D[i].2 = s at *
      generalize D[i].1 = pl at *
      by_cases hpl : pl.length ≤ path.length
      · have hplI : (pl.length : Int) ≤ path.length := by omega
        have t1 := run_take path pl.length hpl
        rw [decide_eq_true hpl, Bool.true_and] at htt
        by_cases he : path.take pl.length = pl
        · have e1 : (path.take pl.length == pl) = true := by simp [he]
          rw [e1] at htt
          rw [htt, if_pos rfl] at HSn
          rw [he] at t1
          have hone : ∀ u ∈ [Value.string ⟨s.toArray⟩], u.oneCell' = true := by intro u hu; rw [List.mem_singleton] at hu; subst hu; rfl
          have e2 : (pl == pl) = true := by simp
          clear he hpl e1 htt
          have HSV : Hid (strv (l ++ [s]) = strv l ++ [.string ⟨s.toArray⟩]) := Lib.hid (strv_snoc l s)
          generalize strv l = SV at *
          go_wp2_with (at_builtin; refine wpList_append_new wr1 9 [.string ⟨s.toArray⟩] rfl _ _ 36 rfl w.heap.size 1 16 _ info_str Tryd.underlying36 rfl (by decide) (.slice O n c2) n SV rfl OW.out.1 1 1 rfl rfl hone (by simp only [maxLen]; omega) (by omega) w.heap.size w OW.out.2 (Nat.le_refl _) OW.out.2.size ?_; intro v3 w3 own3 hb3 hg3 _ _; obtain ⟨A3, c3, rfl, _, _, _⟩ := own_form own3; have O3 := Lib.hid (And.intro own3 hb3); clear own3 hb3 hg3)
          refine Handed.intro (D.length - (i + 1)) ?_ (hJ1 _ _ _ (fun Φ hΦ => hΦ _ _ _ _ _ _ _ _ _ _ _ _ _ _ _ _ _ _ _ _ _ _ _ _ _ _ _ _ _ _ _ _ _ _ _ _ _ _ _ _ (i + 1) (n + 1) (c3) (A3) (l ++ [s]) ?_))
          · have := HI.out.1; omega
          · refine ⟨by have := HI.out.1; omega, by rw [List.length_append, ← HI.out.2.1]; rfl, by have := HI.out.2.2; omega, HSn.out, ?_, O3.out.2⟩
            rw [HSV.out]
            exact O3.out.1
        · have e1 : (path.take pl.length == pl) = false := by simp [he]
          rw [e1] at htt
          rw [htt, if_neg (by decide), List.append_nil] at HSn
          generalize path.take pl.length = pt at *
          clear he hpl htt q1
          go_wp2_with fail
          refine Handed.intro (D.length - (i + 1)) ?_ (hJ1 _ _ _ (fun Φ hΦ => hΦ _ _ _ _ _ _ _ _ _ _ _ _ _ _ _ _ _ _ _ _ _ _ _ _ _ _ _ _ _ _ _ _ _ _ _ _ _ _ _ _ (i + 1) (n) (c2) (O) (l) ?_))
          · have := HI.out.1; omega
          · exact ⟨by have := HI.out.1; omega, HI.out.2.1, by have := HI.out.2.2; omega, HSn.out, OW.out.1, OW.out.2⟩
      · have hplI : ((pl.length : Int) ≤ path.length) = False := by simp; omega
        rw [decide_eq_false hpl, Bool.false_and] at htt
        rw [htt, if_neg (by decide), List.append_nil] at HSn
        clear hpl htt q1
        go_wp2_with fail
        refine Handed.intro (D.length - (i + 1)) ?_ (hJ1 _ _ _ (fun Φ hΦ => hΦ _ _ _ _ _ _ _ _ _ _ _ _ _ _ _ _ _ _ _ _ _ _ _ _ _ _ _ _ _ _ _ _ _ _ _ _ _ _ _ _ (i + 1) (n) (c2) (O) (l) ?_))
        · have := HI.out.1; omega
        · exact ⟨by have := HI.out.1; omega, HI.out.2.1, by have := HI.out.2.2; omega, HSn.out, OW.out.1, OW.out.2⟩
    · have hi2 : ((i : Int) < D.length) = False := by simp; omega
      rw [List.take_of_length_le (by omega)] at h2
      have H := Lib.hid (And.intro hnl (And.intro h2 (And.intro own hb)))
      clear own hb hnl hni h2 h1 hi
      go_wp2_with fail
      exact HP.out _ _ _ _ _ H.out.2.1 H.out.1 H.out.2.2.1 H.out.2.2.2
set_option maxRecDepth 100000 in
set_option maxHeartbeats 1000000 in
theorem ref10_In (w : World) (pl from_ end_ : List UInt8) (hp : pl.length ≤ 1000) (h1 : from_.length ≤ 2000) (h2 : end_.length ≤ 2000) :
    Calls Tryd.prog 61 #[.string ⟨pl.toArray⟩, .string ⟨from_.toArray⟩, .string ⟨end_.toArray⟩] w (Ret w (.bool (coverW (Nib.of from_) (Nib.of end_) end_ pl))) := by
  have HP : Hid (∀ b w', coverW (Nib.of from_) (Nib.of end_) end_ pl = b → Below w.heap.size w w' → Ret w (.bool (coverW (Nib.of from_) (Nib.of end_) end_ pl)) (.returned (.bool b)) w') := Lib.hid (fun b w' e h => ⟨by rw [e], h⟩)
  generalize Ret w (.bool (coverW (Nib.of from_) (Nib.of end_) end_ pl)) = P at HP ⊢
  have HX : Hid (coverW (Nib.of from_) (Nib.of end_) end_ pl = (decide (0 ≤ Nib.side pl (Nib.of from_)) && (end_.isEmpty || decide (Nib.side pl (Nib.of end_) ≤ 0)))) := Lib.hid rfl
  generalize coverW (Nib.of from_) (Nib.of end_) end_ pl = X at *
  have HO1 := Lib.hid (fun W => refnib_Of from_ W h1)
  have HO2 := Lib.hid (fun W => refnib_Of end_ W h2)
  have HS1 := Lib.hid (fun W => refnib_Side pl (Nib.of from_) W (by omega) (by rw [Nib.of_length]; omega))
  have HS2 := Lib.hid (fun W => refnib_Side pl (Nib.of end_) W (by omega) (by rw [Nib.of_length]; omega))
  generalize Nib.of from_ = low at *
  generalize Nib.of end_ = high at *
  generalize Nib.side pl low = s1 at *
  generalize Nib.side pl high = s2 at *
  go_enter Tryd.func61, Tryd.ntmps61
  go_wp2_with fail
  refine (HO1.out _).mono ?_
  rintro e w1 ⟨rfl, hb1⟩
  have HB1 := Lib.hid hb1
  clear hb1
  go_wp2_with fail
  refine (HS1.out _).mono ?_
  rintro e w2 ⟨rfl, hb2⟩
  have HB2 := Lib.hid (HB1.out.nxt hb2)
  clear hb2
  by_cases hs1 : s1 < 0
  · have HE : Hid (X = false) := Lib.hid (by rw [HX.out, decide_eq_false (by omega)]; rfl)
    go_wp2_with fail
    exact HP.out _ _ HE.out HB2.out
  · have hs1I : (s1 < 0) = False := by simp; omega
    have HE : Hid (X = (end_.isEmpty || decide (s2 ≤ 0))) := Lib.hid (by rw [HX.out, decide_eq_true (by omega), Bool.true_and])
    clear HX hs1
    by_cases he : end_ = []
    · subst he
      go_wp2_with fail
      exact HP.out _ _ HE.out HB2.out
    · have ne1 : (end_.toArray = #[]) = False := by simp [he]
      have ne2 : end_.isEmpty = false := by simp [he]
      rw [ne2, Bool.false_or] at HE
      clear he
      go_wp2_with fail
      refine (HO2.out _).mono ?_
      rintro e w3 ⟨rfl, hb3⟩
      have HB3 := Lib.hid (HB2.out.nxt hb3)
      clear hb3
      go_wp2_with fail
      refine (HS2.out _).mono ?_
      rintro e w4 ⟨rfl, hb4⟩
      have HB4 := Lib.hid (HB3.out.nxt hb4)
      clear hb4
      by_cases hs2 : s2 < 1
      · have hs2I : (s2 < 1) = True := by simp; omega
        rw [decide_eq_true (show s2 ≤ 0 by omega)] at HE
        clear hs2
        go_wp2_with fail
        exact HP.out _ _ HE.out HB4.out
      · have hs2I : (s2 < 1) = False := by simp; omega
        rw [decide_eq_false (show ¬ s2 ≤ 0 by omega)] at HE
        clear hs2
        go_wp2_with fail
        exact HP.out _ _ HE.out HB4.out
set_option maxRecDepth 100000 in
set_option maxHeartbeats 2000000 in
theorem ref10_Cover (w : World) (D : List (List UInt8 × Trie.T)) (hD : D.length ≤ 100000) (hp : ∀ x ∈ D, x.1.length ≤ 1000) (from_ end_ : List UInt8) (hf : from_.length ≤ 2000) (he : end_.length ≤ 2000) (A : Option Addr) (cp : Nat) (HR : Reads w w.heap.size 22 A D.length (spv D)) :
    Calls Tryd.prog 23 #[.slice A D.length cp, .string ⟨from_.toArray⟩, .string ⟨end_.toArray⟩] w (TextsEnd w (textsD (D.filter fun x => coverW (Nib.of from_) (Nib.of end_) end_ x.1))) := by
  obtain ⟨may, hmay⟩ : ∃ may, coverW (Nib.of from_) (Nib.of end_) end_ = may := ⟨_, rfl⟩
  have HIn : Hid (∀ W pl, pl.length ≤ 1000 → Calls Tryd.prog 61 #[.string ⟨pl.toArray⟩, .string ⟨from_.toArray⟩, .string ⟨end_.toArray⟩] W (Ret W (.bool (may pl)))) := Lib.hid (fun W pl h => by rw [← hmay]; exact ref10_In W pl from_ end_ h hf he)
  rw [hmay]
  have HP : Hid (∀ l A n c w', textsD (D.filter fun x => may x.1) = l → n = l.length → w'.ownsRow w.heap.size 9 1 (.slice A n c) n (strv l) → Below w.heap.size w w' → TextsEnd w (textsD (D.filter fun x => may x.1)) (.returned (.slice A n c)) w') := Lib.hid (fun l A n c w' e h1 h2 h3 => by rw [e]; exact ⟨A, n, c, rfl, h1, h2, h3⟩)
  generalize TextsEnd w (textsD (D.filter fun x => may x.1)) = P at HP ⊢
  have HRR := Lib.hid HR
  have HL := Lib.hid (And.intro hD hp)
  clear HR hD hp hf he hmay
  go_enter Tryd.func23, Tryd.ntmps23
  go_wp2_with fail
  refine wp_loop_ghost_k (fun k a wr => ∀ Φ : Act → Prop, (∀ (s3 s4 s5 s6 s9 s10 s11 s12 s13 s14 s15 s16 s17 s18 s19 s20 s21 s22 s23 s24 s25 s26 s27 s28 s29 s30 s31 : Value) (i n c2 : Nat) (O : Option Addr) (l : List (List UInt8)), (i + k = D.length ∧ n = l.length ∧ n ≤ i ∧ textsD ((D.take i).filter fun x => may x.1) = l ∧ wr.ownsRow w.heap.size 9 1 (.slice O n c2) n (strv l) ∧ Below w.heap.size w wr) → Φ { tmps := #[.slice A D.length cp, .string ⟨from_.toArray⟩, .string ⟨end_.toArray⟩, s3, s4, s5, s6, .slice O n c2, .int .i64 (i : Int), s9, s10, s11, s12, s13, s14, s15, s16, s17, s18, s19, s20, s21, s22, s23, s24, s25, s26, s27, s28, s29, s30, s31], defers := [] }) → Φ a) (D.length) ?_ ?_
  · refine fun Φ hΦ => hΦ _ _ _ _ _ _ _ _ _ _ _ _ _ _ _ _ _ _ _ _ _ _ _ _ _ _ _ (0) (0) (0) (none) ([]) ?_
    exact ⟨by omega, rfl, Nat.le_refl _, rfl, World.ownsRow_nil _ _ _ _, Below.refl _ _⟩
  · intro k1 a1 wr1 hI1 J1 K1 hJ1 hK1
    refine hI1 (fun a => Code.wp _ _ _ a _) ?_
    clear hI1 a1
    intro s0 s1 s2 s3 s4 s5 s6 s7 s8 s9 s10 s11 s12 s13 s14 s15 s16 s17 s18 s19 s20 s21 s22 s23 s24 s25 s26 i n c2 O l hrel
    show Code.wp _ _ _ _ _
    obtain ⟨h1, hnl, hni, h2, own, hb⟩ := hrel
    by_cases hi : i < D.length
    · obtain ⟨ad, off, rfl, hbl, hcell⟩ := spot_cells HRR.out hi
      obtain ⟨q0, q1, q2⟩ := hcell _ hb
      have HCl := Lib.hid hcell
      have hpx := HL.out.2 _ (List.getElem_mem hi)
      have hsn := spots_snoc may D i hi
      rw [h2] at hsn
      have hi1 : (i : Int) < D.length := by omega
      have hi0 : (0 : Int) ≤ i := by omega
      have hl := HL.out.1
      have hn3 : n ≤ 100000 := by omega
      have HI := Lib.hid (And.intro h1 (And.intro hnl hni))
      have HSn := Lib.hid hsn
      have OW := Lib.hid (And.intro own hb)
      have HIc := Lib.hid (fun W => HIn.out W D[i].1 hpx)
      clear hcell h1 h2 q2 q1 hsn hnl hni own hb hpx
      generalize Trie.textT D[i].2 = s at *
      generalize D[i].1 = pl at *
      go_wp2_with fail
      refine (HIc.out _).mono ?_
      rintro e w2 ⟨rfl, hb2⟩
      obtain ⟨q0', q1, q2⟩ := HCl.out _ (OW.out.2.nxt hb2)
      have OW2 := Lib.hid (And.intro (own_below OW.out.1 hb2) (OW.out.2.nxt hb2))
      clear hb2 q0 q0' q2
      cases hm : may pl with
      | true =>
        rw [hm, if_pos rfl] at HSn
        have hone : ∀ u ∈ [Value.string ⟨s.toArray⟩], u.oneCell' = true := by intro u hu; rw [List.mem_singleton] at hu; subst hu; rfl
        have HSV : Hid (strv (l ++ [s]) = strv l ++ [.string ⟨s.toArray⟩]) := Lib.hid (strv_snoc l s)
        generalize strv l = SV at *
        go_wp2_with (at_builtin; refine wpList_append_new w2 9 [.string ⟨s.toArray⟩] rfl _ _ 36 rfl w.heap.size 1 16 _ info_str Tryd.underlying36 rfl (by decide) (.slice O n c2) n SV rfl OW2.out.1 1 1 rfl rfl hone (by simp only [maxLen]; omega) (by omega) w.heap.size w OW2.out.2 (Nat.le_refl _) OW2.out.2.size ?_; intro v3 w3 own3 hb3 hg3 _ _; obtain ⟨A3, c3, rfl, _, _, _⟩ := own_form own3; have O3 := Lib.hid (And.intro own3 hb3); clear own3 hb3 hg3)
        refine Handed.intro (D.length - (i + 1)) ?_ (hJ1 _ _ _ (fun Φ hΦ => hΦ _ _ _ _ _ _ _ _ _ _ _ _ _ _ _ _ _ _ _ _ _ _ _ _ _ _ _ (i + 1) (n + 1) (c3) (A3) (l ++ [s]) ?_))
        · have := HI.out.1; omega
        · refine ⟨by have := HI.out.1; omega, by rw [List.length_append, ← HI.out.2.1]; rfl, by have := HI.out.2.2; omega, HSn.out, ?_, O3.out.2⟩
          rw [HSV.out]
          exact O3.out.1
      | false =>
        rw [hm, if_neg (by decide), List.append_nil] at HSn
        clear q1
        go_wp2_with fail
        refine Handed.intro (D.length - (i + 1)) ?_ (hJ1 _ _ _ (fun Φ hΦ => hΦ _ _ _ _ _ _ _ _ _ _ _ _ _ _ _ _ _ _ _ _ _ _ _ _ _ _ _ (i + 1) (n) (c2) (O) (l) ?_))
        · have := HI.out.1; omega
        · exact ⟨by have := HI.out.1; omega, HI.out.2.1, by have := HI.out.2.2; omega, HSn.out, OW2.out.1, OW2.out.2⟩
    · have hi2 : ((i : Int) < D.length) = False := by simp; omega
      rw [List.take_of_length_le (by omega)] at h2
      have H := Lib.hid (And.intro hnl (And.intro h2 (And.intro own hb)))
      clear own hb hnl hni h2 h1 hi
      go_wp2_with fail
      exact HP.out _ _ _ _ _ H.out.2.1 H.out.1 H.out.2.2.1 H.out.2.2.2
end Go.Proofs.YtefcmigbdfeaiaaDoor
