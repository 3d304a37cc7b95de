import Derived.Test.YtcjafcbekegmlaaGreatDoorJ40
import Derived.Test.YtcjafcbekegmlaaGreatDoorJ26
import Derived.Test.YtcjafcbekegmlaaGreatDoorJ36
import Derived.Test.YtcjafcbekegmlaaGreatDoorJ38
import Derived.Test.YtcjafcbekegmlaaGreatDoorJ27
import Derived.Test.YtcjafcbekegmlaaGreatDoorJ29
set_option linter.unusedSimpArgs false
set_option linter.unusedVariables false
namespace Go.Proofs.YtcjafcbekegmlaaGreatDoor
set_option linter.unusedVariables false
open Go.RowKit Go.Instr
attribute [local go_sem] ba_get ByteArray.mk_append_mk
theorem goT_nil_iff {t : Trie.T} (pl : List UInt8) : Trie.goT allW t pl = [] ↔ t = .nil := by
  cases t <;> simp [Trie.goT, allW]
theorem goT_first {t : Trie.T} (hn : t ≠ .nil) (pl : List UInt8) : ∃ D, Trie.goT allW t pl = (pl, t) :: D := by
  cases t with
  | nil => exact absurd rfl hn
  | leaf p v => exact ⟨[], by simp [Trie.goT, allW]⟩
  | ext p t => exact ⟨_, by simp [Trie.goT, allW]; rfl⟩
  | branch v kids => exact ⟨_, by simp [Trie.goT, allW]; rfl⟩
theorem strv_snoc (D : List (List UInt8)) (s : List UInt8) : strv (D ++ [s]) = strv D ++ [.string ⟨s.toArray⟩] := by simp [strv]
theorem itemsW_len (t : Trie.T) : (Trie.itemsW t).length = Trie.count t := by rw [Trie.itemsW, List.length_map, Trie.length_items]
set_option maxRecDepth 100000 in
set_option maxHeartbeats 2000000 in
theorem ref10_Root (w : World) (t : Trie.T) (h : Trie.Good t) (hc : Trie.count t ≤ 2000) (A : Option Addr) (cp : Nat) (HR : Reads w w.heap.size 2 A (Trie.itemsW t).length (icells (Trie.itemsW t))) :
    Calls Tryz.prog 34 #[.slice A (Trie.itemsW t).length cp] w (Ret w (.string ⟨(Trie.sumT t).toArray⟩)) := by
  have HP : Hid (∀ w', Below w.heap.size w w' → Ret w (.string ⟨(Trie.sumT t).toArray⟩) (.returned (.string ⟨(Trie.sumT t).toArray⟩)) w') := Lib.hid (fun w' g => ⟨rfl, g⟩)
  generalize Ret w (.string ⟨(Trie.sumT t).toArray⟩) = P at HP ⊢
  have HS := Lib.hid (ref10_Spots w t h hc A cp (Trie.itemsW t).length (itemsW_len t) HR)
  clear HR hc h
  by_cases hn : t = .nil
  · rw [(goT_nil_iff []).2 hn] at HS
    subst hn
    go_enter Tryz.func34, Tryz.ntmps34
    go_wp2_with fail
    refine HS.out.mono ?_
    rintro e w1 ⟨A1, c1, n1, rfl, hn1, own1, hb1⟩
    have HB := Lib.hid hb1
    obtain rfl : n1 = 0 := hn1
    clear own1 hb1
    go_wp2_with fail
    exact HP.out _ HB.out
  · obtain ⟨D, hD⟩ := goT_first hn []
    rw [hD] at HS
    clear hD
    go_enter Tryz.func34, Tryz.ntmps34
    go_wp2_with fail
    refine HS.out.mono ?_
    rintro e w1 ⟨A1, c1, n1, rfl, hn1, own1, hb1⟩
    obtain rfl := hn1
    obtain ⟨ad, off, rfl, hbl, hcell⟩ := spot_cells (Reads.of_own own1) (i := 0) (by simp)
    obtain ⟨q0, q1, q2⟩ := hcell _ (Below.refl _ _)
    simp only [List.getElem_cons_zero, Nat.zero_mul, Nat.add_zero] at q0 q1 q2
    have HB := Lib.hid hb1
    have hz : ((D.length + 1 : Nat) : Int) ≠ 0 := by omega
    have hz2 : (((([], t) :: D : List (List UInt8 × Trie.T)).length : Nat) : Int) = (D.length : Int) + 1 := by simp
    have hz3 : (0 : Int) < (D.length : Int) + 1 := by omega
    have hz4 : ((D.length : Int) + 1 == 0) = false := by simp; omega
    clear own1 hb1 hcell q0 q1 hz
    go_wp2_with fail
    exact HP.out _ HB.out
theorem goT_below (may : List UInt8 → Bool) (t : Trie.T) : ∀ pl, (∀ z, may (pl ++ z) = false) → (Trie.goT allW t pl).filter (fun x => may x.1) = [] := by
  induction t with
  | nil => intro pl _; rfl
  | leaf p v =>
    intro pl h
    have := h []
    rw [List.append_nil] at this
    simp [Trie.goT, allW, this]
  | ext p t ih =>
    intro pl h
    have h0 := h []
    rw [List.append_nil] at h0
    simp only [Trie.goT, allW, if_true]
    rw [List.filter_cons, if_neg (by simp [h0])]
    exact ih _ fun z => by rw [List.append_assoc]; exact h _
  | branch v kids ih =>
    intro pl h
    have h0 := h []
    rw [List.append_nil] at h0
    simp only [Trie.goT, allW, if_true]
    rw [List.filter_cons, if_neg (by simp [h0]), List.filter_flatMap, List.flatMap_eq_nil_iff]
    intro i _
    exact ih i _ fun z => by rw [List.append_assoc]; exact h _
theorem goT_filter (may : List UInt8 → Bool) (hm : ∀ pl z, may (pl ++ z) = true → may pl = true) (t : Trie.T) : ∀ pl, Trie.goT may t pl = (Trie.goT allW t pl).filter (fun x => may x.1) := by
  have key : ∀ t pl, may pl = false → (Trie.goT allW t pl).filter (fun x => may x.1) = [] := fun t pl h => goT_below may t pl fun z => by
    cases he : may (pl ++ z) with
    | false => rfl
    | true => rw [hm pl z he] at h; cases h
  induction t with
  | nil => intro pl; rfl
  | leaf p v =>
    intro pl
    cases h : may pl with
    | false => rw [key _ _ h]; simp [Trie.goT, h]
    | true => simp [Trie.goT, allW, h]
  | ext p t ih =>
    intro pl
    cases h : may pl with
    | false => rw [key _ _ h]; simp [Trie.goT, h]
    | true =>
      simp only [Trie.goT, allW, if_true, h]
      rw [List.filter_cons, if_pos (by simp [h]), ih (pl ++ p)]
  | branch v kids ih =>
    intro pl
    cases h : may pl with
    | false => rw [key _ _ h]; simp [Trie.goT, h]
    | true =>
      simp only [Trie.goT, allW, if_true, h]
      rw [List.filter_cons, if_pos (by simp [h]), List.filter_flatMap]
      congr 2
      funext i
      exact ih i _
theorem trail_closed (path : List UInt8) (pl z : List UInt8) (h : trailW path (pl ++ z) = true) : trailW path pl = true := by
  have := Trie.prefix_common.1 (of_decide_eq_true h)
  refine decide_eq_true (Trie.prefix_common.2 ?_)
  rw [this]
  simp
theorem told_filter (may : List UInt8 → Bool) (hm : ∀ pl z, may (pl ++ z) = true → may pl = true) (t : Trie.T) : toldW may t = textsD ((Trie.goT allW t []).filter fun x => may x.1) := by
  unfold toldW
  rw [goT_filter may hm]
end Go.Proofs.YtcjafcbekegmlaaGreatDoor

namespace Go.Proofs.YtcjafcbekegmlaaGreatDoor
set_option linter.unusedVariables false
open Go.RowKit Go.Instr
attribute [local go_sem] ba_get ByteArray.mk_append_mk
theorem spots_snoc (may : List UInt8 → Bool) (D : List (List UInt8 × Trie.T)) (i : Nat) (hi : i < D.length) : textsD ((D.take (i + 1)).filter fun x => may x.1) = textsD ((D.take i).filter fun x => may x.1) ++ (if may D[i].1 then [Trie.textT D[i].2] else []) := by
  rw [List.take_succ_eq_append_getElem hi, List.filter_append]
  unfold textsD
  rw [List.map_append]
  congr 1
  cases h : may D[i].1 <;> simp [h]
theorem trail_test (path pl : List UInt8) : trailW path pl = (decide (pl.length ≤ path.length) && (path.take pl.length == pl)) := by
  cases h : trailW path pl with
  | true =>
    have h1 := Trie.prefix_common.1 (of_decide_eq_true h)
    have h2 : path.take pl.length = pl := by rw [h1]; simp
    have h3 : pl.length ≤ path.length := by rw [h1]; simp
    simp [h2, h3]
  | false =>
    by_cases h3 : pl.length ≤ path.length
    · by_cases h2 : path.take pl.length = pl
      · exfalso
        have : trailW path pl = true := decide_eq_true (Trie.prefix_common.2 (by
          conv => lhs; rw [← List.take_append_drop pl.length path, h2]))
        rw [h] at this
        cases this
      · simp [h2]
    · simp [h3]
set_option maxRecDepth 100000 in
set_option maxHeartbeats 2000000 in
theorem ref10_Trail (w : World) (D : List (List UInt8 × Trie.T)) (hD : D.length ≤ 100000) (hp : ∀ x ∈ D, x.1.length ≤ 1000) (key : List UInt8) (hk : key.length ≤ 2000) (A : Option Addr) (cp : Nat) (HR : Reads w w.heap.size 22 A D.length (spv D)) :
    Calls Tryz.prog 70 #[.slice A D.length cp, .string ⟨key.toArray⟩] w (TextsEnd w (textsD (D.filter fun x => trailW (Nib.of key) x.1))) := by
  have HP : Hid (∀ l A n c w', textsD (D.filter fun x => trailW (Nib.of key) x.1) = l → n = l.length → w'.ownsRow w.heap.size 9 1 (.slice A n c) n (strv l) → Below w.heap.size w w' → TextsEnd w (textsD (D.filter fun x => trailW (Nib.of key) x.1)) (.returned (.slice A n c)) w') := Lib.hid (fun l A n c w' e h1 h2 h3 => by rw [e]; exact ⟨A, n, c, rfl, h1, h2, h3⟩)
  generalize TextsEnd w (textsD (D.filter fun x => trailW (Nib.of key) x.1)) = P at HP ⊢
  have HO := Lib.hid (refnib_Of key w hk)
  have hql : (Nib.of key).length ≤ 4000 := by rw [Nib.of_length]; omega
  generalize Nib.of key = path at *
  have HRR := Lib.hid HR
  have HL := Lib.hid (And.intro hD hp)
  clear HR hD hp hk
  go_enter Tryz.func70, Tryz.ntmps70
  go_wp2_with fail
  refine HO.out.mono ?_
  rintro e w1 ⟨rfl, hb1⟩
  have HB1 := Lib.hid hb1
  clear hb1
  go_wp2_with fail
  refine wp_loop_ghost_k (fun k a wr => ∀ Φ : Act → Prop, (∀ (s1 s2 s3 s4 s8 s9 s10 s11 s12 s13 s14 s15 s16 s17 s18 s19 s20 s21 s22 s23 s24 s25 s26 s27 s28 s29 s30 s31 s32 s33 s34 s35 s36 s37 s38 s39 s40 s41 s42 s43 : Value) (i n c2 : Nat) (O : Option Addr) (l : List (List UInt8)), (i + k = D.length ∧ n = l.length ∧ n ≤ i ∧ textsD ((D.take i).filter fun x => trailW path x.1) = l ∧ wr.ownsRow w.heap.size 9 1 (.slice O n c2) n (strv l) ∧ Below w.heap.size w wr) → Φ { tmps := #[.slice A D.length cp, s1, s2, s3, s4, .string ⟨path.toArray⟩, .slice O n c2, .int .i64 (i : Int), s8, s9, s10, s11, s12, s13, s14, s15, s16, s17, s18, s19, s20, s21, s22, s23, s24, s25, s26, s27, s28, s29, s30, s31, s32, s33, s34, s35, s36, s37, s38, s39, s40, s41, s42, s43], defers := [] }) → Φ a) (D.length) ?_ ?_
  · refine fun Φ hΦ => hΦ _ _ _ _ _ _ _ _ _ _ _ _ _ _ _ _ _ _ _ _ _ _ _ _ _ _ _ _ _ _ _ _ _ _ _ _ _ _ _ _ (0) (0) (0) (none) ([]) ?_
    exact ⟨by omega, rfl, Nat.le_refl _, rfl, World.ownsRow_nil _ _ _ _, HB1.out⟩
  · intro k1 a1 wr1 hI1 J1 K1 hJ1 hK1
    refine hI1 (fun a => Code.wp _ _ _ a _) ?_
    clear hI1 a1
    intro s0 s1 s2 s3 s4 s5 s6 s7 s8 s9 s10 s11 s12 s13 s14 s15 s16 s17 s18 s19 s20 s21 s22 s23 s24 s25 s26 s27 s28 s29 s30 s31 s32 s33 s34 s35 s36 s37 s38 s39 i n c2 O l hrel
    show Code.wp _ _ _ _ _
    obtain ⟨h1, hnl, hni, h2, own, hb⟩ := hrel
    by_cases hi : i < D.length
    · obtain ⟨ad, off, rfl, hbl, hcell⟩ := spot_cells HRR.out hi
      obtain ⟨q0, q1, q2⟩ := hcell _ hb
      have hpx := HL.out.2 _ (List.getElem_mem hi)
      have hsn := spots_snoc (trailW path) D i hi
      rw [h2] at hsn
      have htt := trail_test path D[i].1
      have hi1 : (i : Int) < D.length := by omega
      have hi0 : (0 : Int) ≤ i := by omega
      have hl := HL.out.1
      have hn3 : n ≤ 100000 := by omega
      have HI := Lib.hid (And.intro h1 (And.intro hnl hni))
      have HSn := Lib.hid hsn
      have OW := Lib.hid (And.intro own hb)
      clear hcell h1 h2 q2 hsn hnl hni own hb HO
      generalize Trie.textT D[i].2 = s at *
      generalize D[i].1 = pl at *
      by_cases hpl : pl.length ≤ path.length
      · have hplI : (pl.length : Int) ≤ path.length := by omega
        have t1 := run_take path pl.length hpl
        rw [decide_eq_true hpl, Bool.true_and] at htt
        by_cases he : path.take pl.length = pl
        · have e1 : (path.take pl.length == pl) = true := by simp [he]
          rw [e1] at htt
          rw [htt, if_pos rfl] at HSn
          rw [he] at t1
          have hone : ∀ u ∈ [Value.string ⟨s.toArray⟩], u.oneCell' = true := by intro u hu; rw [List.mem_singleton] at hu; subst hu; rfl
          have e2 : (pl == pl) = true := by simp
          clear he hpl e1 htt
          have HSV : Hid (strv (l ++ [s]) = strv l ++ [.string ⟨s.toArray⟩]) := Lib.hid (strv_snoc l s)
          generalize strv l = SV at *
          go_wp2_with (at_builtin; refine wpList_append_new wr1 9 [.string ⟨s.toArray⟩] rfl _ _ 23 rfl w.heap.size 1 16 _ info_str Tryz.underlying23 rfl (by decide) (.slice O n c2) n SV rfl OW.out.1 1 1 rfl rfl hone (by simp only [maxLen]; omega) (by omega) w.heap.size w OW.out.2 (Nat.le_refl _) OW.out.2.size ?_; intro v3 w3 own3 hb3 hg3 _ _; obtain ⟨A3, c3, rfl, _, _, _⟩ := own_form own3; have O3 := Lib.hid (And.intro own3 hb3); clear own3 hb3 hg3)
          refine Handed.intro (D.length - (i + 1)) ?_ (hJ1 _ _ _ (fun Φ hΦ => hΦ _ _ _ _ _ _ _ _ _ _ _ _ _ _ _ _ _ _ _ _ _ _ _ _ _ _ _ _ _ _ _ _ _ _ _ _ _ _ _ _ (i + 1) (n + 1) (c3) (A3) (l ++ [s]) ?_))
          · have := HI.out.1; omega
          · refine ⟨by have := HI.out.1; omega, by rw [List.length_append, ← HI.out.2.1]; rfl, by have := HI.out.2.2; omega, HSn.out, ?_, O3.out.2⟩
            rw [HSV.out]
            exact O3.out.1
        · have e1 : (path.take pl.length == pl) = false := by simp [he]
          rw [e1] at htt
          rw [htt, if_neg (by decide), List.append_nil] at HSn
          generalize path.take pl.length = pt at *
          clear he hpl htt q1
          go_wp2_with fail
          refine Handed.intro (D.length - (i + 1)) ?_ (hJ1 _ _ _ (fun Φ hΦ => hΦ _ _ _ _ _ _ _ _ _ _ _ _ _ _ _ _ _ _ _ _ _ _ _ _ _ _ _ _ _ _ _ _ _ _ _ _ _ _ _ _ (i + 1) (n) (c2) (O) (l) ?_))
          · have := HI.out.1; omega
          · exact ⟨by have := HI.out.1; omega, HI.out.2.1, by have := HI.out.2.2; omega, HSn.out, OW.out.1, OW.out.2⟩
      · have hplI : ((pl.length : Int) ≤ path.length) = False := by simp; omega
        rw [decide_eq_false hpl, Bool.false_and] at htt
        rw [htt, if_neg (by decide), List.append_nil] at HSn
        clear hpl htt q1
        go_wp2_with fail
        refine Handed.intro (D.length - (i + 1)) ?_ (hJ1 _ _ _ (fun Φ hΦ => hΦ _ _ _ _ _ _ _ _ _ _ _ _ _ _ _ _ _ _ _ _ _ _ _ _ _ _ _ _ _ _ _ _ _ _ _ _ _ _ _ _ (i + 1) (n) (c2) (O) (l) ?_))
        · have := HI.out.1; omega
        · exact ⟨by have := HI.out.1; omega, HI.out.2.1, by have := HI.out.2.2; omega, HSn.out, OW.out.1, OW.out.2⟩
    · have hi2 : ((i : Int) < D.length) = False := by simp; omega
      rw [List.take_of_length_le (by omega)] at h2
      have H := Lib.hid (And.intro hnl (And.intro h2 (And.intro own hb)))
      clear own hb hnl hni h2 h1 hi
      go_wp2_with fail
      exact HP.out _ _ _ _ _ H.out.2.1 H.out.1 H.out.2.2.1 H.out.2.2.2
end Go.Proofs.YtcjafcbekegmlaaGreatDoor

namespace Go.Proofs.YtcjafcbekegmlaaGreatDoor
set_option linter.unusedVariables false
open Go.RowKit Go.Instr
attribute [local go_sem] ba_get ByteArray.mk_append_mk
set_option maxRecDepth 100000 in
set_option maxHeartbeats 1000000 in
theorem ref13_Verify (w : World) (root key : List UInt8) (hk : key.length ≤ 9223372036854775807) (nodes : List (List UInt8)) (A : Option Addr) (c : Nat) (hc : nodes.length ≤ c) (HR : Reads w w.heap.size 1 A nodes.length (strv nodes)) (hn : nodes.length ≤ 100000) (hs : ∀ x ∈ nodes, x.length ≤ 900000) :
    Calls Tryz.prog 39 #[.string ⟨root.toArray⟩, .string ⟨key.toArray⟩, .slice A nodes.length c] w (VerEnd w (verifyW root key nodes)) := by
  have HP : Hid (∀ (v : List UInt8) b (cd : Nat) w', verifyW root key nodes = (v, b, cd) → Below w.heap.size w w' → VerEnd w (verifyW root key nodes) (.returned (.tuple #[.string ⟨v.toArray⟩, .bool b, .int .i64 (cd : Int)])) w') := Lib.hid (fun v b t w' e h => by rw [e]; exact ⟨rfl, h⟩)
  have HX : Hid (verifyW root key nodes = if Trie.keyedW key = false then ([], false, 1)
  else if root = [] then (if nodes = [] then ([], false, 0) else ([], false, 130))
  else if (rfolW root (Nib.of key) nodes).2 = true then ((rfolW root (Nib.of key) nodes).1, decide ((rfolW root (Nib.of key) nodes).1 ≠ []), 0)
  else ([], false, 130)) := Lib.hid (by
    obtain ⟨a, b⟩ := rfol_follow nodes root (Nib.of key) 0
    unfold verifyW
    by_cases h1 : Trie.keyedW key = false
    · rw [if_pos h1, if_pos h1]
    · rw [if_neg h1, if_neg h1]
      by_cases h2 : root = []
      · rw [if_pos h2, if_pos h2]
      · rw [if_neg h2, if_neg h2]
        by_cases h3 : (rfolW root (Nib.of key) nodes).2 = true
        · have h4 := a.symm.trans h3
          rw [Bool.and_eq_true, decide_eq_true_eq, Nat.zero_add] at h4
          rw [if_pos h4, if_pos h3, b h3]
        · rw [if_neg h3, if_neg]
          intro h4
          apply h3
          rw [a, h4.1, h4.2]
          simp)
  generalize VerEnd w (verifyW root key nodes) = P at HP ⊢
  generalize verifyW root key nodes = X at *
  have HKy := Lib.hid (ref10_Keyed key hk w)
  cases hkey : Trie.keyedW key with
  | false =>
    rw [if_pos hkey] at HX
    rw [hkey] at HKy
    clear HR hs
    go_enter Tryz.func39, Tryz.ntmps39
    go_wp2_with fail
    refine HKy.out.mono ?_
    rintro e w1 ⟨rfl, rfl⟩
    go_wp2_with fail
    exact HP.out _ _ 1 _ HX.out (Below.refl _ _)
  | true =>
    rw [if_neg (by simp [hkey])] at HX
    rw [hkey] at HKy
    have hk8 := keyed_short hkey
    by_cases hr : root = []
    · subst hr
      rw [if_pos rfl] at HX
      clear HR hs
      by_cases hnn : nodes = []
      · subst hnn
        rw [if_pos rfl] at HX
        go_enter Tryz.func39, Tryz.ntmps39
        go_wp2_with fail
        refine HKy.out.mono ?_
        rintro e w1 ⟨rfl, rfl⟩
        go_wp2_with fail
        exact HP.out _ _ 0 _ HX.out (Below.refl _ _)
      · rw [if_neg hnn] at HX
        have hpos : (0 : Int) < nodes.length := by have := List.length_pos_iff.2 hnn; omega
        clear hnn
        go_enter Tryz.func39, Tryz.ntmps39
        go_wp2_with fail
        refine HKy.out.mono ?_
        rintro e w1 ⟨rfl, rfl⟩
        go_wp2_with fail
        exact HP.out _ _ 130 _ HX.out (Below.refl _ _)
    · rw [if_neg hr] at HX
      have ne1 : (root.toArray = #[]) = False := by simp [hr]
      have ne2 : root.isEmpty = false := by simp [hr]
      have HOf := Lib.hid (fun W => refnib_Of key W (by omega))
      have HFo : Hid (∀ W, Below w.heap.size w W → Calls Tryz.prog 72 #[.string ⟨root.toArray⟩, .string ⟨(Nib.of key).toArray⟩, .slice A nodes.length c] W (RFolEnd W (rfolW root (Nib.of key) nodes))) := Lib.hid (fun W hW =>
        ref13_Follow nodes root (Nib.of key) A c W hc hn ((HR.below hW).more hW.size) hs (by rw [Nib.of_length]; omega) (Nib.fit_of key))
      generalize rfolW root (Nib.of key) nodes = fr at *
      obtain ⟨v, b⟩ := fr
      simp only at HX HFo
      unfold RFolEnd at HFo
      simp only at HFo
      generalize Nib.of key = q at *
      clear HR hs hr hk hn hk8 hkey hc
      go_enter Tryz.func39, Tryz.ntmps39
      go_wp2_with fail
      refine HKy.out.mono ?_
      rintro e w1 ⟨rfl, rfl⟩
      go_wp2_with fail
      refine (HOf.out _).mono ?_
      rintro e w2 ⟨rfl, hb2⟩
      have HB2 := Lib.hid hb2
      clear hb2
      go_wp2_with fail
      refine (HFo.out _ HB2.out).mono ?_
      rintro e w3 ⟨rfl, hb3⟩
      have HB3 := Lib.hid (HB2.out.nxt hb3)
      clear hb3 HKy HOf HFo
      cases b with
      | false =>
        rw [if_neg (by simp)] at HX
        go_wp2_with fail
        exact HP.out _ _ 130 _ HX.out HB3.out
      | true =>
        rw [if_pos rfl] at HX
        by_cases hv : v = []
        · subst hv
          go_wp2_with fail
          exact HP.out _ _ 0 _ HX.out HB3.out
        · rw [decide_eq_true (show v ≠ [] from hv)] at HX
          have ne3 : (v.toArray = #[]) = False := by simp [hv]
          have ne4 : v.isEmpty = false := by simp [hv]
          clear hv
          go_wp2_with fail
          exact HP.out _ _ 0 _ HX.out HB3.out
set_option maxRecDepth 100000 in
set_option maxHeartbeats 1000000 in
theorem ref13_Prove (w : World) (t : Trie.T) (h : Trie.Good t) (hct : Trie.count t ≤ 2000) (hD : (Trie.goT allW t []).length ≤ 100000 ∧ ∀ x ∈ Trie.goT allW t [], x.1.length ≤ 1000) (A : Option Addr) (cp n : Nat) (hn : n = Trie.count t) (HR : Reads w w.heap.size 2 A n (icells (Trie.itemsW t))) (key : List UInt8) (hk : key.length ≤ 9223372036854775807) :
    Calls Tryz.prog 37 #[.slice A n cp, .string ⟨key.toArray⟩] w (TextsCEnd w (proveW t key)) := by
  have HP : Hid (∀ l (cd : Nat), proveW t key = (l, cd) → ∀ A n c w', n = l.length → w'.ownsRow w.heap.size 9 1 (.slice A n c) n (strv l) → Below w.heap.size w w' → TextsCEnd w (proveW t key) (.returned (.tuple #[.slice A n c, .int .i64 (cd : Int)])) w') := Lib.hid (fun l cd e A n c w' h1 h2 h3 => by rw [e]; exact ⟨A, n, c, rfl, h1, h2, h3⟩)
  generalize TextsCEnd w (proveW t key) = P at HP ⊢
  have HKy := Lib.hid (ref10_Keyed key hk w)
  cases hkey : Trie.keyedW key with
  | false =>
    have HE : Hid (proveW t key = ([], 1)) := Lib.hid (by unfold proveW; rw [if_neg (by simp [hkey])])
    rw [hkey] at HKy
    clear HR hD h
    go_enter Tryz.func37, Tryz.ntmps37
    go_wp2_with fail
    refine HKy.out.mono ?_
    rintro e w1 ⟨rfl, rfl⟩
    go_wp2_with fail
    exact HP.out [] 1 HE.out none 0 0 _ rfl (World.ownsRow_nil _ _ _ _) (Below.refl _ _)
  | true =>
    have HE : Hid (proveW t key = (textsD ((Trie.goT allW t []).filter fun x => trailW (Nib.of key) x.1), 0)) := Lib.hid (by unfold proveW; rw [if_pos hkey, told_filter (trailW (Nib.of key)) (trail_closed _) t])
    rw [hkey] at HKy
    have HSp := Lib.hid (ref10_Spots w t h hct A cp n hn HR)
    have HTr := Lib.hid (fun W A c (hr : Reads W W.heap.size 22 A (Trie.goT allW t []).length (spv (Trie.goT allW t []))) => ref10_Trail W _ hD.1 hD.2 key (by have := keyed_short hkey; omega) A c hr)
    generalize (Trie.goT allW t []) = D at *
    generalize (D.filter fun x => trailW (Nib.of key) x.1) = D2 at *
    clear HR hD h hn
    go_enter Tryz.func37, Tryz.ntmps37
    go_wp2_with fail
    refine HKy.out.mono ?_
    rintro e w1 ⟨rfl, rfl⟩
    go_wp2_with fail
    refine HSp.out.mono ?_
    rintro e w2 ⟨A2, c2, n2, rfl, hn2, own2, hb2⟩
    obtain rfl := hn2
    have HB2 := Lib.hid hb2
    have R2 := Lib.hid (Reads.of_own own2)
    clear hb2 own2
    go_wp2_with fail
    refine (HTr.out _ _ _ R2.out).mono ?_
    rintro e w3 ⟨A3, n3, c3, rfl, h1, h2, h3⟩
    have HH := Lib.hid (And.intro h1 (And.intro (own_lower h2 HB2.out.size) (HB2.out.nxt h3)))
    clear h1 h2 h3
    go_wp2_with fail
    exact HP.out _ 0 HE.out A3 n3 c3 _ HH.out.1 HH.out.2.1 HH.out.2.2
end Go.Proofs.YtcjafcbekegmlaaGreatDoor

namespace Go.Proofs.YtcjafcbekegmlaaGreatDoor
set_option linter.unusedVariables false
open Go.RowKit Go.Instr
attribute [local go_sem] ba_get ByteArray.mk_append_mk
attribute [local go_sem ↓] Go.wp_at_zero Go.wp_at_succ
def ItemsREnd (w : World) (r : List Trie.KV × Nat) (e : Ending) (w' : World) : Prop := ∃ A n c, e = .returned (.tuple #[.slice A n c, .int .i64 (r.2 : Int)]) ∧ n = r.1.length ∧ w'.ownsRow w.heap.size 76 2 (.slice A n c) n (icells r.1) ∧ Below w.heap.size w w'
theorem rcItems_app : ∀ (l : List (Int × List UInt8 × Int)) (k : Nat) (x : Int × List UInt8 × Int), Trie.rcItems k (l ++ [x]) = Trie.rcItems k l ++ [([UInt8.ofNat (k + l.length)], (encW x.1 x.2.1 x.2.2).1)]
  | [], k, x => by simp [Trie.rcItems]
  | y :: l, k, x => by
    rw [List.cons_append, Trie.rcItems, rcItems_app l (k + 1) x, Trie.rcItems, List.length_cons]
    rw [show k + 1 + l.length = k + (l.length + 1) by omega]
    rfl
theorem itemsF_bad {l : List (Int × List UInt8 × Int)} (h : 8 < l.length) : Trie.itemsF l = ([], 2) := by
  unfold Trie.itemsF treeF
  rw [if_pos h, if_neg (by simp)]
theorem itemsF_no {l : List (Int × List UInt8 × Int)} (h : l.length ≤ 8) {x : Int × List UInt8 × Int} (hx : x ∈ l) (hn : ¬ rcOk x.1 x.2.1 x.2.2) : Trie.itemsF l = ([], 3) := by
  have e : (treeF l).2 = 3 := by
    unfold treeF
    rw [if_neg (by omega), Trie.treeW_bad, if_neg (fun h => hn (h x hx))]
  unfold Trie.itemsF
  rw [e, if_neg (by simp)]
theorem itemsF_ok {l : List (Int × List UInt8 × Int)} (h : l.length ≤ 8) (hx : ∀ x ∈ l, rcOk x.1 x.2.1 x.2.2) : Trie.itemsF l = (Trie.rcItems 0 l, 0) := by
  have e : (treeF l).2 = 0 := by
    unfold treeF
    rw [if_neg (by omega), Trie.treeW_bad, if_pos hx]
  unfold Trie.itemsF
  rw [e, if_pos rfl]
set_option maxRecDepth 100000 in
set_option maxHeartbeats 4000000 in
theorem ref17_Items (l : List (Int × List UInt8 × Int)) (hs : ∀ x ∈ l, x.2.1.length ≤ 9223372036854775807) (w : World) (A : Option Addr) (c : Nat) (HR : Reads w w.heap.size 3 A l.length (rcells l)) :
    Calls Tryz.prog 33 #[.slice A l.length c] w (ItemsREnd w (Trie.itemsF l)) := by
  have HP : Hid (∀ q (cd : Nat) A n c w', Trie.itemsF l = (q, cd) → n = q.length → w'.ownsRow w.heap.size 76 2 (.slice A n c) n (icells q) → Below w.heap.size w w' → ItemsREnd w (Trie.itemsF l) (.returned (.tuple #[.slice A n c, .int .i64 (cd : Int)])) w') := Lib.hid (fun q cd A n c w' e h1 h2 h3 => by rw [e]; exact ⟨A, n, c, rfl, h1, h2, h3⟩)
  generalize ItemsREnd w (Trie.itemsF l) = P at HP ⊢
  by_cases hl : 8 < l.length
  · have HE := Lib.hid (itemsF_bad hl)
    have hl1 : (8 : Int) < (l.length : Int) := by omega
    clear hl HR hs
    go_enter Tryz.func33, Tryz.ntmps33
    go_wp2_with fail
    exact HP.out [] 2 none 0 0 _ HE.out rfl (World.ownsRow_nil _ _ _ _) (Below.refl _ _)
  have hl1 : ((8 : Int) < (l.length : Int)) = False := by simp; omega
  have HRR := Lib.hid HR
  have HS := Lib.hid hs
  have HL := Lib.hid (show l.length ≤ 8 by omega)
  clear HR hs hl
  go_enter Tryz.func33, Tryz.ntmps33
  go_wp2_with fail
  refine wp_loop_ghost_k (fun k a wr => ∀ Φ : Act → Prop, (∀ (s1 s2 s3 s6 s7 s8 s9 s10 s11 s12 s13 s14 s15 s16 s17 s18 s19 s20 s21 s22 s23 s24 s25 s26 s27 s28 s29 s30 s31 s32 s33 s34 : Value) (i co : Nat) (Ao : Option Addr), (i + k = l.length ∧ (∀ x ∈ l.take i, rcOk x.1 x.2.1 x.2.2) ∧ wr.ownsRow w.heap.size 76 2 (.slice Ao i co) i (icells (Trie.rcItems 0 (l.take i))) ∧ Below w.heap.size w wr) → Φ { tmps := #[.slice A l.length c, s1, s2, s3, .slice Ao i co, .int .i64 (i : Int), s6, s7, s8, s9, s10, s11, s12, s13, s14, s15, s16, s17, s18, s19, s20, s21, s22, s23, s24, s25, s26, s27, s28, s29, s30, s31, s32, s33, s34], defers := [] }) → Φ a) (l.length) ?_ ?_
  · refine fun Φ hΦ => hΦ _ _ _ _ _ _ _ _ _ _ _ _ _ _ _ _ _ _ _ _ _ _ _ _ _ _ _ _ _ _ _ _ (0) (0) (none) ?_
    exact ⟨by omega, by simp, World.ownsRow_nil _ _ _ _, Below.refl _ _⟩
  · intro k1 a1 wr1 hI1 J1 K1 hJ1 hK1
    refine hI1 (fun a => Code.wp _ _ _ a _) ?_
    clear hI1 a1
    intro s0 s1 s2 s3 s4 s5 s6 s7 s8 s9 s10 s11 s12 s13 s14 s15 s16 s17 s18 s19 s20 s21 s22 s23 s24 s25 s26 s27 s28 s29 s30 s31 i co Ao hrel
    show Code.wp _ _ _ _ _
    obtain ⟨h1, h2, own, hb⟩ := hrel
    by_cases hi : i < l.length
    · obtain ⟨ad, off, rfl, hbl, hcell⟩ := HRR.out.form (by omega) (by omega)
      have ic := rcells_at hi
      have hil := rcells_length l
      have e0 : (rcells l)[3 * i]'(by omega) = .int .i64 l[i].1 := by
        have := ic.1; rw [List.getElem?_eq_getElem (by omega)] at this; exact Option.some.inj this
      have e1 : (rcells l)[3 * i + 1]'(by omega) = .string ⟨l[i].2.1.toArray⟩ := by
        have := ic.2.1; rw [List.getElem?_eq_getElem (by omega)] at this; exact Option.some.inj this
      have e2 : (rcells l)[3 * i + 2]'(by omega) = .int .i64 l[i].2.2 := by
        have := ic.2.2; rw [List.getElem?_eq_getElem (by omega)] at this; exact Option.some.inj this
      have q0 := hcell (3 * i) (by omega)
      have q1 := hcell (3 * i + 1) (by omega)
      have q2 := hcell (3 * i + 2) (by omega)
      rw [e0] at q0
      rw [e1] at q1
      rw [e2] at q2
      have HC : Hid (∀ W, Below w.heap.size w W → W.cell? ⟨ad, off + i * 3, none⟩ = some (.int .i64 l[i].1) ∧ W.cell? ⟨ad, off + i * 3 + 1, none⟩ = some (.string ⟨l[i].2.1.toArray⟩) ∧ W.cell? ⟨ad, off + i * 3 + 2, none⟩ = some (.int .i64 l[i].2.2)) := Lib.hid (fun W hb => by
        refine ⟨?_, ?_, ?_⟩
        · rw [show i * 3 = 3 * i by omega]; exact (hb.cell (p := ⟨ad, off + 3 * i, none⟩) hbl).trans q0
        · rw [show off + i * 3 + 1 = off + (3 * i + 1) by omega]; exact (hb.cell (p := ⟨ad, off + (3 * i + 1), none⟩) hbl).trans q1
        · rw [show off + i * 3 + 2 = off + (3 * i + 2) by omega]; exact (hb.cell (p := ⟨ad, off + (3 * i + 2), none⟩) hbl).trans q2)
      have hi1 : (i : Int) < (l.length : Int) := by omega
      have hi0 : (0 : Int) ≤ (i : Int) := by omega
      have htk : l.take (i + 1) = l.take i ++ [l[i]] := List.take_succ_eq_append_getElem hi
      have hlen := HS.out _ (List.getElem_mem hi)
      have hmem : l[i] ∈ l := List.getElem_mem hi
      have htl : (l.take i).length = i := by rw [List.length_take]; omega
      have HI := Lib.hid (And.intro h1 (And.intro h2 (And.intro own (And.intro hb (And.intro htk (And.intro hmem htl))))))
      have hi8 : i < 8 := Nat.lt_of_lt_of_le hi HL.out
      obtain ⟨r0, r1, r2⟩ := HC.out wr1 hb
      clear ic hil e0 e1 e2 q0 q1 q2 hcell h1 h2 own hb htk hmem htl HS
      generalize l[i] = x at *
      obtain ⟨rc, rf, rq⟩ := x
      have HFi := Lib.hid (ref17_Fine rc rf rq hlen wr1)
      unfold rcV at HFi
      by_cases hok : rcOk rc rf rq
      rotate_left
      · have HE := Lib.hid (itemsF_no HL.out HI.out.2.2.2.2.2.1 hok)
        rw [decide_eq_false hok] at HFi
        clear hok HC
        go_wp2_with fail
        refine HFi.out.mono ?_
        rintro e w2 ⟨rfl, hb2⟩
        have HB2 := Lib.hid (HI.out.2.2.2.1.nxt hb2)
        clear hb2
        go_wp2_with fail
        exact HP.out [] 3 none 0 0 _ HE.out rfl (World.ownsRow_nil _ _ _ _) HB2.out
      rw [decide_eq_true hok] at HFi
      obtain ⟨o1, o2, o3, o4, o5, o6⟩ := id hok
      obtain ⟨cn, rfl⟩ := Int.eq_ofNat_of_zero_le o1
      obtain ⟨qn, rfl⟩ := Int.eq_ofNat_of_zero_le o5
      have HWr := Lib.hid (fun W => ref17_Written cn qn rf (by omega) o4 (by omega) W)
      have HEn : Hid ((encW (cn : Int) rf (qn : Int)).1 = numW cn ++ (textW rf ++ numW qn)) := Lib.hid (by rw [encW, if_pos hok]; simp)
      have HOk := Lib.hid hok
      generalize numW cn ++ (textW rf ++ numW qn) = bytes at *
      clear o1 o2 o3 o4 o5 o6 hok hlen
      go_wp2_with fail
      refine HFi.out.mono ?_
      rintro e w2 ⟨rfl, hb2⟩
      have HB2 := Lib.hid (HI.out.2.2.2.1.nxt hb2)
      have O2 := Lib.hid (own_below HI.out.2.2.1 hb2)
      obtain ⟨s0, s1, s2⟩ := HC.out w2 HB2.out
      have hal0 : ∀ o : Obj, (w2.alloc o).cell? ⟨ad, off + i * 3, none⟩ = some (.int .i64 (cn : Int)) := fun o => (HC.out _ (HB2.out.alloc HB2.out.size o)).1
      have hal1 : ∀ o : Obj, (w2.alloc o).cell? ⟨ad, off + i * 3 + 1, none⟩ = some (.string ⟨rf.toArray⟩) := fun o => (HC.out _ (HB2.out.alloc HB2.out.size o)).2.1
      have hal2 : ∀ o : Obj, (w2.alloc o).cell? ⟨ad, off + i * 3 + 2, none⟩ = some (.int .i64 (qn : Int)) := fun o => (HC.out _ (HB2.out.alloc HB2.out.size o)).2.2
      clear hb2 r0 r1 r2 HFi
      have b0 : (0 : Int) ≤ (i : Int) := by omega
      have b1 : (i : Int) < 256 := by omega
      have e1 : IntKind.u8.wrap (i : Int) = i := IntWalk.u8_in _ (by omega)
      have cd := conv1d w2 (i : Int) b0 b1
      have cd2 := conv1 w2 (i : Int) b0 b1
      rw [Int.toNat_natCast] at cd cd2
      obtain ⟨i0, hi0', hz0, hz1, hz2⟩ := info_parts info_item
      go_upto_region 9 with fail
      refine wp_region_noPanic ?_
      go_region_law (first
        | (refine step_call rfl 66 #[.agg #[.int .i64 (cn : Int), .string ⟨rf.toArray⟩, .int .i64 (qn : Int)]] (by go_simp) _ (HWr.out _) ?_; rintro e w3 ⟨rfl, hb3⟩; refine ⟨_, rfl, ?_⟩; have B3 : Below w2.heap.size w2 w3 := (by first | exact Below.nxt ((Below.refl _ _).alloc (Nat.le_refl _) _).drew hb3 | exact Below.nxt (Below.refl _ _).drew hb3 | exact ((Below.refl _ _).alloc (Nat.le_refl _) _).nxt hb3); have O3 := Lib.hid (And.intro (own_below O2.out B3) (HB2.out.nxt B3)); have cd3 := conv1 w3 (i : Int) b0 b1; rw [Int.toNat_natCast] at cd3; (first | (have cd4 := conv1_below w2 w3 (i : Int) b0 b1 (by have := hb3.mono (show w2.heap.size + 1 ≤ _ from by simp); exact this); rw [Int.toNat_natCast] at cd4) | skip); clear hb3 B3)
        | (refine step_append_row w3 76 [.string ⟨#[UInt8.ofNat i]⟩, .string ⟨bytes.toArray⟩] rfl _ _ 39 rfl w.heap.size 2 32 _ info_item Tryz.underlying39 rfl (by decide) (.slice Ao i co) i _ rfl O3.out.1 1 1 rfl rfl (by simp [Value.oneCell']) (by simp only [maxLen]; omega) (by omega) w.heap.size w O3.out.2 (Nat.le_refl _) O3.out.2.size ?_; intro v4 w4 own4 hb4 hgr4 ho4 hlt4; obtain ⟨A4, c4, rfl, _, _, _⟩ := own_form own4; have O4 := Lib.hid (And.intro own4 hb4); clear own4 hb4 hgr4 ho4 hlt4)
        | (refine step_append_row (w3.alloc (.cells #[.int .u8 (i : Int)] 5)) 76 [.string ⟨#[UInt8.ofNat i]⟩, .string ⟨bytes.toArray⟩] rfl _ _ 39 rfl w.heap.size 2 32 _ info_item Tryz.underlying39 rfl (by decide) (.slice Ao i co) i _ rfl (O3.out.1.alloc _) 1 1 (by rw [World.size_alloc]; rfl) rfl (by simp [Value.oneCell']) (by simp only [maxLen]; omega) (by omega) w.heap.size w (O3.out.2.alloc O3.out.2.size _) (Nat.le_refl _) (O3.out.2.alloc O3.out.2.size _).size ?_; intro v4 w4 own4 hb4 hgr4 ho4 hlt4; obtain ⟨A4, c4, rfl, _, _, _⟩ := own_form own4; have O4 := Lib.hid (And.intro own4 hb4); clear own4 hb4 hgr4 ho4 hlt4))
      all_goals refine NoPanic.normal ?_
      all_goals go_wp2_with fail
      all_goals (refine Handed.intro (l.length - (i + 1)) ?_ (hJ1 _ _ _ (fun Φ hΦ => hΦ _ _ _ _ _ _ _ _ _ _ _ _ _ _ _ _ _ _ _ _ _ _ _ _ _ _ _ _ _ _ _ _ (i + 1) (c4) (A4) ?_)))
      all_goals first
        | (have := HI.out.1; omega)
        | (refine ⟨by have := HI.out.1; omega, ?_, ?_, O4.out.2⟩
           · rw [HI.out.2.2.2.2.1]
             intro x hx
             rcases List.mem_append.1 hx with hx | hx
             · exact HI.out.2.1 x hx
             · rw [List.mem_singleton] at hx
               subst hx
               exact HOk.out
           · have e5 : icells (Trie.rcItems 0 (l.take (i + 1))) = icells (Trie.rcItems 0 (l.take i)) ++ [.string ⟨#[UInt8.ofNat i]⟩, .string ⟨bytes.toArray⟩] := by
               rw [HI.out.2.2.2.2.1, rcItems_app, HI.out.2.2.2.2.2.2, Nat.zero_add]
               simp only [HEn.out, icells, List.flatMap_append, List.flatMap_cons, List.flatMap_nil, List.append_nil]
             rw [e5]
             exact O4.out.1)
    · have hi1 : ((i : Int) < (l.length : Int)) = False := by simp; omega
      obtain rfl : i = l.length := by omega
      have HE := Lib.hid (itemsF_ok HL.out (by have := h2; rwa [List.take_length] at this))
      have HO : Hid (wr1.ownsRow w.heap.size 76 2 (.slice Ao l.length co) l.length (icells (Trie.rcItems 0 l)) ∧ Below w.heap.size w wr1) := Lib.hid ⟨by have := own; rwa [List.take_length] at this, hb⟩
      clear h1 h2 own hb HS
      go_wp2_with fail
      exact HP.out _ 0 _ _ _ _ HE.out (Trie.rcItems_len l 0).symm HO.out.1 HO.out.2
end Go.Proofs.YtcjafcbekegmlaaGreatDoor
