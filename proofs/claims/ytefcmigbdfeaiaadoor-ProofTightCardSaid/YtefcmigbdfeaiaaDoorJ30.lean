import Derived.Test.YtefcmigbdfeaiaaDoorJ29
import Derived.Test.YtefcmigbdfeaiaaDoorJ27
set_option linter.unusedSimpArgs false
set_option linter.unusedVariables false
namespace Go.Proofs.YtefcmigbdfeaiaaDoor
set_option linter.unusedVariables false
open Go.RowKit Go.Instr
theorem take_eq_succ' {α : Type} {xs ys : List α} {i : Nat} (h1 : i < xs.length) (h2 : i < ys.length) (h : xs.take i = ys.take i) : (xs.take (i + 1) = ys.take (i + 1)) ↔ xs[i] = ys[i] := by
  rw [List.take_succ_eq_append_getElem h1, List.take_succ_eq_append_getElem h2, h]
  exact ⟨fun e => by simpa using List.append_cancel_left e, fun e => by rw [e]⟩
set_option maxHeartbeats 400000 in
theorem book_SameTexts (A B : Option Addr) (n m c d : Nat) (xs ys : List (List UInt8)) (w : World) (ha : Reads w w.heap.size 1 A n (strv xs)) (hb : Reads w w.heap.size 1 B m (strv ys)) (hn : n ≤ 1048576) (hm : m ≤ 1048576) :
    Calls Tryd.prog 18 #[.slice A n c, .slice B m d] w fun e w' => e = .returned (.bool (decide (xs = ys))) ∧ Below w.heap.size w w' := by
  have hxl : xs.length = n := by have := ha.1; rw [strv_length] at this; omega
  have hyl : ys.length = m := by have := hb.1; rw [strv_length] at this; omega
  by_cases hnm : n = m
  · subst hnm
    have hq : ((n : Int) == (n : Int)) = true := by simp
    go_enter Tryd.func18, Tryd.ntmps18
    go_wp2
    refine wp_loop_ghost_k (fun k a wr => ∀ Φ : Act → Prop, (∀ (s2 s3 s4 s7 s8 s9 s10 s11 s12 s13 s14 s15 s16 s17 s18 s19 s20 s21 s22 s23 s24 s25 s26 s27 s28 s29 s30 : Value) (i : Nat) (q : Bool), (i + k = n ∧ (q = true ↔ xs.take i = ys.take i) ∧ (q = false → xs ≠ ys) ∧ Below w.heap.size w wr) → Φ { tmps := #[.slice A n c, .slice B n d, s2, s3, s4, .bool q, .int .i64 i, s7, s8, s9, s10, s11, s12, s13, s14, s15, s16, s17, s18, s19, s20, s21, s22, s23, s24, s25, s26, s27, s28, s29, s30], defers := [] }) → Φ a) (n) ?_ ?_
    · refine fun Φ hΦ => hΦ _ _ _ _ _ _ _ _ _ _ _ _ _ _ _ _ _ _ _ _ _ _ _ _ _ _ _ (0) (true) ?_
      exact ⟨by omega, by simp, by simp, Below.refl _ _⟩
    · intro k1 a1 wr1 hI1 J1 K1 hJ1 hK1
      refine hI1 (fun a => Code.wp _ _ _ a _) ?_
      clear hI1 a1
      intro s0 s1 s2 s3 s4 s5 s6 s7 s8 s9 s10 s11 s12 s13 s14 s15 s16 s17 s18 s19 s20 s21 s22 s23 s24 s25 s26 i q hrel
      show Code.wp _ _ _ _ _
      obtain ⟨h1, h2, h3, hw⟩ := hrel
      cases q with
      | false =>
        have h3' : xs ≠ ys := by simpa using h3
        have H3 := Lib.hid h3'
        clear h3'
        clear h2 h3
        go_wp2
        go_ret
        exact ⟨ret_bool (by simpa using H3.out), hw⟩
      | true =>
        have H2 := Lib.hid h2
        clear h2 h3
        by_cases hi : i < n
        · obtain ⟨b1, o1, rfl, hl1, hc1⟩ := ha.form (by omega) (by omega)
          obtain ⟨b2, o2, rfl, hl2, hc2⟩ := hb.form (by omega) (by omega)
          have g1 := (hw.cell (p := ⟨b1, o1 + i, none⟩) hl1).trans (hc1 i (by rw [strv_length]; omega))
          have g2 := (hw.cell (p := ⟨b2, o2 + i, none⟩) hl2).trans (hc2 i (by rw [strv_length]; omega))
          simp only [strv, List.getElem_map] at g1 g2
          clear hc1 hc2
          go_wp2
          go_quiet (fail)
          go_wp2
          refine Handed.intro (n - (i + 1)) ?_ (hJ1 _ _ _ (fun Φ hΦ => hΦ _ _ _ _ _ _ _ _ _ _ _ _ _ _ _ _ _ _ _ _ _ _ _ _ _ _ _ (i + 1) (xs[i] == ys[i]) ?_))
          · omega
          · have hx := take_eq_succ' (xs := xs) (ys := ys) (i := i) (by omega) (by omega) (by simpa using H2.out)
            refine ⟨by omega, ?_, ?_, below_drewN hw _⟩
            · rw [hx]; simp
            · intro hq e
              subst e
              simp at hq
        · have e : i = n := by omega
          subst e
          go_wp2
          go_ret
          exact ⟨ret_bool (by have h2 : xs.take i = ys.take i := by simpa using H2.out
                              rw [List.take_of_length_le (by omega), List.take_of_length_le (by omega)] at h2
                              simpa using h2), hw⟩
  · have hq : ((n : Int) == (m : Int)) = false := by rw [beq_eq_false_iff_ne]; omega
    go_enter Tryd.func18, Tryd.ntmps18
    go_wp2
    refine wp_loop_rounds 1 ?_
    rw [rounds_succ]
    go_wp2
    go_ret
    exact ⟨ret_bool (by symm; rw [decide_eq_false_iff_not]; intro e; subst e; omega), Below.refl _ _⟩
theorem it_run (w : World) (a b : List UInt8 × List UInt8) : (Op.equalIn 10000 26 (.agg #[.string ⟨a.1.toArray⟩, .string ⟨a.2.toArray⟩]) (.agg #[.string ⟨b.1.toArray⟩, .string ⟨b.2.toArray⟩])).run Tryd.prog w = .ok (a == b) w := by
  obtain ⟨a1, a2⟩ := a
  obtain ⟨b1, b2⟩ := b
  have u9 := Tryd.underlying9
  have a9 := Tryd.isAgg9
  have z9 := Tryd.sizeOf9
  have hS : Tryd.prog.underlying 26 = some (.struct (Tryd.prog.fieldsOf 26)) := by kernel_rfl
  have hp : Tryd.prog.stoodInHeld 26 = false := by kernel_rfl
  rw [show (10000 : Nat) = 9999 + 1 from rfl, run_equalIn_agg w 9999 26 _ _ hS hp]
  simp only [Program.fieldsOf, Tryd.underlying26]
  go_simp
  by_cases h1 : a1 = b1 <;> by_cases h2 : a2 = b2 <;> simp [h1, h2]
  all_goals (intro h; exact absurd h (by assumption))
set_option maxHeartbeats 400000 in
theorem book_SameItems (A B : Option Addr) (n m c d : Nat) (xs ys : List (List UInt8 × List UInt8)) (w : World) (ha : Reads w w.heap.size 2 A n (icells xs)) (hb : Reads w w.heap.size 2 B m (icells ys)) (hn : n ≤ 1048576) (hm : m ≤ 1048576) :
    Calls Tryd.prog 15 #[.slice A n c, .slice B m d] w fun e w' => e = .returned (.bool (decide (xs = ys))) ∧ Below w.heap.size w w' := by
  have hxl : xs.length = n := by have := ha.1; rw [icells_length] at this; omega
  have hyl : ys.length = m := by have := hb.1; rw [icells_length] at this; omega
  by_cases hnm : n = m
  · subst hnm
    have hq : ((n : Int) == (n : Int)) = true := by simp
    go_enter Tryd.func15, Tryd.ntmps15
    go_wp2
    refine wp_loop_ghost_k (fun k a wr => ∀ Φ : Act → Prop, (∀ (s2 s3 s4 s7 s8 s9 s10 s11 s12 s13 s14 s15 s16 s17 s18 s19 s20 s21 s22 s23 s24 s25 s26 s27 s28 s29 s30 : Value) (i : Nat) (q : Bool), (i + k = n ∧ (q = true ↔ xs.take i = ys.take i) ∧ (q = false → xs ≠ ys) ∧ Below w.heap.size w wr) → Φ { tmps := #[.slice A n c, .slice B n d, s2, s3, s4, .bool q, .int .i64 i, s7, s8, s9, s10, s11, s12, s13, s14, s15, s16, s17, s18, s19, s20, s21, s22, s23, s24, s25, s26, s27, s28, s29, s30], defers := [] }) → Φ a) (n) ?_ ?_
    · refine fun Φ hΦ => hΦ _ _ _ _ _ _ _ _ _ _ _ _ _ _ _ _ _ _ _ _ _ _ _ _ _ _ _ (0) (true) ?_
      exact ⟨by omega, by simp, by simp, Below.refl _ _⟩
    · intro k1 a1 wr1 hI1 J1 K1 hJ1 hK1
      refine hI1 (fun a => Code.wp _ _ _ a _) ?_
      clear hI1 a1
      intro s0 s1 s2 s3 s4 s5 s6 s7 s8 s9 s10 s11 s12 s13 s14 s15 s16 s17 s18 s19 s20 s21 s22 s23 s24 s25 s26 i q hrel
      show Code.wp _ _ _ _ _
      obtain ⟨h1, h2, h3, hw⟩ := hrel
      cases q with
      | false =>
        have h3' : xs ≠ ys := by simpa using h3
        have H3 := Lib.hid h3'
        clear h3'
        clear h2 h3
        go_wp2
        go_ret
        exact ⟨ret_bool (by simpa using H3.out), hw⟩
      | true =>
        have H2 := Lib.hid h2
        clear h2 h3
        by_cases hi : i < n
        · obtain ⟨b1, o1, rfl, hl1, hc1⟩ := ha.form (by omega) (by omega)
          obtain ⟨b2, o2, rfl, hl2, hc2⟩ := hb.form (by omega) (by omega)
          have g1 : wr1.cell? ⟨b1, o1 + i * 2, none⟩ = some (.string ⟨(xs[i]'(by omega)).1.toArray⟩) := by
            have q := hc1 (2 * i) (by rw [icells_length]; omega)
            have r := (icells_at (l := xs) (i := i) (by omega)).1
            rw [List.getElem?_eq_getElem (by rw [icells_length]; omega)] at r
            rw [Option.some.inj r] at q
            rw [show o1 + i * 2 = o1 + (2 * i) by omega]
            exact (hw.cell (p := ⟨b1, o1 + (2 * i), none⟩) hl1).trans q
          have g1b : wr1.cell? ⟨b1, o1 + i * 2 + 1, none⟩ = some (.string ⟨(xs[i]'(by omega)).2.toArray⟩) := by
            have q := hc1 (2 * i + 1) (by rw [icells_length]; omega)
            have r := (icells_at (l := xs) (i := i) (by omega)).2
            rw [List.getElem?_eq_getElem (by rw [icells_length]; omega)] at r
            rw [Option.some.inj r] at q
            rw [show o1 + i * 2 + 1 = o1 + (2 * i + 1) by omega]
            exact (hw.cell (p := ⟨b1, o1 + (2 * i + 1), none⟩) hl1).trans q
          have g2 : wr1.cell? ⟨b2, o2 + i * 2, none⟩ = some (.string ⟨(ys[i]'(by omega)).1.toArray⟩) := by
            have q := hc2 (2 * i) (by rw [icells_length]; omega)
            have r := (icells_at (l := ys) (i := i) (by omega)).1
            rw [List.getElem?_eq_getElem (by rw [icells_length]; omega)] at r
            rw [Option.some.inj r] at q
            rw [show o2 + i * 2 = o2 + (2 * i) by omega]
            exact (hw.cell (p := ⟨b2, o2 + (2 * i), none⟩) hl2).trans q
          have g2b : wr1.cell? ⟨b2, o2 + i * 2 + 1, none⟩ = some (.string ⟨(ys[i]'(by omega)).2.toArray⟩) := by
            have q := hc2 (2 * i + 1) (by rw [icells_length]; omega)
            have r := (icells_at (l := ys) (i := i) (by omega)).2
            rw [List.getElem?_eq_getElem (by rw [icells_length]; omega)] at r
            rw [Option.some.inj r] at q
            rw [show o2 + i * 2 + 1 = o2 + (2 * i + 1) by omega]
            exact (hw.cell (p := ⟨b2, o2 + (2 * i + 1), none⟩) hl2).trans q
          have EQ := fun w => it_run w (xs[i]'(by omega)) (ys[i]'(by omega))
          clear hc1 hc2
          go_wp2
          go_region
          go_wp2
          refine Handed.intro (n - (i + 1)) ?_ (hJ1 _ _ _ (fun Φ hΦ => hΦ _ _ _ _ _ _ _ _ _ _ _ _ _ _ _ _ _ _ _ _ _ _ _ _ _ _ _ (i + 1) (xs[i] == ys[i]) ?_))
          · omega
          · have hx := take_eq_succ' (xs := xs) (ys := ys) (i := i) (by omega) (by omega) (by simpa using H2.out)
            refine ⟨by omega, ?_, ?_, below_drewN hw _⟩
            · rw [hx]; simp
            · intro hq e
              subst e
              simp at hq
        · have e : i = n := by omega
          subst e
          go_wp2
          go_ret
          exact ⟨ret_bool (by have h2 : xs.take i = ys.take i := by simpa using H2.out
                              rw [List.take_of_length_le (by omega), List.take_of_length_le (by omega)] at h2
                              simpa using h2), hw⟩
  · have hq : ((n : Int) == (m : Int)) = false := by rw [beq_eq_false_iff_ne]; omega
    go_enter Tryd.func15, Tryd.ntmps15
    go_wp2
    refine wp_loop_rounds 1 ?_
    rw [rounds_succ]
    go_wp2
    go_ret
    exact ⟨ret_bool (by symm; rw [decide_eq_false_iff_not]; intro e; subst e; omega), Below.refl _ _⟩
end Go.Proofs.YtefcmigbdfeaiaaDoor

namespace Go.Proofs.YtefcmigbdfeaiaaDoor
set_option linter.unusedVariables false
open Go.RowKit Go.Instr
attribute [local go_sem] ba_get ByteArray.mk_append_mk
attribute [local go_sem ↓] Go.wp_at_zero Go.wp_at_succ
structure Act10 where
  kind : Int
  key : List UInt8
  value : List UInt8
def actv (s : Act10) : List Value := [.int .i64 s.kind, .string ⟨s.key.toArray⟩, .string ⟨s.value.toArray⟩]
def acts (L : List Act10) : List Value := L.flatMap actv
theorem acts_length : ∀ (l : List Act10), (acts l).length = l.length * 3
  | [] => rfl
  | x :: l => by
    have : acts (x :: l) = actv x ++ acts l := rfl
    rw [this, List.length_append, acts_length l, List.length_cons]
    show 3 + _ = _
    omega
theorem acts_at : ∀ (l : List Act10) (i j : Nat) (x : Act10), l[i]? = some x → j < 3 → (acts l)[i * 3 + j]? = (actv x)[j]?
  | [], i, j, x, h, _ => by simp at h
  | y :: l, 0, j, x, h, hj => by
    simp at h; subst h
    rw [show acts (y :: l) = actv y ++ acts l from rfl, Nat.zero_mul, Nat.zero_add, List.getElem?_append_left (show j < 3 from hj)]
  | y :: l, i + 1, j, x, h, hj => by
    rw [show acts (y :: l) = actv y ++ acts l from rfl, List.getElem?_append_right (show 3 ≤ _ by omega), show (actv y).length = 3 from rfl, show (i + 1) * 3 + j - 3 = i * 3 + j by omega]
    exact acts_at l i j x (by simpa using h) hj
theorem acts_read {w : World} {B : Nat} {A : Option Addr} {l : List Act10} (h : Reads w B 3 A l.length (acts l)) (i : Nat) (hi : i < l.length) :
    ∃ ad off, A = some ⟨ad, off, none⟩ ∧ ad < B ∧ ∀ w', Below B w w' → w'.cell? ⟨ad, off + i * 3, none⟩ = some (.int .i64 l[i].kind) ∧ w'.cell? ⟨ad, off + i * 3 + 1, none⟩ = some (.string ⟨l[i].key.toArray⟩) ∧ w'.cell? ⟨ad, off + i * 3 + 2, none⟩ = some (.string ⟨l[i].value.toArray⟩) := by
  have hl := acts_length l
  obtain ⟨ad, off, rfl, hbl, hcell⟩ := h.form (by omega) (by omega)
  refine ⟨ad, off, rfl, hbl, fun w' hb => ?_⟩
  have hx : l[i]? = some l[i] := List.getElem?_eq_getElem hi
  have each : ∀ j u, j < 3 → (actv l[i])[j]? = some u → w'.cell? ⟨ad, off + (i * 3 + j), none⟩ = some u := fun j u hj hu => by
    have h1 := acts_at l i j _ hx hj
    rw [hu, List.getElem?_eq_getElem (by omega)] at h1
    have h2 := hcell (i * 3 + j) (by omega)
    rw [Option.some.inj h1] at h2
    exact (hb.cell (p := ⟨ad, off + (i * 3 + j), none⟩) hbl).trans h2
  exact ⟨each 0 _ (by omega) rfl, each 1 _ (by omega) rfl, each 2 _ (by omega) rfl⟩
def longA (a : Act10) : Bool := decide (100 < a.key.length) || decide (100 < a.value.length)
def longW (L : List Act10) (n : Nat) : Bool := decide (n < L.length) || L.any longA
set_option maxRecDepth 100000 in
theorem law10_long (w : World) (A : Option Addr) (c : Nat) (L : List Act10) (n : Nat) (HR : Reads w w.heap.size 3 A L.length (acts L)) (hn : n ≤ 100000) :
    Calls Tryd.prog 28 #[.slice A L.length c, .int .i64 (n : Int)] w fun e w' => e = .returned (.bool (longW L n)) ∧ Below w.heap.size w w' := by
  have HP : Hid (∀ r w', longW L n = r → Below w.heap.size w w' → (fun e w' => e = Ending.returned (.bool (longW L n)) ∧ Below w.heap.size w w') (Ending.returned (.bool r)) w') := Lib.hid (fun r W' a1 a2 => ⟨by rw [a1], a2⟩)
  have HC : Hid (longW L n = (decide (n < L.length) || L.any longA)) := Lib.hid rfl
  generalize (fun e w' => e = Ending.returned (.bool (longW L n)) ∧ Below w.heap.size w w') = P at HP ⊢
  generalize longW L n = lw at *
  have HRR := Lib.hid HR
  clear HR
  by_cases hln : n < L.length
  · have hI : (n : Int) < L.length := by omega
    go_enter Tryd.func28, Tryd.ntmps28
    go_wp2_with fail
    exact HP.out _ _ (by rw [HC.out]; simp [hln]) (Below.refl _ _)
  · have hI : ((n : Int) < L.length) = False := by simp; omega
    have HC2 : Hid (lw = L.any longA) := Lib.hid (by rw [HC.out]; simp [hln])
    have hln' : L.length ≤ n := by omega
    clear HC hln
    go_enter Tryd.func28, Tryd.ntmps28
    go_wp2_with fail
    refine wp_loop_ghost_k (fun k a wr => ∀ Φ : Act → Prop, (∀ (s1 s2 s3 s4 s6 s7 s8 s9 s10 s11 s12 s13 s14 s15 s16 s17 s18 s19 s20 s21 s22 s23 s24 s25 s26 s27 s28 s29 s30 s31 : Value) (i : Nat), (i + k = L.length ∧ L.any longA = (L.drop i).any longA ∧ Below w.heap.size w wr) → Φ { tmps := #[.slice A L.length c, s1, s2, s3, s4, .int .i64 (i : Int), s6, s7, s8, s9, s10, s11, s12, s13, s14, s15, s16, s17, s18, s19, s20, s21, s22, s23, s24, s25, s26, s27, s28, s29, s30, s31], defers := [] }) → Φ a) (L.length) ?_ ?_
    · refine fun Φ hΦ => hΦ _ _ _ _ _ _ _ _ _ _ _ _ _ _ _ _ _ _ _ _ _ _ _ _ _ _ _ _ _ _ (0) ?_
      exact ⟨by omega, rfl, Below.refl _ _⟩
    · intro k1 a1 wr1 hI1 J1 K1 hJ1 hK1
      refine hI1 (fun a => Code.wp _ _ _ a _) ?_
      clear hI1 a1
      intro s0 s1 s2 s3 s4 s5 s6 s7 s8 s9 s10 s11 s12 s13 s14 s15 s16 s17 s18 s19 s20 s21 s22 s23 s24 s25 s26 s27 s28 s29 i hrel
      show Code.wp _ _ _ _ _
      obtain ⟨h1, h2, hb⟩ := hrel
      by_cases hi : i < L.length
      · obtain ⟨ad, off, rfl, hbl, hcell⟩ := acts_read HRR.out i hi
        obtain ⟨r0, r1, r2⟩ := hcell _ hb
        have hd : L.drop i = L[i] :: L.drop (i + 1) := List.drop_eq_getElem_cons hi
        have HI := Lib.hid (And.intro h1 (And.intro h2 (And.intro hb hd)))
        have hi0 : (i : Int) < L.length := by omega
        have hi1 : (0 : Int) ≤ i := by omega
        clear h1 h2 hb hd hcell hbl
        generalize L[i] = x at *
        obtain ⟨kind, key, value⟩ := x
        by_cases hk : 100 < key.length
        · have hk' : (100 : Int) < key.length := by omega
          go_wp2_with fail
          exact HP.out _ _ (by rw [HC2.out, HI.out.2.1, HI.out.2.2.2, List.any_cons]; simp [longA, hk]) HI.out.2.2.1
        · have hk' : ((100 : Int) < key.length) = False := by simp; omega
          by_cases hv : 100 < value.length
          · have hv' : (100 : Int) < value.length := by omega
            go_wp2_with fail
            exact HP.out _ _ (by rw [HC2.out, HI.out.2.1, HI.out.2.2.2, List.any_cons]; simp [longA, hv]) HI.out.2.2.1
          · have hv' : ((100 : Int) < value.length) = False := by simp; omega
            go_wp2_with fail
            refine Handed.intro (L.length - (i + 1)) ?_ (hJ1 _ _ _ (fun Φ hΦ => hΦ _ _ _ _ _ _ _ _ _ _ _ _ _ _ _ _ _ _ _ _ _ _ _ _ _ _ _ _ _ _ (i + 1) ?_))
            · have := HI.out.1; omega
            exact ⟨by have := HI.out.1; omega, by rw [HI.out.2.1, HI.out.2.2.2, List.any_cons]; simp [longA, hk, hv], HI.out.2.2.1⟩
      · have hi0 : ((i : Int) < L.length) = False := by simp; omega
        have HI := Lib.hid (And.intro h2 (And.intro hb (show L.drop i = [] from List.drop_of_length_le (by omega))))
        clear h1 h2 hb
        go_wp2_with fail
        exact HP.out _ _ (by rw [HC2.out, HI.out.1, HI.out.2.2]; rfl) HI.out.2.1
end Go.Proofs.YtefcmigbdfeaiaaDoor

namespace Go.Proofs.YtefcmigbdfeaiaaDoor
set_option linter.unusedVariables false
open Go.RowKit Go.Instr
attribute [local go_sem] ba_get ByteArray.mk_append_mk
attribute [local go_sem ↓] Go.wp_at_zero Go.wp_at_succ
namespace Trie
def actW (t : T) (a : Act10) : T :=
  if 1 < a.kind then (if (getW t a.key).2 = 0 then del t (Nib.of a.key) else t)
  else (if putCode a.key a.value = 0 then put t (Nib.of a.key) a.value else t)
def madeW (L : List Act10) : T := (L.take 30).foldl actW .nil
theorem getW_code {t : T} {key : List UInt8} (h : (getW t key).2 = 0) : keyedW key = true ∧ look t (Nib.of key) ≠ [] := by
  unfold getW at h
  split at h
  · rename_i hk
    split at h
    · cases h
    · rename_i hv
      exact ⟨hk, fun e => hv (by rw [e]; rfl)⟩
  · cases h
theorem Good.act {t : T} (h : Good t) (a : Act10) : Good (actW t a) := by
  unfold actW
  split
  · split
    · rename_i hg
      exact h.del (getW_code hg).2
    · exact h
  · split
    · rename_i hp
      obtain ⟨h1, h2, h3⟩ := putCode_zero hp
      exact h.put h1 h2 h3
    · exact h
theorem count_act {t : T} (h : Good t) (a : Act10) : count (actW t a) ≤ count t + 1 := by
  unfold actW
  split
  · split
    · rename_i hg
      have := count_del t (Nib.of a.key) h.wf (Nib.fit_of _) (getW_code hg).2
      omega
    · omega
  · split
    · exact count_put _ _ _
    · omega
end Trie
set_option maxRecDepth 100000 in
set_option maxHeartbeats 1000000 in
theorem law10_made (w : World) (A : Option Addr) (c : Nat) (L : List Act10) (HR : Reads w w.heap.size 3 A L.length (acts L)) (hS : L.any longA = false) (hT : Tbl w) :
    Calls Tryd.prog 30 #[.slice A L.length c] w (NewEnd w (Trie.madeW L)) := by
  have HP : Hid (∀ t' v w', Trie.madeW L = t' → TrieP w' t' v → Below w.heap.size w w' → NewEnd w (Trie.madeW L) (.returned v) w') := Lib.hid (fun t' v w' h1 h2 h3 => ⟨v, rfl, by rw [h1]; exact h2, h3⟩)
  generalize NewEnd w (Trie.madeW L) = P at HP ⊢
  have HRR := Lib.hid HR
  have HS := Lib.hid hS
  have HTb := Lib.hid hT
  clear HR hS hT
  go_enter Tryd.func30, Tryd.ntmps30
  go_wp2_with (go_at_call 49; refine (trie_New _).mono ?_; rintro e w1 ⟨v0, rfl, hk0, hb0⟩; have H0 := Lib.hid (And.intro hk0 hb0); clear hk0 hb0)
  refine wp_loop_ghost_k (fun k a wr => ∀ Φ : Act → Prop, (∀ (s1 s2 s5 s6 s7 s8 s9 s10 s11 s12 s13 s14 s15 s16 s17 s18 s19 s20 s21 s22 s23 s24 s25 s26 s27 s28 s29 s30 s31 s32 s33 s34 s35 s36 s37 s38 s39 s40 s41 s42 s43 s44 s45 s46 s47 s48 s49 s50 s51 s52 : Value) (i : Nat) (t : Trie.T) (v : Value), (i + k = 30 ∧ i ≤ L.length ∧ (L.take i).foldl Trie.actW .nil = t ∧ Trie.count t ≤ i ∧ TrieP wr t v ∧ Below w.heap.size w wr) → Φ { tmps := #[.slice A L.length c, s1, s2, v, .int .i64 (i : Int), s5, s6, s7, s8, s9, s10, s11, s12, s13, s14, s15, s16, s17, s18, s19, s20, s21, s22, s23, s24, s25, s26, s27, s28, s29, s30, s31, s32, s33, s34, s35, s36, s37, s38, s39, s40, s41, s42, s43, s44, s45, s46, s47, s48, s49, s50, s51, s52], defers := [] }) → Φ a) (30) ?_ ?_
  · refine fun Φ hΦ => hΦ _ _ _ _ _ _ _ _ _ _ _ _ _ _ _ _ _ _ _ _ _ _ _ _ _ _ _ _ _ _ _ _ _ _ _ _ _ _ _ _ _ _ _ _ _ _ _ _ _ _ (0) (.nil) (v0) ?_
    exact ⟨by omega, by omega, rfl, by simp [Trie.count], H0.out.1, H0.out.2⟩
  · intro k1 a1 wr1 hI1 J1 K1 hJ1 hK1
    refine hI1 (fun a => Code.wp _ _ _ a _) ?_
    clear hI1 a1
    intro s0 s1 s2 s3 s4 s5 s6 s7 s8 s9 s10 s11 s12 s13 s14 s15 s16 s17 s18 s19 s20 s21 s22 s23 s24 s25 s26 s27 s28 s29 s30 s31 s32 s33 s34 s35 s36 s37 s38 s39 s40 s41 s42 s43 s44 s45 s46 s47 s48 s49 i t v hrel
    show Code.wp _ _ _ _ _
    obtain ⟨h1, h0, h2, h3, hk, hb⟩ := hrel
    by_cases hi : i < L.length ∧ i < 30
    · obtain ⟨hil, hi30⟩ := hi
      obtain ⟨ad, off, rfl, hbl, hcell⟩ := acts_read HRR.out i hil
      have hs : (L.take (i + 1)).foldl Trie.actW .nil = Trie.actW t (L[i]'hil) := by
        rw [List.take_succ_eq_append_getElem hil, List.foldl_append, h2]; rfl
      have hlo : longA (L[i]'hil) = false := by
        have := HS.out
        rw [List.any_eq_false] at this
        simpa using this _ (List.getElem_mem hil)
      have HI := Lib.hid (And.intro h1 (And.intro h3 (And.intro hk (And.intro hb (And.intro hs hil)))))
      have hi0 : (i : Int) < L.length := by omega
      have hi1 : (0 : Int) ≤ i := by omega
      have hi2 : (i : Int) < 30 := by omega
      clear h1 h0 h2 h3 hk hb hbl hs
      generalize L[i] = x at *
      obtain ⟨kind, key, value⟩ := x
      have hlen : key.length ≤ 100 ∧ value.length ≤ 100 := by simp [longA] at hlo; omega
      clear hlo
      have HPut : Hid (∀ W, Below wr1.heap.size wr1 W → Calls Tryd.prog 50 #[v, .string ⟨key.toArray⟩, .string ⟨value.toArray⟩] W (TPutEnd W (Trie.put t (Nib.of key) value) (Trie.putCode key value))) := Lib.hid (fun W hW => by
          exact trie_Put W t v (HI.out.2.2.1.next hW) (by have := HI.out.2.1; omega) (HTb.out.next (HI.out.2.2.2.1.nxt hW)) key value (by omega) (by omega))
      have HDel : Hid (∀ W, Below wr1.heap.size wr1 W → Calls Tryd.prog 65 #[v, .string ⟨key.toArray⟩] W (TPutEnd W (Trie.del t (Nib.of key)) (Trie.getW t key).2)) := Lib.hid (fun W hW => by
          exact trie_Del W t v (HI.out.2.2.1.next hW) (by have := HI.out.2.1; omega) (HTb.out.next (HI.out.2.2.2.1.nxt hW)) key (by omega))
      have HCn : Hid (Trie.count (Trie.actW t ⟨kind, key, value⟩) ≤ i + 1) := Lib.hid (by have := Trie.count_act HI.out.2.2.1.1 ⟨kind, key, value⟩; have := HI.out.2.1; omega)
      by_cases hkd : 1 < kind
      · by_cases hg : (Trie.getW t key).2 = 0
        · have HQ : Hid (Trie.actW t ⟨kind, key, value⟩ = Trie.del t (Nib.of key)) := Lib.hid (by simp [Trie.actW, hkd, hg])
          rw [hg] at HDel
          clear hg hlen
          generalize Trie.put t (Nib.of key) value = t2 at *
          generalize Trie.del t (Nib.of key) = t3 at *
          generalize Trie.putCode key value = pc at *
          have HCells := Lib.hid hcell
          obtain ⟨r0, r1, r2⟩ := HCells.out _ HI.out.2.2.2.1
          clear hcell
          go_upto_region 5 with (fail)
          go_region_held3 (fun w' => w'.cell? ⟨ad, off + i * 3 + 1, none⟩ = some (.string ⟨key.toArray⟩) ∧ w'.cell? ⟨ad, off + i * 3 + 2, none⟩ = some (.string ⟨value.toArray⟩)) (first | go_keep | (constructor <;> assumption)) (first | (go_at_call 50; refine (HPut.out _ (by first | exact Below.refl _ _ | exact (Below.refl _ _).drew)).mono ?_; rintro e w3 ⟨v3, rfl, hb, hk3, hn3⟩; have hb3 : Below wr1.heap.size wr1 w3 := (by first | exact hb | exact hb.start); clear hb; obtain ⟨d0, d1, d2⟩ := HCells.out _ (HI.out.2.2.2.1.nxt hb3)))
          go_wp2_with (go_at_call 65; refine (HDel.out _ hb3).mono ?_; rintro e w4 ⟨v4, rfl, hb4, hk4, hn4⟩)
          refine Handed.intro (30 - (i + 1)) ?_ (hJ1 _ _ _ (fun Φ hΦ => hΦ _ _ _ _ _ _ _ _ _ _ _ _ _ _ _ _ _ _ _ _ _ _ _ _ _ _ _ _ _ _ _ _ _ _ _ _ _ _ _ _ _ _ _ _ _ _ _ _ _ _ (i + 1) (t3) (v4) ?_))
          · have := HI.out.1; omega
          exact ⟨by have := HI.out.1; omega, HI.out.2.2.2.2.2, HI.out.2.2.2.2.1.trans HQ.out, HQ.out ▸ HCn.out, hk4 trivial, HI.out.2.2.2.1.nxt (hb3.nxt hb4)⟩
        · have HQ : Hid (Trie.actW t ⟨kind, key, value⟩ = t) := Lib.hid (by simp [Trie.actW, hkd, hg])
          have hg1 : (((Trie.getW t key).2 : Int) == 0) = false := by simp; exact hg
          clear hg hlen
          generalize (Trie.getW t key).2 = gc at *
          generalize Trie.put t (Nib.of key) value = t2 at *
          generalize Trie.del t (Nib.of key) = t3 at *
          generalize Trie.putCode key value = pc at *
          have HCells := Lib.hid hcell
          obtain ⟨r0, r1, r2⟩ := HCells.out _ HI.out.2.2.2.1
          clear hcell
          go_upto_region 5 with (fail)
          go_region_held3 (fun w' => w'.cell? ⟨ad, off + i * 3 + 1, none⟩ = some (.string ⟨key.toArray⟩) ∧ w'.cell? ⟨ad, off + i * 3 + 2, none⟩ = some (.string ⟨value.toArray⟩)) (first | go_keep | (constructor <;> assumption)) (first | (go_at_call 50; refine (HPut.out _ (by first | exact Below.refl _ _ | exact (Below.refl _ _).drew)).mono ?_; rintro e w3 ⟨v3, rfl, hb, hk3, hn3⟩; have hb3 : Below wr1.heap.size wr1 w3 := (by first | exact hb | exact hb.start); clear hb; obtain ⟨d0, d1, d2⟩ := HCells.out _ (HI.out.2.2.2.1.nxt hb3)))
          go_wp2_with (go_at_call 65; refine (HDel.out _ hb3).mono ?_; rintro e w4 ⟨v4, rfl, hb4, hk4, hn4⟩)
          refine Handed.intro (30 - (i + 1)) ?_ (hJ1 _ _ _ (fun Φ hΦ => hΦ _ _ _ _ _ _ _ _ _ _ _ _ _ _ _ _ _ _ _ _ _ _ _ _ _ _ _ _ _ _ _ _ _ _ _ _ _ _ _ _ _ _ _ _ _ _ _ _ _ _ (i + 1) (t) (v) ?_))
          · have := HI.out.1; omega
          exact ⟨by have := HI.out.1; omega, HI.out.2.2.2.2.2, HI.out.2.2.2.2.1.trans HQ.out, HQ.out ▸ HCn.out, HI.out.2.2.1.next (hb3.nxt hb4), HI.out.2.2.2.1.nxt (hb3.nxt hb4)⟩
      · have hkd' : (1 < kind) = False := by simp; omega
        by_cases hg : Trie.putCode key value = 0
        · have HQ : Hid (Trie.actW t ⟨kind, key, value⟩ = Trie.put t (Nib.of key) value) := Lib.hid (by simp [Trie.actW, hkd, hg])
          rw [hg] at HPut
          clear hg hlen hkd HDel
          generalize Trie.put t (Nib.of key) value = t2 at *
          have HCells := Lib.hid hcell
          obtain ⟨r0, r1, r2⟩ := HCells.out _ HI.out.2.2.2.1
          clear hcell
          go_upto_region 5 with (fail)
          go_region_held3 (fun w' => w'.cell? ⟨ad, off + i * 3 + 1, none⟩ = some (.string ⟨key.toArray⟩) ∧ w'.cell? ⟨ad, off + i * 3 + 2, none⟩ = some (.string ⟨value.toArray⟩)) (first | go_keep | (constructor <;> assumption)) (first | (go_at_call 50; refine (HPut.out _ (by first | exact Below.refl _ _ | exact (Below.refl _ _).drew)).mono ?_; rintro e w3 ⟨v3, rfl, hb, hk3, hn3⟩; have hb3 : Below wr1.heap.size wr1 w3 := (by first | exact hb | exact hb.start); clear hb; obtain ⟨d0, d1, d2⟩ := HCells.out _ (HI.out.2.2.2.1.nxt hb3)))
          go_wp2_with fail
          refine Handed.intro (30 - (i + 1)) ?_ (hJ1 _ _ _ (fun Φ hΦ => hΦ _ _ _ _ _ _ _ _ _ _ _ _ _ _ _ _ _ _ _ _ _ _ _ _ _ _ _ _ _ _ _ _ _ _ _ _ _ _ _ _ _ _ _ _ _ _ _ _ _ _ (i + 1) (t2) (v3) ?_))
          · have := HI.out.1; omega
          exact ⟨by have := HI.out.1; omega, HI.out.2.2.2.2.2, HI.out.2.2.2.2.1.trans HQ.out, HQ.out ▸ HCn.out, hk3 trivial, HI.out.2.2.2.1.nxt (hb3)⟩
        · have HQ : Hid (Trie.actW t ⟨kind, key, value⟩ = t) := Lib.hid (by simp [Trie.actW, hkd, hg])
          have hg1 : ((Trie.putCode key value : Int) == 0) = false := by simp; exact hg
          clear hg hlen hkd HDel
          generalize Trie.put t (Nib.of key) value = t2 at *
          generalize Trie.putCode key value = pc at *
          have HCells := Lib.hid hcell
          obtain ⟨r0, r1, r2⟩ := HCells.out _ HI.out.2.2.2.1
          clear hcell
          go_upto_region 5 with (fail)
          go_region_held3 (fun w' => w'.cell? ⟨ad, off + i * 3 + 1, none⟩ = some (.string ⟨key.toArray⟩) ∧ w'.cell? ⟨ad, off + i * 3 + 2, none⟩ = some (.string ⟨value.toArray⟩)) (first | go_keep | (constructor <;> assumption)) (first | (go_at_call 50; refine (HPut.out _ (by first | exact Below.refl _ _ | exact (Below.refl _ _).drew)).mono ?_; rintro e w3 ⟨v3, rfl, hb, hk3, hn3⟩; have hb3 : Below wr1.heap.size wr1 w3 := (by first | exact hb | exact hb.start); clear hb; obtain ⟨d0, d1, d2⟩ := HCells.out _ (HI.out.2.2.2.1.nxt hb3)))
          go_wp2_with fail
          refine Handed.intro (30 - (i + 1)) ?_ (hJ1 _ _ _ (fun Φ hΦ => hΦ _ _ _ _ _ _ _ _ _ _ _ _ _ _ _ _ _ _ _ _ _ _ _ _ _ _ _ _ _ _ _ _ _ _ _ _ _ _ _ _ _ _ _ _ _ _ _ _ _ _ (i + 1) (t) (v) ?_))
          · have := HI.out.1; omega
          exact ⟨by have := HI.out.1; omega, HI.out.2.2.2.2.2, HI.out.2.2.2.2.1.trans HQ.out, HQ.out ▸ HCn.out, HI.out.2.2.1.next hb3, HI.out.2.2.2.1.nxt (hb3)⟩
    · have HQ : Hid (Trie.madeW L = t) := Lib.hid (by
        rw [← h2, Trie.madeW]
        by_cases h30 : i < 30
        · rw [List.take_of_length_le (by omega), List.take_of_length_le (by omega)]
        · rw [show i = 30 by omega])
      have HI := Lib.hid (And.intro hk hb)
      by_cases hl : i < L.length
      · have hi0 : (i : Int) < L.length := by omega
        have hi2 : ((i : Int) < 30) = False := by simp; omega
        clear h1 h0 h2 h3 hk hb hi
        go_wp2_with fail
        exact HP.out _ _ _ HQ.out HI.out.1 HI.out.2
      · have hi0 : ((i : Int) < L.length) = False := by simp; omega
        clear h1 h0 h2 h3 hk hb hi
        go_wp2_with fail
        exact HP.out _ _ _ HQ.out HI.out.1 HI.out.2
end Go.Proofs.YtefcmigbdfeaiaaDoor
