/- Layer 6's laws: fill. No conditions. -/
import Derived.Test.YtojpijpajdiiiaaOrcLaw
namespace Go.Proofs.Ytojpijpajdiiiaa
set_option linter.unusedVariables false
open Go.RowKit Go.Instr
attribute [local go_sem] ba_get ByteArray.mk_append_mk

structure Stp where
  who : List UInt8
  mark : List UInt8
  h : Bool
  fork : Bool
def stepv (s : Stp) : List Value := [.string ⟨s.who.toArray⟩, .string ⟨s.mark.toArray⟩, .bool s.h, .bool s.fork]
def steps (L : List Stp) : List Value := L.flatMap stepv
theorem steps_length : ∀ (l : List Stp), (steps l).length = l.length * 4
  | [] => rfl
  | x :: l => by
    have : steps (x :: l) = stepv x ++ steps l := rfl
    rw [this, List.length_append, steps_length l, List.length_cons]
    show 4 + _ = _
    omega
theorem steps_at : ∀ (l : List Stp) (i j : Nat) (x : Stp), l[i]? = some x → j < 4 → (steps l)[i * 4 + j]? = (stepv x)[j]?
  | [], i, j, x, h, _ => by simp at h
  | y :: l, 0, j, x, h, hj => by
    simp at h; subst h
    rw [show steps (y :: l) = stepv y ++ steps l from rfl, Nat.zero_mul, Nat.zero_add, List.getElem?_append_left (show j < 4 from hj)]
  | y :: l, i + 1, j, x, h, hj => by
    rw [show steps (y :: l) = stepv y ++ steps l from rfl, List.getElem?_append_right (show 4 ≤ _ by omega), show (stepv y).length = 4 from rfl, show (i + 1) * 4 + j - 4 = i * 4 + j by omega]
    exact steps_at l i j x (by simpa using h) hj
def signs (l : List Sg) (L : List Stp) : List Sg := L.foldl (fun l s => (sign l s.who s.mark s.h).1) l
theorem signs_snoc (l : List Sg) (L : List Stp) (s : Stp) : signs l (L ++ [s]) = (sign (signs l L) s.who s.mark s.h).1 := by simp [signs]
theorem signs_length (l : List Sg) : ∀ (L : List Stp), (signs l L).length ≤ l.length + L.length := by
  intro L
  induction L generalizing l with
  | nil => simp [signs]
  | cons s L ih =>
    have h1 := ih (sign l s.who s.mark s.h).1
    have h2 := sign_length l s.who s.mark s.h
    have : signs l (s :: L) = signs (sign l s.who s.mark s.h).1 L := rfl
    rw [this, List.length_cons]
    omega

theorem add_field (ad : Addr) (n j : Nat) (hj : 0 < j) : ad.add (n + j) = ⟨(ad.add n).block, (ad.add n).off + j, none⟩ := by
  unfold Addr.add
  by_cases h : n = 0
  · subst h
    rw [if_neg (by omega), if_pos rfl, Nat.zero_add]
  · rw [if_neg (by omega), if_neg h]
    simp only [Nat.add_assoc]

theorem orc_fill (w : World) (A : Option Addr) (c : Nat) (L : List Stp) (HR : Reads w w.heap.size 4 A L.length (steps L)) (hL : L.length ≤ maxLen) :
    Calls Try.prog 8 #[.slice A L.length c] w fun e w' => e = .returned (.pointer (some ⟨w.heap.size + 1, 0, none⟩)) ∧ (∃ v, Tab w' w.heap.size v (signs [] (L.take 40))) ∧ Below w.heap.size w w' := by
  simp only [maxLen] at hL
  go_enter Try.func8, Try.ntmps8
  go_wp2_with fail
  refine (orc_New _).mono ?_
  rintro e w1 ⟨rfl, hT1, hb1, hs1⟩
  go_wp2_with fail
  refine wp_loop_ghost_k (fun k a wr => ∀ Φ : Act → Prop, (∀ (s1 s2 s5 s6 s7 s8 s9 s10 s11 s12 s13 s14 s15 s16 s17 s18 s19 s20 s21 s22 s23 s24 s25 s26 s27 s28 s29 s30 s31 s32 s33 : Value) (i : Nat) (v : Value), (i + k = 40 ∧ i ≤ L.length ∧ Tab wr w.heap.size v (signs [] (L.take i)) ∧ Below w.heap.size w wr) → Φ { tmps := #[.slice A L.length c, s1, s2, .pointer (some ⟨w.heap.size + 1, 0, none⟩), .int .i64 i, s5, s6, s7, s8, s9, s10, s11, s12, s13, s14, s15, s16, s17, s18, s19, s20, s21, s22, s23, s24, s25, s26, s27, s28, s29, s30, s31, s32, s33], defers := [] }) → Φ a) (40) ?_ ?_
  · refine fun Φ hΦ => hΦ _ _ _ _ _ _ _ _ _ _ _ _ _ _ _ _ _ _ _ _ _ _ _ _ _ _ _ _ _ _ _ (0) (.slice none 0 0) ?_
    exact ⟨by omega, by omega, hT1, hb1⟩
  · intro k1 a1 wr1 hI1 J1 K1 hJ1 hK1
    refine hI1 (fun a => Code.wp _ _ _ a _) ?_
    clear hI1 a1
    intro s0 s1 s2 s3 s4 s5 s6 s7 s8 s9 s10 s11 s12 s13 s14 s15 s16 s17 s18 s19 s20 s21 s22 s23 s24 s25 s26 s27 s28 s29 s30 i v hrel
    show Code.wp _ _ _ _ _
    obtain ⟨h1, h2, hT, hb⟩ := hrel
    by_cases hi : i < L.length
    · by_cases h40 : i < 40
      · obtain ⟨ad, rfl, hbl, hcell⟩ := HR.2 (by omega)
        have hx : L[i]? = some L[i] := List.getElem?_eq_getElem hi
        have cell : ∀ j u, (stepv L[i])[j]? = some u → j < 4 → wr1.cell? (ad.add (i * 4 + j)) = some u := fun j u hu hj => by
          rw [hb.cell (by rw [block_of_add]; exact hbl)]
          exact hcell _ _ (by rw [steps_at L i j _ hx hj, hu])
        have q0 := cell 0 _ rfl (by omega)
        have q1 := cell 1 _ rfl (by omega)
        have q2 := cell 2 _ rfl (by omega)
        have hsn : Hid (signs [] (L.take (i + 1)) = (sign (signs [] (L.take i)) L[i].who L[i].mark L[i].h).1) := Lib.hid (by
          rw [List.take_succ_eq_append_getElem hi, signs_snoc])
        have hlen := signs_length [] (L.take i)
        rw [List.length_take] at hlen
        clear cell hcell hx HR
        generalize L[i] = x at *
        rw [Nat.add_zero] at q0
        rw [add_field _ _ _ (by omega)] at q1 q2
        have i0 : (0 : Int) ≤ (i : Int) := by omega
        have i1 : (i : Int) < (L.length : Int) := by omega
        have HT := Lib.hid hT
        have hlen' : (signs [] (L.take i)).length ≤ 1000 := by simp only [List.length_nil] at hlen; omega
        have HB : Hid (∀ W w2, Below wr1.heap.size wr1 W → Kept (TabX w.heap.size v) W w2 → Below w.heap.size w w2) := Lib.hid (fun W w2 g1 g2 =>
          hb.trans ((g1.mono hb.size).trans (g2.below (Nat.le_trans hb.size g1.size) (TabX.ge hT))))
        have hbl' : (ad.add (i * 4)).block < w.heap.size := by rw [block_of_add]; exact hbl
        rw [hb.cell hbl'] at q0
        rw [hb.cell (p := ⟨(ad.add (i * 4)).block, _, none⟩) hbl'] at q1 q2
        have c0 := hb.cell hbl'
        have c1 := hb.cell (p := ⟨(ad.add (i * 4)).block, (ad.add (i * 4)).off + 1, none⟩) hbl'
        have c2 := hb.cell (p := ⟨(ad.add (i * 4)).block, (ad.add (i * 4)).off + 2, none⟩) hbl'
        rw [q0] at c0
        rw [q1] at c1
        rw [q2] at c2
        have HL := Lib.hid hlen'
        clear hT hlen hlen'
        go_wp2
        go_region_held3 (fun w' => w'.cell? (ad.add (i * 4)) = some (.string ⟨x.who.toArray⟩) ∧ w'.cell? ⟨(ad.add (i * 4)).block, (ad.add (i * 4)).off + 1, none⟩ = some (.string ⟨x.mark.toArray⟩) ∧ w'.cell? ⟨(ad.add (i * 4)).block, (ad.add (i * 4)).off + 2, none⟩ = some (.bool x.h)) (first | go_keep | (refine ⟨?_, ?_, ?_⟩ <;> assumption)) (first | (go_at_call 12; have hW : Below wr1.heap.size wr1 wr1.drew := (Below.refl _ _).drew; refine (orc_Sign _ w.heap.size v _ (HT.out.below hW) HL.out x.who x.mark x.h).mono ?_; rintro e w2 ⟨rfl, v2, hT2, hk2, ho2⟩; have hb2 := HB.out _ _ hW hk2; have d0 := hb2.cell hbl'; have d1 := hb2.cell (p := ⟨(ad.add (i * 4)).block, (ad.add (i * 4)).off + 1, none⟩) hbl'; have d2 := hb2.cell (p := ⟨(ad.add (i * 4)).block, (ad.add (i * 4)).off + 2, none⟩) hbl'; rw [q0] at d0; rw [q1] at d1; rw [q2] at d2; rw [← hsn.out] at hT2; have HT2 := Lib.hid hT2; clear hk2 ho2 hT2))
        go_wp2
        refine Handed.intro (40 - (i + 1)) ?_ (hJ1 _ _ _ (fun Φ hΦ => hΦ _ _ _ _ _ _ _ _ _ _ _ _ _ _ _ _ _ _ _ _ _ _ _ _ _ _ _ _ _ _ _ (i + 1) (v2) ?_))
        · omega
        · exact ⟨by omega, by omega, HT2.out, hb2⟩
      · have e40 : i = 40 := by omega
        have HT := Lib.hid hT
        subst e40
        clear hT
        go_wp2
        go_ret
        exact ⟨rfl, ⟨v, HT.out⟩, hb⟩
    · have e : L.take 40 = L.take i := by
        rw [List.take_of_length_le (show L.length ≤ i by omega), List.take_of_length_le (by omega)]
      rw [← e] at hT
      have HT := Lib.hid hT
      clear hT e
      go_wp2
      go_ret
      exact ⟨rfl, ⟨v, HT.out⟩, hb⟩
end Go.Proofs.Ytojpijpajdiiiaa
