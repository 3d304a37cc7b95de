/- Layer 6's document: At, Signed, Honest, walked. No conditions. -/
import Derived.Test.YtojpijpajdiiiaaOrcOrd4
namespace Go.Proofs.Ytojpijpajdiiiaa
set_option linter.unusedVariables false
open Go.RowKit Go.Instr
attribute [local go_sem] ba_get ByteArray.mk_append_mk add_zero_addr

/-- the place of a key, or of the first row behind it; whether it is there -/
def atD (w m : List UInt8) : List Sg → Nat × Bool
  | [] => (0, false)
  | x :: l => if x.1 = w ∧ x.2.1 = m then (0, true) else if Op.bytesLess w x.1 = true ∨ (x.1 = w ∧ Op.bytesLess m x.2.1 = true) then (0, false) else ((atD w m l).1 + 1, (atD w m l).2)
theorem bl_gt {a b : List UInt8} (h : Op.bytesLess a b = false) (hn : ¬ b = a) : Op.bytesLess b a = true := by
  cases h2 : Op.bytesLess b a with
  | true => rfl
  | false => exact absurd (bl_tri _ _ h2 h) hn
theorem atD_le (w m : List UInt8) : ∀ l : List Sg, (atD w m l).1 ≤ l.length ∧ ((atD w m l).2 = true → (atD w m l).1 < l.length)
  | [] => by simp [atD]
  | x :: l => by
    have ih := atD_le w m l
    unfold atD
    split
    · simp
    · split
      · simp
      · simp only [List.length_cons]
        exact ⟨by omega, fun h => by have := ih.2 h; omega⟩
theorem atD_step (w m : List UInt8) (l : List Sg) (i : Nat) (hi : i < l.length) (h : atD w m l = (i + (atD w m (l.drop i)).1, (atD w m (l.drop i)).2)) :
    (l[i].1 = w → l[i].2.1 = m → atD w m l = (i, true)) ∧ (¬ (l[i].1 = w ∧ l[i].2.1 = m) → (Op.bytesLess w l[i].1 = true ∨ (l[i].1 = w ∧ Op.bytesLess m l[i].2.1 = true)) → atD w m l = (i, false)) ∧
    (¬ (l[i].1 = w ∧ l[i].2.1 = m) → ¬ (Op.bytesLess w l[i].1 = true ∨ (l[i].1 = w ∧ Op.bytesLess m l[i].2.1 = true)) → atD w m l = (i + 1 + (atD w m (l.drop (i + 1))).1, (atD w m (l.drop (i + 1))).2)) := by
  rw [List.drop_eq_getElem_cons hi] at h
  refine ⟨fun h1 h2 => ?_, fun h1 h2 => ?_, fun h1 h2 => ?_⟩
  · rw [h]
    simp only [atD, if_pos (And.intro h1 h2), Nat.add_zero]
  · rw [h]
    simp only [atD, if_neg h1, if_pos h2, Nat.add_zero]
  · rw [h]
    simp only [atD, if_neg h1, if_neg h2]
    rw [show i + ((atD w m (l.drop (i + 1))).1 + 1) = i + 1 + (atD w m (l.drop (i + 1))).1 by omega]

def AtEnd (w : World) (l : List Sg) (who mark : List UInt8) (e : Ending) (w' : World) : Prop := e = .returned (.tuple #[.int .i64 ((atD who mark l).1 : Nat), .bool (atD who mark l).2]) ∧ Below w.heap.size w w'
set_option maxHeartbeats 1000000 in
theorem ref_At (w : World) (base : Nat) (v : Value) (l : List Sg) (own : w.ownsRow base 37 3 v l.length (srows l)) (hl : l.length ≤ 2000) (who mark : List UInt8) :
    Calls Try.prog 23 #[v, .string ⟨who.toArray⟩, .string ⟨mark.toArray⟩] w (AtEnd w l who mark) := by
  obtain ⟨A, c, rfl, _, hc, _⟩ := own_form own
  have HE : Hid (∀ i b, atD who mark l = (i, b) → ∀ w', Below w.heap.size w w' → AtEnd w l who mark (.returned (.tuple #[.int .i64 (i : Nat), .bool b])) w') := Lib.hid (by
    intro i b e w' hb
    unfold AtEnd
    rw [e]
    exact ⟨rfl, hb⟩)
  generalize AtEnd w l who mark = P at HE ⊢
  go_enter Try.func23, Try.ntmps23
  go_wp2
  refine wp_loop_ghost_k (fun k a wr => ∀ Φ : Act → Prop, (∀ (s3 s4 s5 s6 s7 s9 s10 s11 s12 s13 s14 s15 s16 s17 s18 s19 s20 s21 s22 s23 s24 s25 s26 s27 s28 s29 s30 s31 s32 s33 s34 s35 s36 s37 s38 s39 s40 s41 s42 s43 s44 s45 s46 s47 s48 s49 s50 s51 s52 s53 s54 s55 s56 s57 s58 s59 : Value) (i : Nat), (i + k = l.length ∧ atD who mark l = (i + (atD who mark (l.drop i)).1, (atD who mark (l.drop i)).2) ∧ Below w.heap.size w wr) → Φ { tmps := #[.slice A l.length c, .string ⟨who.toArray⟩, .string ⟨mark.toArray⟩, s3, s4, s5, s6, s7, .int .i64 i, s9, s10, s11, s12, s13, s14, s15, s16, s17, s18, s19, s20, s21, s22, s23, s24, s25, s26, s27, s28, s29, s30, s31, s32, s33, s34, s35, s36, s37, s38, s39, s40, s41, s42, s43, s44, s45, s46, s47, s48, s49, s50, s51, s52, s53, s54, s55, s56, s57, s58, s59], defers := [] }) → Φ a) (l.length) ?_ ?_
  · refine fun Φ hΦ => hΦ _ _ _ _ _ _ _ _ _ _ _ _ _ _ _ _ _ _ _ _ _ _ _ _ _ _ _ _ _ _ _ _ _ _ _ _ _ _ _ _ _ _ _ _ _ _ _ _ _ _ _ _ _ _ _ _ (0) ?_
    exact ⟨by omega, by simp, by go_grown⟩
  · intro k1 a1 wr1 hI1 J1 K1 hJ1 hK1
    refine hI1 (fun a => Code.wp _ _ _ a _) ?_
    clear hI1 a1
    intro s0 s1 s2 s3 s4 s5 s6 s7 s8 s9 s10 s11 s12 s13 s14 s15 s16 s17 s18 s19 s20 s21 s22 s23 s24 s25 s26 s27 s28 s29 s30 s31 s32 s33 s34 s35 s36 s37 s38 s39 s40 s41 s42 s43 s44 s45 s46 s47 s48 s49 s50 s51 s52 s53 s54 s55 i hrel
    show Code.wp _ _ _ _ _
    obtain ⟨h1, h2, hb⟩ := hrel
    have hbs := hb.size
    by_cases hi : i < l.length
    · obtain ⟨g, c', hv, hge, hbl, _, hcell⟩ := own3_cells own (by omega)
      injection hv with hA _ hc'
      subst hA
      subst hc'
      obtain ⟨s1, s2, s3⟩ := atD_step who mark l i hi h2
      have hx : l[i]? = some l[i] := List.getElem?_eq_getElem hi
      obtain ⟨q0, q1, q2⟩ := hcell i _ hx
      rw [← hb.cell (p := ⟨g, _, none⟩) hbl] at q0 q1 q2
      have hi1 : (i : Int) < l.length := by omega
      have HI := Lib.hid h1
      clear hx hcell own h2 h1 hc
      generalize l[i] = x at *
      by_cases e1 : x.1 = who
      · have n1 := bl_irrefl who
        by_cases e2 : x.2.1 = mark
        · have T := Lib.hid (HE.out i true (s1 e1 e2))
          subst e1
          subst e2
          clear s1 s2 s3 HE
          go_wp2
          exact T.out _ (by go_grown)
        · have e2' : (x.2.1.toArray = mark.toArray) = False := by simp [e2]
          have e2b : (x.2.1 == mark) = false := by simp [e2]
          have e2c : (x.2.1.toArray == mark.toArray) = false := by simp [e2]
          cases e3 : Op.bytesLess mark x.2.1 with
          | true =>
            have e4 := bl_asymm _ _ e3
            have T := Lib.hid (HE.out i false (s2 (fun h => e2 h.2) (.inr ⟨e1, e3⟩)))
            subst e1
            clear s1 s2 s3 HE
            go_wp2
            exact T.out _ (by go_grown)
          | false =>
            have e4 := bl_gt e3 e2
            have T := Lib.hid (s3 (fun h => e2 h.2) (by rw [e1, n1, e3]; simp))
            subst e1
            clear s1 s2 s3
            go_wp2
            refine Handed.intro (l.length - (i + 1)) ?_ (hJ1 _ _ _ (fun Φ hΦ => hΦ _ _ _ _ _ _ _ _ _ _ _ _ _ _ _ _ _ _ _ _ _ _ _ _ _ _ _ _ _ _ _ _ _ _ _ _ _ _ _ _ _ _ _ _ _ _ _ _ _ _ _ _ _ _ _ _ (i + 1) ?_))
            · have := HI.out
              omega
            · have := HI.out
              exact ⟨by omega, T.out, by go_grown⟩
      · have e1' : (x.1.toArray = who.toArray) = False := by simp [e1]
        have e1b : (x.1 == who) = false := by simp [e1]
        have e1c : (x.1.toArray == who.toArray) = false := by simp [e1]
        cases e3 : Op.bytesLess who x.1 with
        | true =>
          have e4 := bl_asymm _ _ e3
          have T := Lib.hid (HE.out i false (s2 (fun h => e1 h.1) (.inl e3)))
          clear s1 s2 s3 HE
          go_wp2
          exact T.out _ (by go_grown)
        | false =>
          have e4 := bl_gt e3 e1
          have T := Lib.hid (s3 (fun h => e1 h.1) (by rw [e3]; simp [e1]))
          clear s1 s2 s3
          go_wp2
          refine Handed.intro (l.length - (i + 1)) ?_ (hJ1 _ _ _ (fun Φ hΦ => hΦ _ _ _ _ _ _ _ _ _ _ _ _ _ _ _ _ _ _ _ _ _ _ _ _ _ _ _ _ _ _ _ _ _ _ _ _ _ _ _ _ _ _ _ _ _ _ _ _ _ _ _ _ _ _ _ _ (i + 1) ?_))
          · have := HI.out
            omega
          · have := HI.out
            exact ⟨by omega, T.out, by go_grown⟩
    · have hi2 : ((i : Int) < l.length) = False := by simp; omega
      have e : l.drop i = [] := List.drop_eq_nil_of_le (by omega)
      rw [e] at h2
      have e3 : i = l.length := by omega
      have T := Lib.hid (HE.out l.length false (by rw [h2, e3]; rfl))
      clear h2 e HE own
      go_wp2
      exact T.out _ (by go_grown)
end Go.Proofs.Ytojpijpajdiiiaa
