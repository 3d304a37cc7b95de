/- Layer 6's document: Signed, Honest, walked. No conditions. -/
import Derived.Test.YtojpijpajdiiiaaOrcPl1
namespace Go.Proofs.Ytojpijpajdiiiaa
set_option linter.unusedVariables false
open Go.RowKit Go.Instr
attribute [local go_sem] ba_get ByteArray.mk_append_mk add_zero_addr

theorem ref_Signed (w : World) (base : Nat) (v : Value) (l : List Sg) (own : w.ownsRow base 37 3 v l.length (srows l)) (hl : l.length ≤ 2000) (who mark : List UInt8) :
    Calls Try.prog 24 #[v, .string ⟨who.toArray⟩, .string ⟨mark.toArray⟩] w fun e w' => e = .returned (.bool (atD who mark l).2) ∧ Below w.heap.size w w' := by
  have HA := ref_At w base v l own hl who mark
  obtain ⟨A, c, rfl, _, hc, _⟩ := own_form own
  clear own
  unfold AtEnd at HA
  generalize (atD who mark l).1 = i at *
  generalize (atD who mark l).2 = b at *
  go_enter Try.func24, Try.ntmps24
  go_wp2_with fail
  refine HA.mono ?_
  rintro e w1 ⟨rfl, hb⟩
  go_wp2
  go_ret
  exact ⟨rfl, hb⟩

set_option maxHeartbeats 1000000 in
theorem ref_Honest (w : World) (base : Nat) (v : Value) (l : List Sg) (own : w.ownsRow base 37 3 v l.length (srows l)) (hl : l.length ≤ 2000) (who : List UInt8) :
    Calls Try.prog 25 #[v, .string ⟨who.toArray⟩] w fun e w' => e = .returned (.bool (honest l who)) ∧ Below w.heap.size w w' := by
  obtain ⟨A, c, rfl, HR, hc, _⟩ := own_form own
  go_enter Try.func25, Try.ntmps25
  go_wp2
  refine wp_loop_ghost_k (fun k a wr => ∀ Φ : Act → Prop, (∀ (s2 s3 s4 s6 s7 s8 s9 s10 s11 s12 s13 s14 s15 s16 s17 s18 s19 s20 s21 s22 s23 s24 s25 s26 : Value) (i : Nat), (i + k = l.length ∧ honest (l.take i) who = true ∧ Below w.heap.size w wr) → Φ { tmps := #[.slice A l.length c, .string ⟨who.toArray⟩, s2, s3, s4, .int .i64 i, s6, s7, s8, s9, s10, s11, s12, s13, s14, s15, s16, s17, s18, s19, s20, s21, s22, s23, s24, s25, s26], defers := [] }) → Φ a) (l.length) ?_ ?_
  · refine fun Φ hΦ => hΦ _ _ _ _ _ _ _ _ _ _ _ _ _ _ _ _ _ _ _ _ _ _ _ _ (0) ?_
    exact ⟨by omega, rfl, Below.refl _ _⟩
  · intro k1 a1 wr1 hI1 J1 K1 hJ1 hK1
    refine hI1 (fun a => Code.wp _ _ _ a _) ?_
    clear hI1 a1
    intro s0 s1 s2 s3 s4 s5 s6 s7 s8 s9 s10 s11 s12 s13 s14 s15 s16 s17 s18 s19 s20 s21 s22 s23 i hrel
    show Code.wp _ _ _ _ _
    obtain ⟨h1, h2, hb⟩ := hrel
    have hbs := hb.size
    by_cases hi : i < l.length
    · obtain ⟨g, c', hv, hge, hbl, _, hcell⟩ := own3_cells own (by omega)
      injection hv with hA _ hc'
      subst hA
      subst hc'
      have hs := honest_snoc l who i hi h2
      have hf := honest_false l who i hi
      have hx : l[i]? = some l[i] := List.getElem?_eq_getElem hi
      obtain ⟨q0, q1, q2⟩ := hcell i _ hx
      rw [← hb.cell (p := ⟨g, _, none⟩) hbl] at q0 q1 q2
      have hi1 : (i : Int) < l.length := by omega
      clear hx hcell HR own
      generalize l[i] = x at *
      by_cases e1 : x.1 = who
      · subst e1
        cases e2 : x.2.2 with
        | false =>
          rw [e2] at q2 hf
          have T := Lib.hid (hf (by simp))
          clear hf hs
          go_wp2
          go_ret
          exact ⟨ret_bool T.out.symm, by go_grown⟩
        | true =>
          rw [e2] at q2 hs
          have T := Lib.hid (show _ = true from hs.trans (by simp))
          clear hf hs
          go_wp2
          refine Handed.intro (l.length - (i + 1)) ?_ (hJ1 _ _ _ (fun Φ hΦ => hΦ _ _ _ _ _ _ _ _ _ _ _ _ _ _ _ _ _ _ _ _ _ _ _ _ (i + 1) ?_))
          · omega
          · exact ⟨by omega, T.out, by go_grown⟩
      · have T := Lib.hid (show _ = true from hs.trans (by simp [e1]))
        have e1' : (x.1.toArray = who.toArray) = False := by simp [e1]
        have e1b : (x.1 == who) = false := by simp [e1]
        clear hf hs
        go_wp2
        refine Handed.intro (l.length - (i + 1)) ?_ (hJ1 _ _ _ (fun Φ hΦ => hΦ _ _ _ _ _ _ _ _ _ _ _ _ _ _ _ _ _ _ _ _ _ _ _ _ (i + 1) ?_))
        · omega
        · exact ⟨by omega, T.out, by go_grown⟩
    · have e : l.take i = l := List.take_of_length_le (by omega)
      have hi2 : ((i : Int) < l.length) = False := by simp; omega
      rw [e] at h2
      have E2 := Lib.hid h2
      clear h2 e
      go_wp2
      go_ret
      exact ⟨ret_bool E2.out.symm, hb⟩
end Go.Proofs.Ytojpijpajdiiiaa
