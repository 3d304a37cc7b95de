/- The walks of layer 6 (oracle): who is honest. No conditions. -/
import Derived.Test.YtojpijpajdiiiaaOrc
namespace Go.Proofs.Ytojpijpajdiiiaa
set_option linter.unusedVariables false
open Go.RowKit Go.Instr
attribute [local go_sem] ba_get ByteArray.mk_append_mk run_makeMap_plain

theorem add_zero_addr (g n : Nat) : (⟨g, 0, none⟩ : Addr).add n = ⟨g, n, none⟩ := by
  unfold Addr.add
  by_cases h : n = 0 <;> simp [h]
attribute [local go_sem] add_zero_addr
theorem own3_cells {w : World} {base e : Nat} {v : Value} {n : Nat} {l : List Sg} (h : w.ownsRow base e 3 v n (srows l)) (hn : 0 < n) :
    ∃ g c, v = .slice (some ⟨g, 0, none⟩) n c ∧ base ≤ g ∧ g < w.heap.size ∧ n ≤ c ∧ ∀ i x, l[i]? = some x → w.cell? ⟨g, i * 3, none⟩ = some (.string ⟨x.1.toArray⟩) ∧ w.cell? ⟨g, i * 3 + 1, none⟩ = some (.string ⟨x.2.1.toArray⟩) ∧ w.cell? ⟨g, i * 3 + 2, none⟩ = some (.bool x.2.2) := by
  obtain ⟨A, c, rfl, HR, hc, hb⟩ := own_form h
  obtain ⟨g, cap, hv, hge, hlt⟩ := h.form hn
  injection hv with hA
  subst hA
  obtain ⟨ad, e1, hbl, hcell⟩ := HR.2 hn
  injection e1 with e1
  subst e1
  refine ⟨g, c, rfl, hge, hlt, hc, fun i x hx => ?_⟩
  have q0 := hcell _ _ (srows_at l i 0 x hx (by omega))
  have q1 := hcell _ _ (srows_at l i 1 x hx (by omega))
  have q2 := hcell _ _ (srows_at l i 2 x hx (by omega))
  rw [add_zero_addr] at q0 q1 q2
  exact ⟨q0, q1, q2⟩

theorem honest_snoc (l : List Sg) (who : List UInt8) (i : Nat) (h : i < l.length) (hp : honest (l.take i) who = true) : honest (l.take (i + 1)) who = !(decide (l[i].1 = who) && !l[i].2.2) := by
  rw [List.take_succ_eq_append_getElem h]
  unfold honest at *
  rw [List.all_append, hp]
  simp
theorem honest_false (l : List Sg) (who : List UInt8) (i : Nat) (h : i < l.length) (hp : (decide (l[i].1 = who) && !l[i].2.2) = true) : honest l who = false := by
  unfold honest
  rw [Bool.eq_false_iff]
  intro hc
  rw [List.all_eq_true] at hc
  have := hc _ (List.getElem_mem h)
  rw [hp] at this
  simp at this

theorem orc_Honest (w : World) (mb : Nat) (v : Value) (l : List Sg) (hT : Tab w mb v l) (hl : l.length ≤ 2000) (who : List UInt8) :
    Calls Try.prog 10 #[.pointer (some ⟨mb + 1, 0, none⟩), .string ⟨who.toArray⟩] w fun e w' => e = .returned (.bool (honest l who)) ∧ Below w.heap.size w w' := by
  have hlt := hT.blk.lt
  have hc1 : w.cell? ⟨mb + 1, 1, none⟩ = some v := hT.blk.cell 1
  have own := hT.own
  obtain ⟨A, c, rfl, HR, hc, _⟩ := own_form hT.own
  clear hT
  go_enter Try.func10, Try.ntmps10
  go_wp2
  refine wp_loop_ghost_k (fun k a wr => ∀ Φ : Act → Prop, (∀ (s0 s2 s3 s4 s5 s6 s7 s8 s9 s13 s14 s15 s16 s17 s18 s19 s20 s21 s22 s23 s24 s25 : Value) (i : Nat), (i + k = l.length ∧ honest (l.take i) who = true ∧ Below w.heap.size w wr) → Φ { tmps := #[s0, .string ⟨who.toArray⟩, s2, s3, s4, s5, s6, s7, s8, s9, .slice A l.length c, .int .i64 l.length, .int .i64 i, s13, s14, s15, s16, s17, s18, s19, s20, s21, s22, s23, s24, s25], defers := [] }) → Φ a) (l.length) ?_ ?_
  · refine fun Φ hΦ => hΦ _ _ _ _ _ _ _ _ _ _ _ _ _ _ _ _ _ _ _ _ _ _ (0) ?_
    exact ⟨by omega, rfl, Below.refl _ _⟩
  · intro k1 a1 wr1 hI1 J1 K1 hJ1 hK1
    refine hI1 (fun a => Code.wp _ _ _ a _) ?_
    clear hI1 a1
    intro s0 s1 s2 s3 s4 s5 s6 s7 s8 s9 s10 s11 s12 s13 s14 s15 s16 s17 s18 s19 s20 s21 i hrel
    show Code.wp _ _ _ _ _
    obtain ⟨h1, h2, hb⟩ := hrel
    have hbs := hb.size
    by_cases hi : i < l.length
    · obtain ⟨g, c', hv, hge, hbl, _, hcell⟩ := own3_cells own (by omega)
      injection hv with hA _ hc'
      subst hA
      subst hc'
      have hs := honest_snoc l who i hi h2
      have hf := honest_false l who i hi
      have hx : l[i]? = some l[i] := List.getElem?_eq_getElem hi
      obtain ⟨q0, q1, q2⟩ := hcell i _ hx
      rw [← hb.cell (p := ⟨g, _, none⟩) hbl] at q0 q1 q2
      clear hx hcell HR own
      generalize l[i] = x at *
      have hq : (x.1.toArray = who.toArray) = (x.1 = who) := by simp
      by_cases e1 : x.1 = who
      · subst e1
        cases e2 : x.2.2 with
        | false =>
          rw [e2] at q2 hf
          have T := Lib.hid (hf (by simp))
          clear hf hs
          go_wp2
          go_ret
          exact ⟨ret_bool T.out.symm, by go_grown⟩
        | true =>
          rw [e2] at q2 hs
          have T := Lib.hid (show _ = true from hs.trans (by simp))
          clear hf hs
          go_wp2
          refine Handed.intro (l.length - (i + 1)) ?_ (hJ1 _ _ _ (fun Φ hΦ => hΦ _ _ _ _ _ _ _ _ _ _ _ _ _ _ _ _ _ _ _ _ _ _ (i + 1) ?_))
          · omega
          · exact ⟨by omega, T.out, by go_grown⟩
      · have T := Lib.hid (show _ = true from hs.trans (by simp [e1]))
        have e1' : (x.1.toArray = who.toArray) = False := by simp [e1]
        clear hf hs
        go_wp2
        refine Handed.intro (l.length - (i + 1)) ?_ (hJ1 _ _ _ (fun Φ hΦ => hΦ _ _ _ _ _ _ _ _ _ _ _ _ _ _ _ _ _ _ _ _ _ _ (i + 1) ?_))
        · omega
        · exact ⟨by omega, T.out, by go_grown⟩
    · have e : l.take i = l := List.take_of_length_le (by omega)
      rw [e] at h2
      have E2 := Lib.hid h2
      clear h2 e
      go_wp2
      go_ret
      exact ⟨ret_bool E2.out.symm, hb⟩
end Go.Proofs.Ytojpijpajdiiiaa
