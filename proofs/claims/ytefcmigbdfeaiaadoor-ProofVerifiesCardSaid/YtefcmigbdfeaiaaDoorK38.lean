import Derived.Test.YtefcmigbdfeaiaaDoorK34
set_option linter.unusedSimpArgs false
set_option linter.unusedVariables false
namespace Go.Proofs.YtefcmigbdfeaiaaDoor
set_option linter.unusedVariables false
open Go.RowKit Go.Instr
attribute [local go_sem] ba_get ByteArray.mk_append_mk
theorem own_at {w : World} {base e size n c : Nat} {A : Option Addr} {xs : List Value} (h : w.ownsRow base e size (.slice A n c) n xs) (hn : 0 < n) (hs : 0 < size) :
    ∃ g, A = some ⟨g, 0, none⟩ ∧ base ≤ g ∧ g < w.heap.size ∧ ∀ (j : Nat) (hj : j < xs.length), w.cell? ⟨g, j, none⟩ = some xs[j] := by
  obtain ⟨A', c', hv, HR, hc, hb⟩ := own_form h
  injection hv with hA _ _
  subst hA
  obtain ⟨g, cap, hv, hge, hlt⟩ := h.form hn
  injection hv with hA
  subst hA
  obtain ⟨b, off, e1, hbl, hcell⟩ := HR.form hn hs
  injection e1 with e1
  injection e1 with e1 e2
  subst e1
  subst e2
  exact ⟨g, rfl, hge, hlt, fun j hj => by have := hcell j hj; rwa [Nat.zero_add] at this⟩
theorem grown_set1 {w w' : World} {g : Nat} (h : w.grownBy w' (some g)) (i : Nat) (v : Value) : w.grownBy (w'.setCell ⟨g, i, none⟩ v) (some g) :=
  ⟨h.os, h.tape, h.output, by rw [World.size_setCell]; exact h.size, fun k hk hne => (Below.heap_setCell w' ⟨g, i, none⟩ v k (fun e => hne (by rw [e]))).trans (h.block k hk hne)⟩
set_option maxHeartbeats 1000000 in
theorem book_SpoilTexts2 (w : World) (B : Nat) (A : Option Addr) (n c : Nat) (xs : List Value) (own : w.ownsRow B 9 1 (.slice A n c) n xs) (hB : B ≤ w.heap.size) (hn : n ≤ 1000000) :
    Calls Tryd.prog 24 #[.slice A n c] w fun e w' => e = .returned (.tuple #[]) ∧ w.grownBy w' (Value.slice A n c).ownBlock := by
  have HP : Hid (∀ w', w.grownBy w' (Value.slice A n c).ownBlock → (fun e w' => e = Ending.returned (.tuple #[]) ∧ w.grownBy w' (Value.slice A n c).ownBlock) (.returned (.tuple #[])) w') := Lib.hid (fun w' h => ⟨rfl, h⟩)
  generalize (fun e w' => e = Ending.returned (.tuple #[]) ∧ w.grownBy w' (Value.slice A n c).ownBlock) = P at HP ⊢
  have HO := Lib.hid own
  clear own
  go_enter Tryd.func24, Tryd.ntmps24
  go_wp2
  refine wp_loop_ghost_k (fun k a wr => ∀ Φ : Act → Prop, (∀ (s1 s3 s4 s5 s6 s7 s8 s9 s10 s11 : Value) (i : Nat) (ys : List Value), (i + k = n ∧ wr.ownsRow B 9 1 (.slice A n c) n ys ∧ w.grownBy wr (Value.slice A n c).ownBlock) → Φ { tmps := #[.slice A n c, s1, .int .i64 (i : Int), s3, s4, s5, s6, s7, s8, s9, s10, s11], defers := [] }) → Φ a) (n) ?_ ?_
  · refine fun Φ hΦ => hΦ _ _ _ _ _ _ _ _ _ _ (0) (xs) ?_
    exact ⟨by omega, HO.out, World.grownBy.refl _ _⟩
  · intro k1 a1 wr1 hI1 J1 K1 hJ1 hK1
    refine hI1 (fun a => Code.wp _ _ _ a _) ?_
    clear hI1 a1
    intro s0 s1 s2 s3 s4 s5 s6 s7 s8 s9 i ys hrel
    show Code.wp _ _ _ _ _
    obtain ⟨h1, ho, hb⟩ := hrel
    by_cases hi : i < n
    · obtain ⟨g, rfl, hge, hlt, hc⟩ := own_at ho (by omega) (by omega)
      have hl : ys.length = n * 1 := ho.1
      have c0 := hc i (by omega)
      have f0 := ho.frozenAt i
      have H := Lib.hid (And.intro h1 (And.intro ho (And.intro hb hge)))
      have hi1 : (i : Int) < n := by omega
      have hi0 : (0 : Int) ≤ i := by omega
      generalize ys[i] = u0 at *
      clear h1 ho hb hge hc
      go_wp2
      refine Handed.intro (n - (i + 1)) ?_ (hJ1 _ _ _ (fun Φ hΦ => hΦ _ _ _ _ _ _ _ _ _ _ (i + 1) ((ys.set i (.string ⟨#[97, 110, 111, 116, 104, 101, 114, 32, 111, 110, 101]⟩))) ?_))
      · have := H.out.1
        omega
      · obtain ⟨h1, ho, hb, hge⟩ := H.out
        have s1 := ho.stored i (.string ⟨#[97, 110, 111, 116, 104, 101, 114, 32, 111, 110, 101]⟩)
        exact ⟨by omega, s1.1, (grown_set1 hb _ _)⟩
    · have hi2 : ((i : Int) < n) = False := by simp; omega
      have H := Lib.hid hb
      clear ho hb h1 hi
      go_wp2
      go_end0
      exact HP.out _ H.out
end Go.Proofs.YtefcmigbdfeaiaaDoor
