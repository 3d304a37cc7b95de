/- The walk of SkipTells: for every two heights the law returns true. No condition. -/
import Derived.Test.YtfdnoeoilanohaaSkip2
import Derived.Test.YtfdnoeoilanohaaSkipLaw
namespace Go.Proofs.Ytfdnoeoilanohaa
set_option linter.unusedVariables false
open Go.RowKit

theorem linksV_len (h : Int) : (linksV h).length ≤ 22 := by
  unfold linksV
  split
  · exact Skip.linksF_len 22 _ 2
  · simp
theorem routeV_len (h low : Int) : (routeV h low).1.length ≤ 42 := by
  unfold routeV
  split
  · rename_i hc
    exact Skip.route_40 _ _ (by omega) (by omega)
  · simp

set_option maxHeartbeats 800000 in
theorem skipTells_all (h low : Int) (w : World) :
    Calls Try.prog 4 #[.int .i64 h, .int .i64 low] w fun e w' => e = .returned (.bool true) ∧ Below w.heap.size w w' := by
  have hl1 := linksV_len h
  have hl2 := routeV_len h low
  generalize hL : linksV h = L at *
  generalize hN : nextV h low = N at *
  generalize hR : routeV h low = R at *
  obtain ⟨n1, n2⟩ := N
  obtain ⟨R, rc⟩ := R
  have H := Lib.hid (And.intro hL (And.intro hN hR))
  clear hL hN hR
  simp only at hl2
  go_enter Try.func4, Try.ntmps4
  go_wp2_with fail
  refine (skip_Links_all h _).mono ?_
  rw [H.out.1]
  rintro e w1 ⟨v, rfl, own1, hb1⟩
  obtain ⟨A1, c1, rfl, -, hc1, hA1⟩ := own_form own1
  have lt1 := own1.lt
  go_wp2_with fail
  refine (refskip_Links_all h _).mono ?_
  rw [H.out.1]
  rintro e w2 ⟨v, rfl, own2, hb2⟩
  obtain ⟨A2, c2, rfl, -, hc2, hA2⟩ := own_form own2
  have own1 := own_below own1 hb2
  have hbb2 := hb1.nxt hb2
  go_wp2_with fail
  refine (skip_Next_all h low _).mono ?_
  rw [H.out.2.1]
  rintro e w3 ⟨rfl, rfl⟩
  go_wp2_with fail
  refine (refskip_Next_all h low _).mono ?_
  rw [H.out.2.1]
  rintro e w3 ⟨rfl, hb3⟩
  have own1 := own_below own1 hb3
  have own2 := own_below own2 hb3
  have lt2'' := own2.lt
  have hbb3 := hbb2.nxt hb3
  go_wp2_with fail
  refine (skip_Route_all h low _).mono ?_
  rw [H.out.2.2]
  rintro e w4 ⟨v, rfl, own4, hb4⟩
  obtain ⟨A4, c4, rfl, -, hc4, hA4⟩ := own_form own4
  have lt4 := own4.lt
  have own1 := own_below own1 hb4
  have own2 := own_below own2 hb4
  have hbb4 := hbb3.nxt hb4
  go_wp2_with fail
  refine (refskip_Route_all h low _).mono ?_
  rw [H.out.2.2]
  rintro e w5 ⟨v, rfl, own5, hb5⟩
  obtain ⟨A5, c5, rfl, -, hc5, hA5⟩ := own_form own5
  have own1 := own_below own1 hb5
  have own2 := own_below own2 hb5
  have own4 := own_below own4 hb5
  have hbb5 := hbb4.nxt hb5
  dsimp only at own4 own5 hl2 ⊢
  go_wp2_with fail
  refine (book_SameInts _ _ _ _ _ _ L L _ (Reads.of_own own1) (Reads.of_own own2) (by omega) (by omega)).mono ?_
  rintro e w6 ⟨rfl, hb6⟩
  have own1 := own_below own1 hb6
  have own2 := own_below own2 hb6
  have own4 := own_below own4 hb6
  have own5 := own_below own5 hb6
  have hbb6 := hbb5.nxt hb6
  go_wp2_with fail
  refine (book_SameInts _ _ _ _ _ _ R R _ (Reads.of_own own4) (Reads.of_own own5) (by omega) (by omega)).mono ?_
  rintro e w7 ⟨rfl, hb7⟩
  have own1 := own_below own1 hb7
  have own2 := own_below own2 hb7
  have own4 := own_below own4 hb7
  have hbb7 := hbb6.nxt hb7
  go_wp2_with fail
  refine (book_SpoilInts _ _ _ _ _ _ own1 (by omega)).mono ?_
  rintro e w8 ⟨rfl, hg8⟩
  have hbb8 := hbb7.grown hg8 hbb7.size (fun k hk => (own1.lt k hk).1)
  have own2 := own2.kept hg8 (own_apart own2 lt1 (Nat.le_refl _))
  have own4 := own4.kept hg8 (own_apart own4 lt1 (Nat.le_trans hb2.size hb3.size))
  go_wp2_with fail
  refine (book_SpoilInts _ _ _ _ _ _ own4 (by omega)).mono ?_
  rintro e w9 ⟨rfl, hg9⟩
  have hbb9 := hbb8.grown hg9 hbb8.size (fun k hk => Nat.le_trans hbb3.size (own4.lt k hk).1)
  have lt2' : ∀ k, (Value.slice A2 L.length c2).ownBlock = some k → w1.heap.size ≤ k ∧ k < w3.heap.size := lt2''
  have own2 := own2.kept hg9 (own_apart' lt2' (fun k hk => (own4.lt k hk).1))
  go_wp2_with fail
  refine (skip_Links_all h _).mono ?_
  rw [H.out.1]
  rintro e w10 ⟨v, rfl, own10, hb10⟩
  obtain ⟨A10, c10, rfl, -, hc10, hA10⟩ := own_form own10
  have own2 := own_below own2 hb10
  have hbb10 := hbb9.nxt hb10
  go_wp2_with fail
  refine (book_SameInts _ _ _ _ _ _ L L _ (Reads.of_own own10) (Reads.of_own own2) (by omega) (by omega)).mono ?_
  rintro e w11 ⟨rfl, hb11⟩
  have hbb11 := hbb10.nxt hb11
  go_wp2_with fail
  refine (skip_works _).mono ?_
  rintro e w12 ⟨rfl, hb12⟩
  go_wp2
  go_ret
  exact ⟨rfl, hbb11.nxt hb12⟩

theorem skipTells_walk (h low : Int) (_ : (Lit.int .i64 h).wf = true) (_ : (Lit.int .i64 low).wf = true) (w : World) :
    Calls Try.prog 4 #[.int .i64 h, .int .i64 low] w fun e w' => e = .returned (.bool true) ∧ Below w.heap.size w w' :=
  skipTells_all h low w
end Go.Proofs.Ytfdnoeoilanohaa
