/- The laws of layer 18 (skip): the walks of the chapter's examples and of the statements. -/
import Derived.Test.YtfdnoeoilanohaaDoorSkip
import Derived.Test.YtfdnoeoilanohaaDoorBook
namespace Go.Proofs.YtfdnoeoilanohaaDoor
set_option linter.unusedVariables false
open Go.RowKit

theorem ints_lit (w : World) (l : List Nat) (e : TypeId) : Reads (w.alloc (.cells (ints l).toArray e)) (w.heap.size + 1) 1 (some ⟨w.heap.size, 0, none⟩) l.length (ints l) := by
  refine ⟨by rw [ints_length, Nat.mul_one], fun _ => ⟨_, rfl, by simp, fun j u hu => ?_⟩⟩
  have ha : (⟨w.heap.size, 0, none⟩ : Addr).add j = ⟨w.heap.size, j, none⟩ := by unfold Addr.add; split <;> simp_all
  rw [ha, World.cell?_alloc_at _ _ _ _ rfl]
  simpa using hu

set_option maxHeartbeats 400000 in
theorem skip_works (w : World) : Calls Tryd.prog 4 #[] w fun e w' => e = .returned (.bool true) ∧ Below w.heap.size w w' := by
  go_enter Tryd.func4, Tryd.ntmps4
  go_wp2_with fail
  refine (skip_Route 12 3 _ (by omega) (by omega)).mono ?_
  rintro e w1 ⟨v1, rfl, hown1, hb1⟩
  obtain ⟨A1, c1, rfl, hr1, -, -⟩ := own_form hown1
  rw [show Skip.route 12 3 = [8, 4, 3] from by decide] at *
  go_wp2_with fail
  refine (skip_Links 12 _ (by omega) (by omega)).mono ?_
  rintro e w2 ⟨v2, rfl, hown2, hb2⟩
  obtain ⟨A2, c2, rfl, hr2, -, -⟩ := own_form hown2
  rw [show Skip.links 12 = [10, 8] from by decide] at *
  go_wp2_with fail
  refine (book_SameInts _ _ _ _ _ _ [10, 8] [10, 8] _ (hr2.alloc (Nat.le_refl _) _ |>.more (by simp)) ((ints_lit w2 [10, 8] _).more (by simp)) (by simp) (by simp)).mono ?_
  rintro e w3 ⟨rfl, hb3⟩
  go_wp2_with fail
  refine (skip_Links 7 _ (by omega) (by omega)).mono ?_
  rintro e w4 ⟨v4, rfl, hown4, hb4⟩
  obtain ⟨A4, c4, rfl, hr4, -, -⟩ := own_form hown4
  rw [show Skip.links 7 = [] from by decide] at *
  have hb14 : Below w1.heap.size w1 w4 := (hb2.trans (((Below.refl _ _).alloc hb2.size _).trans (hb3.mono (by have := hb2.size; simp; omega)))).trans (hb4.mono (by have := hb2.size; have := hb3.size; simp at this; omega))
  go_wp2_with fail
  refine (book_SameInts _ _ _ _ _ _ [8, 4, 3] [8, 4, 3] _ (((hr1.below hb14).more hb14.size).alloc (Nat.le_refl _) _ |>.more (by simp)) ((ints_lit w4 [8, 4, 3] _).more (by simp)) (by simp) (by simp)).mono ?_
  rintro e w5 ⟨rfl, hb5⟩
  go_wp2
  go_ret
  refine ⟨rfl, (hb1.trans (hb14.mono hb1.size)).trans (((Below.refl _ _).alloc ?_ _).trans (hb5.mono ?_))⟩
  · have := hb1.size; have := hb14.size; omega
  · have := hb1.size; have := hb14.size; simp; omega

end Go.Proofs.YtfdnoeoilanohaaDoor
