/- The walks of layer 18 (skip), second part: all arguments, and the document's answer. -/
import Derived.Test.YtfdnoeoilanohaaDoorSkip
import Derived.Test.YtfdnoeoilanohaaDoorBook
namespace Go.Proofs.YtfdnoeoilanohaaDoor
set_option linter.unusedVariables false
open Go.RowKit

def linksV (h : Int) : List Nat := if 1 ≤ h ∧ h ≤ 1048576 then Skip.links h.toNat else []
def nextV (h low : Int) : Nat × Nat := if 0 ≤ low ∧ low < h ∧ h ≤ 1048576 then (Skip.next h.toNat low.toNat, 0) else (0, 1)
def routeV (h low : Int) : List Nat × Nat := if 0 ≤ low ∧ low ≤ h ∧ h ≤ 1048576 then (Skip.route h.toNat low.toNat, 0) else ([], 1)

set_option maxHeartbeats 400000 in
theorem skip_Links_bad (h : Int) (w : World) (hb : h < 1 ∨ 1048576 < h) :
    Calls Tryd.prog 5 #[.int .i64 h] w fun e w' => e = .returned (.slice none 0 0) ∧ w = w' := by
  by_cases h1 : h < 1
  · go_enter Tryd.func5, Tryd.ntmps5
    go_wp2
    go_step3
    go_wp2
    rw [Exit.noGoto_ret]
    go_ret
    exact ⟨rfl, rfl⟩
  · have h2 : 1048576 < h := by omega
    go_enter Tryd.func5, Tryd.ntmps5
    go_wp2
    go_step3
    go_wp2
    rw [Exit.noGoto_ret]
    go_ret
    exact ⟨rfl, rfl⟩
theorem skip_Links_all (h : Int) (w : World) :
    Calls Tryd.prog 5 #[.int .i64 h] w fun e w' => ∃ v, e = .returned v ∧ w'.ownsRow w.heap.size 3 1 v (linksV h).length (ints (linksV h)) ∧ Below w.heap.size w w' := by
  by_cases hc : 1 ≤ h ∧ h ≤ 1048576
  · obtain ⟨n, rfl⟩ := Int.eq_ofNat_of_zero_le (show 0 ≤ h by omega)
    rw [show linksV (n : Int) = Skip.links n from by unfold linksV; rw [if_pos hc]; rfl]
    exact skip_Links n w (by omega) (by omega)
  · rw [show linksV h = [] from by unfold linksV; rw [if_neg hc]]
    refine (skip_Links_bad h w (by omega)).mono ?_
    rintro e w' ⟨rfl, rfl⟩
    exact ⟨_, rfl, World.ownsRow_nil _ _ _ _, Below.refl _ _⟩
theorem skip_Route_all (h low : Int) (w : World) :
    Calls Tryd.prog 7 #[.int .i64 h, .int .i64 low] w fun e w' => ∃ v, e = .returned (.tuple #[v, .int .i64 (routeV h low).2]) ∧ w'.ownsRow w.heap.size 3 1 v (routeV h low).1.length (ints (routeV h low).1) ∧ Below w.heap.size w w' := by
  by_cases hc : 0 ≤ low ∧ low ≤ h ∧ h ≤ 1048576
  · obtain ⟨n, rfl⟩ := Int.eq_ofNat_of_zero_le (show 0 ≤ h by omega)
    obtain ⟨m, rfl⟩ := Int.eq_ofNat_of_zero_le (show 0 ≤ low by omega)
    rw [show routeV (n : Int) (m : Int) = (Skip.route n m, 0) from by unfold routeV; rw [if_pos hc]; rfl]
    exact skip_Route n m w (by omega) (by omega)
  · rw [show routeV h low = ([], 1) from by unfold routeV; rw [if_neg hc]]
    refine (skip_Route_bad h low w (by omega)).mono ?_
    rintro e w' ⟨rfl, rfl⟩
    exact ⟨_, rfl, World.ownsRow_nil _ _ _ _, Below.refl _ _⟩
end Go.Proofs.YtfdnoeoilanohaaDoor
