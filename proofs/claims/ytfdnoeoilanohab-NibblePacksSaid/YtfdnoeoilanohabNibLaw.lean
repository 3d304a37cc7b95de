/- The laws of layer 1 (nibble): the chapter's examples. -/
import Derived.Test.YtfdnoeoilanohabNib2
namespace Go.Proofs.Ytfdnoeoilanohab
open Go.RowKit
attribute [local go_sem] ba_get ByteArray.mk_append_mk ByteArray.extract_mk

set_option maxHeartbeats 400000 in
theorem nib_works (w : World) : Calls Try.prog 11 #[] w fun e w' => e = .returned (.bool true) ∧ Below w.heap.size w w' := by
  go_enter Try.func11, Try.ntmps11
  go_wp2_with fail
  refine (nib_Of [65, 49] _ (by decide)).mono ?_
  rintro e w1 ⟨rfl, hb1⟩
  rw [show Nib.of [65, 49] = [4, 1, 3, 1] from by decide]
  go_wp2_with fail
  refine (nib_Pack [4, 1, 3, 1] true _ (by decide)).mono ?_
  rintro e w2 ⟨rfl, hb2⟩
  rw [show Nib.pack [4, 1, 3, 1] true = ([32, 65, 49], 0) from by decide]
  have hbb2 := hb1.trans (hb2.mono hb1.size)
  go_wp2_with fail
  refine (nib_Pack [5, 10, 11] false _ (by decide)).mono ?_
  rintro e w3 ⟨rfl, hb3⟩
  rw [show Nib.pack [5, 10, 11] false = ([21, 171], 0) from by decide]
  have hbb3 := hbb2.trans (hb3.mono hbb2.size)
  go_wp2_with fail
  refine (nib_Of [65, 49] _ (by decide)).mono ?_
  rintro e w4 ⟨rfl, hb4⟩
  rw [show Nib.of [65, 49] = [4, 1, 3, 1] from by decide]
  have hbb4 := hbb3.trans (hb4.mono hbb3.size)
  go_wp2_with fail
  refine (nib_Side [4, 1] [4, 2] _ (by decide) (by decide)).mono ?_
  rintro e w5 ⟨rfl, hb5⟩
  rw [show Nib.side [4, 1] [4, 2] = -1 from by decide]
  go_wp2
  go_ret
  exact ⟨rfl, hbb4.trans (hb5.mono hbb4.size)⟩
end Go.Proofs.Ytfdnoeoilanohab
