import Derived.Test.YtefcmigbdfeaiaaDoorK39
import Derived.Test.YtefcmigbdfeaiaaDoorK25
import Derived.Test.YtefcmigbdfeaiaaDoorK31
import Derived.Test.YtefcmigbdfeaiaaDoorK45
import Derived.Test.YtefcmigbdfeaiaaDoorK43
set_option linter.unusedSimpArgs false
set_option linter.unusedVariables false
namespace Go.Proofs.YtefcmigbdfeaiaaDoor
set_option linter.unusedVariables false
open Go.RowKit Go.Instr
attribute [local go_sem] ba_get ByteArray.mk_append_mk
attribute [local go_sem ↓] Go.wp_at_zero Go.wp_at_succ
set_option maxRecDepth 100000 in
set_option maxHeartbeats 2000000 in
theorem law_ProofVerifies (w : World) (root key : List UInt8) (A : Option Addr) (c : Nat) (nodes : List (List UInt8)) (hr : root.length ≤ 9223372036854775807) (hk : key.length ≤ 9223372036854775807) (HR : Reads w w.heap.size 1 A nodes.length (strv nodes)) (hc : nodes.length ≤ c) (hT : Tbl w) :
    Calls Tryd.prog 6 #[.string ⟨root.toArray⟩, .string ⟨key.toArray⟩, .slice A nodes.length c] w fun e w' => e = .returned (.bool true) ∧ Below w.heap.size w w' := by
  have HP : Hid (∀ w', Below w.heap.size w w' → (fun e w' => e = Ending.returned (.bool true) ∧ Below w.heap.size w w') (Ending.returned (.bool true)) w') := Lib.hid (fun W' a2 => ⟨rfl, a2⟩)
  generalize (fun e w' => e = Ending.returned (.bool true) ∧ Below w.heap.size w w') = P at HP ⊢
  have HTb := Lib.hid hT
  have HN := Lib.hid (fun W (hW : Below w.heap.size w W) => (HR.below hW).more hW.size)
  have HKl := Lib.hid (And.intro hk hc)
  clear hT HR hc
  go_enter Tryd.func6, Tryd.ntmps6
  go_wp2_with fail
  refine (book_Few _ A c nodes 30 700 (HN.out _ (Below.refl _ _)) (by omega) (by omega)).mono ?_
  rintro e w9 ⟨rfl, hb9⟩
  have HB9 := Lib.hid hb9
  clear hb9
  cases hfew : fewW nodes 30 700 with
  | false =>
    clear hfew
    go_wp2_with fail
    refine (law13_works _ (HTb.out.next HB9.out)).mono ?_
    rintro e w8 ⟨rfl, hb8⟩
    go_wp2_with fail
    exact HP.out _ (HB9.out.nxt hb8)
  | true =>
  have HFw : Hid (nodes.length ≤ 30 ∧ ∀ x ∈ nodes, x.length ≤ 700) := Lib.hid (by
    unfold fewW at hfew
    simp at hfew
    exact hfew)
  clear hfew
  by_cases k1 : 100 < root.length
  · have kI : (100 : Int) < root.length := by omega
    go_wp2_with fail
    refine (law13_works _ (HTb.out.next HB9.out)).mono ?_
    rintro e w8 ⟨rfl, hb8⟩
    go_wp2_with fail
    exact HP.out _ (HB9.out.nxt hb8)
  have kI : ((100 : Int) < root.length) = False := by simp; omega
  by_cases k2 : 100 < key.length
  · have kJ : (100 : Int) < key.length := by omega
    go_wp2_with fail
    refine (law13_works _ (HTb.out.next HB9.out)).mono ?_
    rintro e w8 ⟨rfl, hb8⟩
    go_wp2_with fail
    exact HP.out _ (HB9.out.nxt hb8)
  have kJ : ((100 : Int) < key.length) = False := by simp; omega
  clear k1 k2 hr hk
  have HVr : Hid (∀ W (A' : Option Addr) c', Below w.heap.size w W → Reads W W.heap.size 1 A' nodes.length (strv nodes) → Calls Tryd.prog 40 #[.string ⟨root.toArray⟩, .string ⟨key.toArray⟩, .slice A' nodes.length c'] W (VerEnd W (verifyW root key nodes))) := Lib.hid (fun W A' c' hW h => proof_Verify W root key HKl.out.1 nodes A' c' h (by have := HFw.out.1; omega) (fun x hx => by have := HFw.out.2 x hx; omega) (HTb.out.next hW))
  have HRv : Hid (∀ W, Below w.heap.size w W → Calls Tryd.prog 41 #[.string ⟨root.toArray⟩, .string ⟨key.toArray⟩, .slice A nodes.length c] W (VerEnd W (verifyW root key nodes))) := Lib.hid (fun W hW => ref13_Verify W root key HKl.out.1 nodes A c HKl.out.2 (HN.out W hW) (by have := HFw.out.1; omega) (fun x hx => by have := HFw.out.2 x hx; omega))
  generalize verifyW root key nodes = r at *
  obtain ⟨v, is, cd⟩ := r
  unfold VerEnd at HVr HRv
  simp only at HVr HRv
  have e1 : (v == v) = true := by simp
  have e2 : (is == is) = true := by simp
  have e3 : ((cd : Int) == cd) = true := by simp
  go_wp2_with fail
  refine (book_Lend w9 A c nodes (HN.out _ HB9.out) (by have := HFw.out.1; omega)).mono ?_
  rintro e w1 ⟨g, c1, rfl, hc1, r1, hb1⟩
  have C1 := Lib.hid (HB9.out.nxt hb1)
  have R1 := Lib.hid r1
  have HC1 := Lib.hid hc1
  clear hb1 r1 hc1
  go_wp2_with fail
  refine (HVr.out w1 _ c1 C1.out (reads_pre R1.out (strv_length nodes))).mono ?_
  rintro e w2 ⟨rfl, hb2⟩
  have C2 := Lib.hid (C1.out.nxt hb2)
  have R2 := Lib.hid ((R1.out.below hb2).more hb2.size)
  clear hb2
  go_wp2_with fail
  refine (HRv.out w2 C2.out).mono ?_
  rintro e w3 ⟨rfl, hb3⟩
  have C3 := Lib.hid (C2.out.nxt hb3)
  have R3 := Lib.hid ((R2.out.below hb3).more hb3.size)
  clear hb3
  go_wp2_with fail
  refine (book_Kept w3 A g c1 c nodes R3.out HC1.out (HN.out _ C3.out) (by have := HFw.out.1; omega)).mono ?_
  rintro e w4 ⟨rfl, hb4⟩
  have C4 := Lib.hid (C3.out.nxt hb4)
  clear hb4
  go_wp2_with fail
  refine (law13_works _ (HTb.out.next C4.out)).mono ?_
  rintro e w5 ⟨rfl, hb5⟩
  go_wp2_with fail
  exact HP.out _ (C4.out.nxt hb5)
end Go.Proofs.YtefcmigbdfeaiaaDoor
