import Derived.Test.YtefcmigbdfeaiaaDoorK39
import Derived.Test.YtefcmigbdfeaiaaDoorK43
import Derived.Test.YtefcmigbdfeaiaaDoorK38
set_option linter.unusedSimpArgs false
set_option linter.unusedVariables false
namespace Go.Proofs.YtefcmigbdfeaiaaDoor
set_option linter.unusedVariables false
open Go.RowKit Go.Instr
attribute [local go_sem] ba_get ByteArray.mk_append_mk
attribute [local go_sem ↓] Go.wp_at_zero Go.wp_at_succ
set_option maxRecDepth 100000 in
set_option maxHeartbeats 2000000 in
theorem law_ProofProves (w : World) (A0 : Option Addr) (c0 : Nat) (L : List Trie.KV) (key : List UInt8) (HR0 : Reads w w.heap.size 2 A0 L.length (icells L)) (hL : ∀ x ∈ L, x.1.length ≤ 9223372036854775807 ∧ x.2.length ≤ 9223372036854775807) (hk : key.length ≤ 9223372036854775807) (hT : Tbl w) :
    Calls Tryd.prog 5 #[.slice A0 L.length c0, .string ⟨key.toArray⟩] w fun e w' => e = .returned (.bool true) ∧ Below w.heap.size w w' := by
  have HP : Hid (∀ w', Below w.heap.size w w' → (fun e w' => e = Ending.returned (.bool true) ∧ Below w.heap.size w w') (Ending.returned (.bool true)) w') := Lib.hid (fun W' a2 => ⟨rfl, a2⟩)
  generalize (fun e w' => e = Ending.returned (.bool true) ∧ Below w.heap.size w w') = P at HP ⊢
  have HTb := Lib.hid hT
  by_cases hk1 : 100 < key.length
  · have hkI : (100 : Int) < key.length := by omega
    clear hT HR0 hL
    go_enter Tryd.func5, Tryd.ntmps5
    go_wp2_with fail
    refine (law13_works _ HTb.out).mono ?_
    rintro e w1 ⟨rfl, hb1⟩
    go_wp2_with fail
    exact HP.out _ hb1
  have hkI : ((100 : Int) < key.length) = False := by simp; omega
  have HSo := Lib.hid (law13_some w L hL A0 c0 HR0 hT)
  have HGd := Lib.hid (fewT_good L)
  have HKl : Hid (key.length ≤ 100) := Lib.hid (by omega)
  generalize fewT L = t at *
  clear hT HR0 hL hk hk1
  go_enter Tryd.func5, Tryd.ntmps5
  go_wp2_with fail
  refine HSo.out.mono ?_
  rintro e w1 ⟨v1, A1, n1, c1, rfl, hk1, hn1, _, own1, hb1⟩
  obtain ⟨_, b1, x1, rfl, _⟩ := id hk1
  have HN1 := Lib.hid hn1
  have HK1 := Lib.hid hk1
  have HB1 := Lib.hid hb1
  have R1 := Lib.hid (Reads.of_own own1)
  clear hk1 hn1 own1 hb1 HSo
  have HD := Lib.hid (spots_at HGd.out.1 (by have := HGd.out.2; omega))
  have HPr : Hid (∀ W, Below w1.heap.size w1 W → Calls Tryd.prog 36 #[.pointer (some ⟨b1, 0, none⟩), .string ⟨key.toArray⟩] W (TextsCEnd W (proveW t key))) := Lib.hid (fun W hW => proof_Prove W t _ (HK1.out.next hW) (by have := HGd.out.2; omega) key (by have := HKl.out; omega))
  have HRp : Hid (∀ W, Below w1.heap.size w1 W → Calls Tryd.prog 37 #[.slice A1 n1 c1, .string ⟨key.toArray⟩] W (TextsCEnd W (proveW t key))) := Lib.hid (fun W hW => ref13_Prove W t HGd.out.1 (by have := HGd.out.2; omega) HD.out A1 c1 n1 (by rw [HN1.out, itemsW_len]) ((R1.out.below hW).more hW.size) key (by have := HKl.out; omega))
  have HPl : Hid ((proveW t key).1.length ≤ 100000) := Lib.hid (by
    unfold proveW
    split
    · show (toldW _ t).length ≤ 100000
      rw [toldW, textsD, List.length_map]
      exact Trie.goT_short HGd.out.1.wf (by have := HGd.out.2; omega) _ _
    · exact Nat.zero_le _)
  generalize proveW t key = pr at *
  obtain ⟨l, cd⟩ := pr
  unfold TextsCEnd at HPr HRp
  simp only at HPr HRp HPl
  go_wp2_with fail
  refine (HPr.out _ (Below.refl _ _)).mono ?_
  rintro e w2 ⟨A2, n2, c2, rfl, hn2, own2, hb2⟩
  obtain rfl := hn2
  have C2 := Lib.hid hb2
  have O2 := Lib.hid own2
  have R2 := Lib.hid (Reads.of_own own2)
  clear own2 hb2
  go_wp2_with fail
  refine (HRp.out _ C2.out).mono ?_
  rintro e w3 ⟨A3, n3, c3, rfl, hn3, own3, hb3⟩
  obtain rfl := hn3
  have C3 := Lib.hid (C2.out.nxt hb3)
  have C23 := Lib.hid hb3
  have O3 := Lib.hid own3
  have R3 := Lib.hid (Reads.of_own own3)
  have R23 := Lib.hid ((R2.out.below hb3).more hb3.size)
  clear own3 hb3
  go_wp2_with fail
  refine (same_told c2 c3 R23.out R3.out HPl.out).mono ?_
  rintro e w4 ⟨rfl, hb4⟩
  have C4 := Lib.hid (C3.out.nxt hb4)
  have C24 := Lib.hid (C23.out.nxt hb4)
  have R34 := Lib.hid ((R3.out.below hb4).more hb4.size)
  have O34 := Lib.hid (own_below O3.out hb4)
  have O24 := Lib.hid (own_below (own_below O2.out C23.out) hb4)
  clear hb4
  go_wp2_with fail
  refine (book_SpoilTexts2 _ w1.heap.size A2 _ c2 _ O24.out C4.out.size (by have := HPl.out; omega)).mono ?_
  rintro e w5 ⟨rfl, hg5⟩
  have C5 : Hid (Below w1.heap.size w1 w5) := Lib.hid (C4.out.grown hg5 C4.out.size (fun k hk => (O2.out.lt k hk).1))
  have O35 := Lib.hid (O34.out.kept hg5 (by
    have h2 := O2.out.lt
    have h3 := O3.out.lt
    cases hv : (Value.slice A3 l.length c3).ownBlock with
    | none => exact .inl rfl
    | some k =>
      refine .inr fun e => ?_
      have a := (h3 k hv).1
      have b := (h2 k e.symm).2
      omega))
  clear hg5
  go_wp2_with fail
  refine (HPr.out _ C5.out).mono ?_
  rintro e w6 ⟨A6, n6, c6, rfl, hn6, own6, hb6⟩
  obtain rfl := hn6
  have C6 := Lib.hid (C5.out.nxt hb6)
  have R6 := Lib.hid (Reads.of_own own6)
  have R36 := Lib.hid (Reads.of_own (own_below O35.out hb6))
  clear own6 hb6
  go_wp2_with fail
  refine (same_told c6 c3 R6.out R36.out HPl.out).mono ?_
  rintro e w7 ⟨rfl, hb7⟩
  have C7 := Lib.hid (C6.out.nxt hb7)
  clear hb7
  go_wp2_with fail
  refine (law13_works _ (HTb.out.next (HB1.out.nxt C7.out))).mono ?_
  rintro e w8 ⟨rfl, hb8⟩
  go_wp2_with fail
  exact HP.out _ (HB1.out.nxt (C7.out.nxt hb8))
end Go.Proofs.YtefcmigbdfeaiaaDoor
