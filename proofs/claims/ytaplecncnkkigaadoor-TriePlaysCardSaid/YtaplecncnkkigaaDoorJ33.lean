import Derived.Test.YtaplecncnkkigaaDoorJ32
import Derived.Test.YtaplecncnkkigaaDoorJ28
/- Layer 10's laws: TriePlays, has. No conditions. -/
namespace Go.Proofs.YtaplecncnkkigaaDoor
set_option linter.unusedVariables false
open Go.RowKit Go.Instr
attribute [local go_sem] ba_get ByteArray.mk_append_mk
attribute [local go_sem ↓] Go.wp_at_zero Go.wp_at_succ

set_option maxRecDepth 100000 in
set_option maxHeartbeats 1000000 in
theorem law10_has (w : World) (t : Trie.T) (v : Value) (hT : TrieP w t v) (hc : Trie.count t ≤ 1000) (A : Option Addr) (c : Nat) (HR : Reads w w.heap.size 2 A (Trie.itemsW t).length (icells (Trie.itemsW t))) (key : List UInt8) (hk : key.length ≤ 1000) :
    Calls Tryd.prog 34 #[v, .slice A (Trie.itemsW t).length c, .string ⟨key.toArray⟩] w fun e w' => e = .returned (.bool true) ∧ Below w.heap.size w w' := by
  have HP : Hid (∀ w', Below w.heap.size w w' → (fun e w' => e = Ending.returned (.bool true) ∧ Below w.heap.size w w') (Ending.returned (.bool true)) w') := Lib.hid (fun W' a2 => ⟨rfl, a2⟩)
  generalize (fun e w' => e = Ending.returned (.bool true) ∧ Below w.heap.size w w') = P at HP ⊢
  have HTt : Hid (∀ W, Below w.heap.size w W → TrieP W t v) := Lib.hid (fun W hW => hT.next hW)
  have HRr : Hid (∀ W, Below w.heap.size w W → Reads W W.heap.size 2 A (Trie.itemsW t).length (icells (Trie.itemsW t))) := Lib.hid (fun W hW => (HR.below hW).more hW.size)
  have HLn : Hid ((Trie.itemsW t).length = Trie.count t) := Lib.hid (Trie.itemsW_length t)
  have HGt : Hid (Trie.rget (Trie.itemsW t) key = Trie.getW t key) := Lib.hid (Trie.rget_getW hT.1 key)
  have HC := Lib.hid hc
  obtain ⟨_, bt, xt, rfl, _, _⟩ := id hT
  clear hT HR hc
  go_enter Tryd.func34, Tryd.ntmps34
  go_wp2_with fail
  refine (trie_Items _ _ _ (HTt.out _ (Below.refl _ _)) (by have := HC.out; omega)).mono ?_
  rintro e w1 ⟨A1, n1, k1, rfl, hn1, own1, hb1⟩
  obtain rfl := hn1
  have HB1 := Lib.hid hb1
  have HO1 := Lib.hid own1
  clear own1 hb1
  go_wp2_with fail
  refine (trie_Get _ _ _ (HTt.out _ HB1.out) key (by omega)).mono ?_
  rintro e w2 ⟨rfl, hb2⟩
  have HB2 := Lib.hid (HB1.out.nxt hb2)
  have HB12 := Lib.hid hb2
  clear hb2
  go_wp2_with fail
  refine (ref10_Get _ A c _ (HRr.out _ HB2.out) (by have := HLn.out; have := HC.out; omega) key (by omega)).mono ?_
  rw [HGt.out]
  rintro e w3 ⟨rfl, hb3⟩
  have HB3 := Lib.hid (HB2.out.nxt hb3)
  have HB13 := Lib.hid (HB12.out.nxt hb3)
  clear hb3
  generalize (Trie.getW t key).1 = gv at *
  generalize (Trie.getW t key).2 = gc at *
  go_wp2_with fail
  refine (book_SameItems A1 A _ _ _ _ _ _ _ (((Reads.of_own HO1.out).below HB13.out).more HB13.out.size) (HRr.out _ HB3.out) (by have := HLn.out; have := HC.out; omega) (by have := HLn.out; have := HC.out; omega)).mono ?_
  rw [decide_eq_true rfl]
  rintro e w4 ⟨rfl, hb4⟩
  have HB4 := Lib.hid (HB3.out.nxt hb4)
  have HB14 := Lib.hid (HB13.out.nxt hb4)
  clear hb4
  go_wp2_with fail
  refine (trie_Len _ _ _ (HTt.out _ HB4.out)).mono ?_
  rw [← HLn.out]
  rintro e w5 ⟨rfl, rfl⟩
  go_wp2_with fail
  refine (book_SpoilItems _ w.heap.size A1 _ k1 _ (HO1.out.kept (only_of_below HB14.out none) (by cases hv : (Value.slice A1 (Trie.itemsW t).length k1).ownBlock <;> simp)) HB4.out.size (by have := HLn.out; have := HC.out; omega)).mono ?_
  rintro e w6 ⟨rfl, hb6⟩
  go_wp2_with fail
  exact HP.out _ (HB4.out.trans hb6)
end Go.Proofs.YtaplecncnkkigaaDoor
