import Derived.Test.YtcjafcbekegmlaaDoorJ36
import Derived.Test.YtcjafcbekegmlaaDoorJ32
import Derived.Test.YtcjafcbekegmlaaDoorJ14
import Derived.Test.YtcjafcbekegmlaaDoorJ23
import Derived.Test.YtcjafcbekegmlaaDoorJ37
set_option linter.unusedSimpArgs false
set_option linter.unusedVariables false
namespace Go.Proofs.YtcjafcbekegmlaaDoor
set_option linter.unusedVariables false
open Go.RowKit Go.Instr
attribute [local go_sem] ba_get ByteArray.mk_append_mk
attribute [local go_sem ↓] Go.wp_at_zero Go.wp_at_succ
def PageEnd (w : World) (r : List Trie.KV × List UInt8 × List (List UInt8)) (cd : Nat) (e : Ending) (w' : World) : Prop :=
  ∃ A c B d, e = .returned (.tuple #[.agg #[.slice A r.1.length c, .string ⟨r.2.1.toArray⟩, .slice B r.2.2.length d], .int .i64 (cd : Int)]) ∧ w'.ownsRow w.heap.size 50 2 (.slice A r.1.length c) r.1.length (icells r.1) ∧ r.1.length ≤ c ∧ w'.ownsRow w.heap.size 9 1 (.slice B r.2.2.length d) r.2.2.length (strv r.2.2) ∧ r.2.2.length ≤ d ∧ Below w.heap.size w w'
theorem info_page : (Tryd.prog.info? 31).map (·.size) = some 3 := by kernel_rfl
theorem load_page {W : World} {b : Nat} {cs : List Value} (h : Blk W b 31 cs.toArray) (h3 : cs.length = 3) : (loadVar 31 ⟨b, 0, none⟩).run Tryd.prog W = .ok (.agg cs.toArray) W :=
  run_loadVar_mid (P := Tryd.prog) W b 0 31 cs _ (Blk.range0 h) Tryd.underlying31 rfl (by rw [h3]; exact info_page)
theorem page_stored {w W : World} {rb : Nat} {a b c : Value} (h : Blk W rb 31 #[a, b, c]) (hB : Below w.heap.size w W) (hr : w.heap.size ≤ rb) (x y z : Value) :
    Blk (((W.setCell ⟨rb, 0, none⟩ x).setCell ⟨rb, 1, none⟩ y).setCell ⟨rb, 2, none⟩ z) rb 31 #[x, y, z] ∧ Below w.heap.size w (((W.setCell ⟨rb, 0, none⟩ x).setCell ⟨rb, 1, none⟩ y).setCell ⟨rb, 2, none⟩ z) :=
  ⟨((h.set_ 0 x).set_ 1 y).set_ 2 z, ((hB.setCell (p := ⟨rb, 0, none⟩) hr _).setCell (p := ⟨rb, 1, none⟩) hr _).setCell (p := ⟨rb, 2, none⟩) hr _⟩
theorem own_page {W : World} {rb base n size : Nat} {el : TypeId} {a b c x y z v : Value} {xs : List Value} (h : Blk W rb 31 #[a, b, c]) (own : W.ownsRow base el size v n xs) (hne : el ≠ 31) :
    (((W.setCell ⟨rb, 0, none⟩ x).setCell ⟨rb, 1, none⟩ y).setCell ⟨rb, 2, none⟩ z).ownsRow base el size v n xs := by
  have h1 : W.grownBy (((W.setCell ⟨rb, 0, none⟩ x).setCell ⟨rb, 1, none⟩ y).setCell ⟨rb, 2, none⟩ z) (some rb) := grown_set1 (grown_set1 (grown_set1 (World.grownBy.refl W (some rb)) 0 x) 1 y) 2 z
  exact own.kept h1 (.inr (own_blk_ne own h hne))
set_option maxRecDepth 100000 in
set_option maxHeartbeats 4000000 in
theorem span_Prove (w : World) (t : Trie.T) (p : Option Addr) (hT : TrieP w t (.pointer p)) (hc : Trie.count t ≤ 20000) (f e : List UInt8) (hf : f.length ≤ 1048576) (he : e.length ≤ 1048576) (m : Nat) (h1 : 1 ≤ m) (h2 : m ≤ 16) :
    Calls Tryd.prog 9 #[.pointer p, .string ⟨f.toArray⟩, .string ⟨e.toArray⟩, .int .i64 (m : Int)] w (PageEnd w ((Trie.pageW (Trie.itemsW t) f e m).1, (Trie.pageW (Trie.itemsW t) f e m).2, Trie.pageN t f e m) 0) := by
  have HP : Hid (∀ l s N A c B d w', Trie.pageW (Trie.itemsW t) f e m = (l, s) → Trie.pageN t f e m = N → w'.ownsRow w.heap.size 50 2 (.slice A l.length c) l.length (icells l) → w'.ownsRow w.heap.size 9 1 (.slice B N.length d) N.length (strv N) → Below w.heap.size w w' → PageEnd w ((Trie.pageW (Trie.itemsW t) f e m).1, (Trie.pageW (Trie.itemsW t) f e m).2, Trie.pageN t f e m) 0 (.returned (.tuple #[.agg #[.slice A l.length c, .string ⟨s.toArray⟩, .slice B N.length d], .int .i64 0])) w') := Lib.hid (fun l s N A c B d w' e1 e2 h1 h2 h3 => by
    rw [e1, e2]
    obtain ⟨_, _, x1, _, c1, _⟩ := own_form h1
    obtain ⟨_, _, x2, _, c2, _⟩ := own_form h2
    injection x1 with _ _ x1
    injection x2 with _ _ x2
    exact ⟨A, c, B, d, rfl, h1, by simp only; omega, h2, by simp only; omega, h3⟩)
  generalize PageEnd w ((Trie.pageW (Trie.itemsW t) f e m).1, (Trie.pageW (Trie.itemsW t) f e m).2, Trie.pageN t f e m) 0 = P at HP ⊢
  have HR := Lib.hid (fun W (hW : Below w.heap.size w W) => scan_Range W t p (hT.next hW) hc f e m h1 h2)
  have HN : Hid (Trie.pageN t f e m = toldW (coverW (Nib.of f) (Nib.of (Trie.upToW (Trie.pageW (Trie.itemsW t) f e m).2 e)) (Trie.upToW (Trie.pageW (Trie.itemsW t) f e m).2 e)) t) := Lib.hid rfl
  have hul : (Trie.upToW (Trie.pageW (Trie.itemsW t) f e m).2 e).length ≤ 1048576 := by
    unfold Trie.upToW
    split
    · unfold Trie.pageW
      split
      · simp
      · have := Trie.behind_le ((Trie.allIn (Trie.itemsW t) f e).getD (m - 1) ([], [])).1
        simp only; omega
    · exact he
  have HC := Lib.hid (fun W (hW : Below w.heap.size w W) => trie_Cover W t (.pointer p) (hT.next hW) hc f (Trie.upToW (Trie.pageW (Trie.itemsW t) f e m).2 e) hf hul)
  have HU := Lib.hid (fun W => span_upTo W (Trie.pageW (Trie.itemsW t) f e m).2 e)
  generalize Trie.pageN t f e m = N at *
  generalize Trie.pageW (Trie.itemsW t) f e m = pg at *
  obtain ⟨l, s⟩ := pg
  simp only at HN HC HU
  generalize Trie.upToW s e = u at *
  rw [← HN.out] at HC
  clear hT hc hf he h1 h2 hul HN
  go_enter Tryd.func9, Tryd.ntmps9
  go_upto_region 1 with fail
  obtain ⟨rb, hrb⟩ : ∃ rb, w.heap.size = rb := ⟨_, rfl⟩
  have b1 : Hid (Blk (w.alloc (.cells #[.slice none 0 0, .string ⟨#[]⟩, .slice none 0 0] 31)) rb 31 #[.slice none 0 0, .string ⟨#[]⟩, .slice none 0 0] ∧ Below w.heap.size w (w.alloc (.cells #[.slice none 0 0, .string ⟨#[]⟩, .slice none 0 0] 31)) ∧ w.heap.size ≤ rb) := Lib.hid (by subst hrb; exact ⟨Blk.new _ _ _, by go_grown, Nat.le_refl _⟩)
  try rw [hrb]
  generalize w.alloc (.cells #[.slice none 0 0, .string ⟨#[]⟩, .slice none 0 0] 31) = W1 at b1 ⊢
  clear hrb
  go_wp2_with fail
  refine (HR.out _ b1.out.2.1).mono ?_
  rintro q w2 ⟨v2, rfl, own2, hb2⟩
  obtain ⟨A2, c2, rfl, _, _, _⟩ := own_form own2
  have HB2 := Lib.hid (b1.out.2.1.nxt hb2)
  have O2 := Lib.hid (own_lower own2 b1.out.2.1.size)
  have HBk2 := Lib.hid (b1.out.1.below hb2 b1.out.1.lt)
  clear own2 hb2 HR
  go_wp2_with fail
  refine (HU.out _).mono ?_
  rintro q w3 ⟨rfl, rfl⟩
  go_wp2_with fail
  refine (HC.out _ HB2.out).mono ?_
  rintro q w4 ⟨B4, n4, c4, rfl, hn4, own4, hb4⟩
  obtain rfl := hn4
  have O4 := Lib.hid (own_lower own4 HB2.out.size)
  have O24 := Lib.hid (own_below O2.out hb4)
  have F5 : Hid (Live w w4 [(rb, 31, #[.slice none 0 0, .string ⟨#[]⟩, .slice none 0 0])]) := Lib.hid (Live.one (HB2.out.nxt hb4) b1.out.2.2 (HBk2.out.below hb4 HBk2.out.lt))
  clear own4 hb4 HC HU
  have k0 := F5.out.cell 0 0 rfl rfl
  have k1 := F5.out.cell 0 1 rfl rfl
  have k2 := F5.out.cell 0 2 rfl rfl
  have f0 := F5.out.frozen 0 0 rfl
  have f1 := F5.out.frozen 0 1 rfl
  have f2 := F5.out.frozen 0 2 rfl
  go_wp2_with fail
  obtain ⟨t1, t2⟩ := page_stored (F5.out.blk 0 rfl) F5.out.b b1.out.2.2 (.slice A2 l.length c2) (.string ⟨s.toArray⟩) (.slice B4 N.length c4)
  refine bodyPost_ret (v := .tuple #[.agg #[.slice A2 l.length c2, .string ⟨s.toArray⟩, .slice B4 N.length c4], .int .i64 0]) (results_cell2 rfl rfl (load_page t1 rfl) rfl) rfl (HP.out l s N _ _ _ _ _ rfl rfl (own_page (F5.out.blk 0 rfl) O24.out (by decide)) (own_page (F5.out.blk 0 rfl) O4.out (by decide)) t2)
end Go.Proofs.YtcjafcbekegmlaaDoor
