import Derived.Test.YtcjafcbekegmlaaGreatDoorJ42
import Derived.Test.YtcjafcbekegmlaaGreatDoorJ41
import Derived.Test.YtcjafcbekegmlaaGreatDoorJ15
import Derived.Test.YtcjafcbekegmlaaGreatDoorJ27
import Derived.Test.YtcjafcbekegmlaaGreatDoorJ32
import Derived.Test.YtcjafcbekegmlaaGreatDoorJ40
import Derived.Test.YtcjafcbekegmlaaGreatDoorJ37
import Derived.Test.YtcjafcbekegmlaaGreatDoorJ38
set_option linter.unusedSimpArgs false
set_option linter.unusedVariables false
namespace Go.Proofs.YtcjafcbekegmlaaGreatDoor
set_option linter.unusedVariables false
open Go.RowKit Go.Instr
attribute [local go_sem] ba_get ByteArray.mk_append_mk
attribute [local go_sem ↓] Go.wp_at_zero Go.wp_at_succ
def PageEnd (w : World) (r : List Trie.KV × List UInt8 × List (List UInt8)) (cd : Nat) (e : Ending) (w' : World) : Prop :=
  ∃ A c B d, e = .returned (.tuple #[.agg #[.slice A r.1.length c, .string ⟨r.2.1.toArray⟩, .slice B r.2.2.length d], .int .i64 (cd : Int)]) ∧ w'.ownsRow w.heap.size 76 2 (.slice A r.1.length c) r.1.length (icells r.1) ∧ r.1.length ≤ c ∧ w'.ownsRow w.heap.size 9 1 (.slice B r.2.2.length d) r.2.2.length (strv r.2.2) ∧ r.2.2.length ≤ d ∧ Below w.heap.size w w'
theorem info_page : (Tryz.prog.info? 46).map (·.size) = some 3 := by kernel_rfl
theorem load_page {W : World} {b : Nat} {cs : List Value} (h : Blk W b 46 cs.toArray) (h3 : cs.length = 3) : (loadVar 46 ⟨b, 0, none⟩).run Tryz.prog W = .ok (.agg cs.toArray) W :=
  run_loadVar_mid (P := Tryz.prog) W b 0 46 cs _ (Blk.range0 h) Tryz.underlying46 rfl (by rw [h3]; exact info_page)
theorem page_stored {w W : World} {rb : Nat} {a b c : Value} (h : Blk W rb 46 #[a, b, c]) (hB : Below w.heap.size w W) (hr : w.heap.size ≤ rb) (x y z : Value) :
    Blk (((W.setCell ⟨rb, 0, none⟩ x).setCell ⟨rb, 1, none⟩ y).setCell ⟨rb, 2, none⟩ z) rb 46 #[x, y, z] ∧ Below w.heap.size w (((W.setCell ⟨rb, 0, none⟩ x).setCell ⟨rb, 1, none⟩ y).setCell ⟨rb, 2, none⟩ z) :=
  ⟨((h.set_ 0 x).set_ 1 y).set_ 2 z, ((hB.setCell (p := ⟨rb, 0, none⟩) hr _).setCell (p := ⟨rb, 1, none⟩) hr _).setCell (p := ⟨rb, 2, none⟩) hr _⟩
theorem own_page {W : World} {rb base n size : Nat} {el : TypeId} {a b c x y z v : Value} {xs : List Value} (h : Blk W rb 46 #[a, b, c]) (own : W.ownsRow base el size v n xs) (hne : el ≠ 46) :
    (((W.setCell ⟨rb, 0, none⟩ x).setCell ⟨rb, 1, none⟩ y).setCell ⟨rb, 2, none⟩ z).ownsRow base el size v n xs := by
  have h1 : W.grownBy (((W.setCell ⟨rb, 0, none⟩ x).setCell ⟨rb, 1, none⟩ y).setCell ⟨rb, 2, none⟩ z) (some rb) := grown_set1 (grown_set1 (grown_set1 (World.grownBy.refl W (some rb)) 0 x) 1 y) 2 z
  exact own.kept h1 (.inr (own_blk_ne own h hne))
set_option maxRecDepth 100000 in
set_option maxHeartbeats 2000000 in
theorem span_Prove_bad (w : World) (v : Value) (f e : List UInt8) (most : Int) (h : most < 1 ∨ 16 < most) :
    Calls Tryz.prog 20 #[v, .string ⟨f.toArray⟩, .string ⟨e.toArray⟩, .int .i64 most] w (PageEnd w ([], [], []) 1) := by
  have HP : Hid (∀ w', Below w.heap.size w w' → PageEnd w ([], [], []) 1 (.returned (.tuple #[.agg #[.slice none 0 0, .string ⟨#[]⟩, .slice none 0 0], .int .i64 1])) w') := Lib.hid (fun w' h => ⟨none, 0, none, 0, rfl, World.ownsRow_nil _ _ _ _, Nat.le_refl _, World.ownsRow_nil _ _ _ _, Nat.le_refl _, h⟩)
  generalize PageEnd w ([], [], []) 1 = P at HP ⊢
  have HR := Lib.hid (fun W => scan_Range_bad W v ⟨f.toArray⟩ ⟨e.toArray⟩ most h)
  clear h
  go_enter Tryz.func20, Tryz.ntmps20
  go_upto_region 1 with fail
  obtain ⟨rb, hrb⟩ : ∃ rb, w.heap.size = rb := ⟨_, rfl⟩
  have b1 : Hid (Blk (w.alloc (.cells #[.slice none 0 0, .string ⟨#[]⟩, .slice none 0 0] 46)) rb 46 #[.slice none 0 0, .string ⟨#[]⟩, .slice none 0 0] ∧ Below w.heap.size w (w.alloc (.cells #[.slice none 0 0, .string ⟨#[]⟩, .slice none 0 0] 46)) ∧ w.heap.size ≤ rb) := Lib.hid (by subst hrb; exact ⟨Blk.new _ _ _, by go_grown, Nat.le_refl _⟩)
  try rw [hrb]
  generalize w.alloc (.cells #[.slice none 0 0, .string ⟨#[]⟩, .slice none 0 0] 46) = W1 at b1 ⊢
  clear hrb
  go_wp2_with fail
  refine (HR.out _).mono ?_
  rintro q w2 ⟨v2, rfl, own2, hb2⟩
  have F5 : Hid (Live w w2 [(rb, 46, #[.slice none 0 0, .string ⟨#[]⟩, .slice none 0 0])]) := Lib.hid (Live.one (b1.out.2.1.nxt hb2) b1.out.2.2 (b1.out.1.below hb2 b1.out.1.lt))
  obtain ⟨A2, c2, rfl, _, _, _⟩ := own_form own2
  clear own2 hb2
  have k0 := F5.out.cell 0 0 rfl rfl
  have k1 := F5.out.cell 0 1 rfl rfl
  have k2 := F5.out.cell 0 2 rfl rfl
  have f0 := F5.out.frozen 0 0 rfl
  have f1 := F5.out.frozen 0 1 rfl
  have f2 := F5.out.frozen 0 2 rfl
  go_wp2_with fail
  obtain ⟨t1, t2⟩ := page_stored (F5.out.blk 0 rfl) F5.out.b b1.out.2.2 (.slice none 0 0) (.string ⟨#[]⟩) (.slice none 0 0)
  refine bodyPost_ret (v := .tuple #[.agg #[.slice none 0 0, .string ⟨#[]⟩, .slice none 0 0], .int .i64 1]) (results_cell2 rfl rfl (load_page t1 rfl) rfl) rfl (HP.out _ t2)
set_option maxRecDepth 100000 in
set_option maxHeartbeats 4000000 in
theorem span_Prove (w : World) (t : Trie.T) (p : Option Addr) (hT : TrieP w t (.pointer p)) (hc : Trie.count t ≤ 20000) (f e : List UInt8) (hf : f.length ≤ 1048576) (he : e.length ≤ 1048576) (m : Nat) (h1 : 1 ≤ m) (h2 : m ≤ 16) :
    Calls Tryz.prog 20 #[.pointer p, .string ⟨f.toArray⟩, .string ⟨e.toArray⟩, .int .i64 (m : Int)] w (PageEnd w ((Trie.pageW (Trie.itemsW t) f e m).1, (Trie.pageW (Trie.itemsW t) f e m).2, Trie.pageN t f e m) 0) := by
  have HP : Hid (∀ l s N A c B d w', Trie.pageW (Trie.itemsW t) f e m = (l, s) → Trie.pageN t f e m = N → w'.ownsRow w.heap.size 76 2 (.slice A l.length c) l.length (icells l) → w'.ownsRow w.heap.size 9 1 (.slice B N.length d) N.length (strv N) → Below w.heap.size w w' → PageEnd w ((Trie.pageW (Trie.itemsW t) f e m).1, (Trie.pageW (Trie.itemsW t) f e m).2, Trie.pageN t f e m) 0 (.returned (.tuple #[.agg #[.slice A l.length c, .string ⟨s.toArray⟩, .slice B N.length d], .int .i64 0])) w') := Lib.hid (fun l s N A c B d w' e1 e2 h1 h2 h3 => by
    rw [e1, e2]
    obtain ⟨_, _, x1, _, c1, _⟩ := own_form h1
    obtain ⟨_, _, x2, _, c2, _⟩ := own_form h2
    injection x1 with _ _ x1
    injection x2 with _ _ x2
    exact ⟨A, c, B, d, rfl, h1, by simp only; omega, h2, by simp only; omega, h3⟩)
  generalize PageEnd w ((Trie.pageW (Trie.itemsW t) f e m).1, (Trie.pageW (Trie.itemsW t) f e m).2, Trie.pageN t f e m) 0 = P at HP ⊢
  have HR := Lib.hid (fun W (hW : Below w.heap.size w W) => scan_Range W t p (hT.next hW) hc f e m h1 h2)
  have HN : Hid (Trie.pageN t f e m = toldW (coverW (Nib.of f) (Nib.of (Trie.upToW (Trie.pageW (Trie.itemsW t) f e m).2 e)) (Trie.upToW (Trie.pageW (Trie.itemsW t) f e m).2 e)) t) := Lib.hid rfl
  have hul : (Trie.upToW (Trie.pageW (Trie.itemsW t) f e m).2 e).length ≤ 1048576 := by
    unfold Trie.upToW
    split
    · unfold Trie.pageW
      split
      · simp
      · have := Trie.behind_le ((Trie.allIn (Trie.itemsW t) f e).getD (m - 1) ([], [])).1
        simp only; omega
    · exact he
  have HC := Lib.hid (fun W (hW : Below w.heap.size w W) => trie_Cover W t (.pointer p) (hT.next hW) hc f (Trie.upToW (Trie.pageW (Trie.itemsW t) f e m).2 e) hf hul)
  have HU := Lib.hid (fun W => span_upTo W (Trie.pageW (Trie.itemsW t) f e m).2 e)
  generalize Trie.pageN t f e m = N at *
  generalize Trie.pageW (Trie.itemsW t) f e m = pg at *
  obtain ⟨l, s⟩ := pg
  simp only at HN HC HU
  generalize Trie.upToW s e = u at *
  rw [← HN.out] at HC
  clear hT hc hf he h1 h2 hul HN
  go_enter Tryz.func20, Tryz.ntmps20
  go_upto_region 1 with fail
  obtain ⟨rb, hrb⟩ : ∃ rb, w.heap.size = rb := ⟨_, rfl⟩
  have b1 : Hid (Blk (w.alloc (.cells #[.slice none 0 0, .string ⟨#[]⟩, .slice none 0 0] 46)) rb 46 #[.slice none 0 0, .string ⟨#[]⟩, .slice none 0 0] ∧ Below w.heap.size w (w.alloc (.cells #[.slice none 0 0, .string ⟨#[]⟩, .slice none 0 0] 46)) ∧ w.heap.size ≤ rb) := Lib.hid (by subst hrb; exact ⟨Blk.new _ _ _, by go_grown, Nat.le_refl _⟩)
  try rw [hrb]
  generalize w.alloc (.cells #[.slice none 0 0, .string ⟨#[]⟩, .slice none 0 0] 46) = W1 at b1 ⊢
  clear hrb
  go_wp2_with fail
  refine (HR.out _ b1.out.2.1).mono ?_
  rintro q w2 ⟨v2, rfl, own2, hb2⟩
  obtain ⟨A2, c2, rfl, _, _, _⟩ := own_form own2
  have HB2 := Lib.hid (b1.out.2.1.nxt hb2)
  have O2 := Lib.hid (own_lower own2 b1.out.2.1.size)
  have HBk2 := Lib.hid (b1.out.1.below hb2 b1.out.1.lt)
  clear own2 hb2 HR
  go_wp2_with fail
  refine (HU.out _).mono ?_
  rintro q w3 ⟨rfl, rfl⟩
  go_wp2_with fail
  refine (HC.out _ HB2.out).mono ?_
  rintro q w4 ⟨B4, n4, c4, rfl, hn4, own4, hb4⟩
  obtain rfl := hn4
  have O4 := Lib.hid (own_lower own4 HB2.out.size)
  have O24 := Lib.hid (own_below O2.out hb4)
  have F5 : Hid (Live w w4 [(rb, 46, #[.slice none 0 0, .string ⟨#[]⟩, .slice none 0 0])]) := Lib.hid (Live.one (HB2.out.nxt hb4) b1.out.2.2 (HBk2.out.below hb4 HBk2.out.lt))
  clear own4 hb4 HC HU
  have k0 := F5.out.cell 0 0 rfl rfl
  have k1 := F5.out.cell 0 1 rfl rfl
  have k2 := F5.out.cell 0 2 rfl rfl
  have f0 := F5.out.frozen 0 0 rfl
  have f1 := F5.out.frozen 0 1 rfl
  have f2 := F5.out.frozen 0 2 rfl
  go_wp2_with fail
  obtain ⟨t1, t2⟩ := page_stored (F5.out.blk 0 rfl) F5.out.b b1.out.2.2 (.slice A2 l.length c2) (.string ⟨s.toArray⟩) (.slice B4 N.length c4)
  refine bodyPost_ret (v := .tuple #[.agg #[.slice A2 l.length c2, .string ⟨s.toArray⟩, .slice B4 N.length c4], .int .i64 0]) (results_cell2 rfl rfl (load_page t1 rfl) rfl) rfl (HP.out l s N _ _ _ _ _ rfl rfl (own_page (F5.out.blk 0 rfl) O24.out (by decide)) (own_page (F5.out.blk 0 rfl) O4.out (by decide)) t2)
end Go.Proofs.YtcjafcbekegmlaaGreatDoor

namespace Go.Proofs.YtcjafcbekegmlaaGreatDoor
set_option linter.unusedVariables false
open Go.RowKit Go.Instr
attribute [local go_sem] ba_get ByteArray.mk_append_mk
attribute [local go_sem ↓] Go.wp_at_zero Go.wp_at_succ
def PageIEnd (w : World) (r : List Trie.KV × List UInt8 × List (List UInt8)) (cd : Nat) (e : Ending) (w' : World) : Prop :=
  ∃ A c B d, e = .returned (.tuple #[.agg #[.slice A r.1.length c, .string ⟨r.2.1.toArray⟩, .slice B r.2.2.length d], .int .i64 (cd : Int)]) ∧ (∀ a, A = some a → w.heap.size ≤ a.block) ∧ (∀ a, B = some a → w.heap.size ≤ a.block) ∧ Reads w' w'.heap.size 2 A r.1.length (icells r.1) ∧ Reads w' w'.heap.size 1 B r.2.2.length (strv r.2.2) ∧ Below w.heap.size w w'
theorem reads_apart {W : World} {B size n rb k : Nat} {A : Option Addr} {xs : List Value} (h : Reads W B size A n xs) (hne : ∀ a, A = some a → rb ≠ a.block) (u : Value) : Reads (W.setCell ⟨rb, k, none⟩ u) B size A n xs := by
  refine ⟨h.1, fun hn => ?_⟩
  obtain ⟨ad, rfl, hb, hc⟩ := h.2 hn
  refine ⟨ad, rfl, hb, fun j v hv => ?_⟩
  rw [World.cell?_setCell_other W ⟨rb, k, none⟩ (ad.add j) u (fun e => hne ad rfl (by rw [← block_of_add ad j, ← e]))]
  exact hc j v hv
set_option maxRecDepth 100000 in
set_option maxHeartbeats 2000000 in
theorem ref14_Prove_bad (w : World) (v : Value) (f e : List UInt8) (most : Int) (h : most < 1 ∨ 16 < most) :
    Calls Tryz.prog 21 #[v, .string ⟨f.toArray⟩, .string ⟨e.toArray⟩, .int .i64 most] w (PageIEnd w ([], [], []) 1) := by
  have HP : Hid (∀ w', Below w.heap.size w w' → PageIEnd w ([], [], []) 1 (.returned (.tuple #[.agg #[.slice none 0 0, .string ⟨#[]⟩, .slice none 0 0], .int .i64 1])) w') := Lib.hid (fun w' h => ⟨none, 0, none, 0, rfl, (fun a h => by cases h), (fun a h => by cases h), Reads.none_, Reads.none_, h⟩)
  generalize PageIEnd w ([], [], []) 1 = P at HP ⊢
  have HR := Lib.hid (fun W => ref11_Range_bad W v f e most h)
  clear h
  go_enter Tryz.func21, Tryz.ntmps21
  go_upto_region 1 with fail
  obtain ⟨rb, hrb⟩ : ∃ rb, w.heap.size = rb := ⟨_, rfl⟩
  have b1 : Hid (Blk (w.alloc (.cells #[.slice none 0 0, .string ⟨#[]⟩, .slice none 0 0] 46)) rb 46 #[.slice none 0 0, .string ⟨#[]⟩, .slice none 0 0] ∧ Below w.heap.size w (w.alloc (.cells #[.slice none 0 0, .string ⟨#[]⟩, .slice none 0 0] 46)) ∧ w.heap.size ≤ rb) := Lib.hid ⟨by subst hrb; exact Blk.new _ _ _, (Below.refl _ _).alloc (Nat.le_refl _) _, by omega⟩
  try rw [hrb]
  generalize w.alloc (.cells #[.slice none 0 0, .string ⟨#[]⟩, .slice none 0 0] 46) = W1 at b1 ⊢
  clear hrb
  go_wp2_with fail
  refine (HR.out _).mono ?_
  rintro q w2 ⟨A2, c2, rfl, _, _, _, hb2⟩
  have F5 : Hid (Live w w2 [(rb, 46, #[.slice none 0 0, .string ⟨#[]⟩, .slice none 0 0])]) := Lib.hid (Live.one (b1.out.2.1.nxt hb2) b1.out.2.2 (b1.out.1.below hb2 b1.out.1.lt))
  clear hb2
  have k0 := F5.out.cell 0 0 rfl rfl
  have k1 := F5.out.cell 0 1 rfl rfl
  have k2 := F5.out.cell 0 2 rfl rfl
  have f0 := F5.out.frozen 0 0 rfl
  have f1 := F5.out.frozen 0 1 rfl
  have f2 := F5.out.frozen 0 2 rfl
  go_wp2_with fail
  obtain ⟨t1, t2⟩ := page_stored (F5.out.blk 0 rfl) F5.out.b b1.out.2.2 (.slice none 0 0) (.string ⟨#[]⟩) (.slice none 0 0)
  refine bodyPost_ret (v := .tuple #[.agg #[.slice none 0 0, .string ⟨#[]⟩, .slice none 0 0], .int .i64 1]) (results_cell2 rfl rfl (load_page t1 rfl) rfl) rfl (HP.out _ t2)
set_option maxRecDepth 100000 in
set_option maxHeartbeats 4000000 in
theorem ref14_Prove (w : World) (t : Trie.T) (h : Trie.Good t) (hct : Trie.count t ≤ 2000) (hD : (Trie.goT allW t []).length ≤ 100000 ∧ ∀ x ∈ Trie.goT allW t [], x.1.length ≤ 1000) (A : Option Addr) (cp n : Nat) (hn : n = Trie.count t) (HR : Reads w w.heap.size 2 A n (icells (Trie.itemsW t))) (f e : List UInt8) (hf : f.length ≤ 1000) (he : e.length ≤ 1000) (m : Nat) (h1 : 1 ≤ m) (h2 : m ≤ 16) :
    Calls Tryz.prog 21 #[.slice A n cp, .string ⟨f.toArray⟩, .string ⟨e.toArray⟩, .int .i64 (m : Int)] w (PageIEnd w ((Trie.pageW (Trie.itemsW t) f e m).1, (Trie.pageW (Trie.itemsW t) f e m).2, Trie.pageN t f e m) 0) := by
  have HP : Hid (∀ l s N A c B d w', Trie.pageW (Trie.itemsW t) f e m = (l, s) → Trie.pageN t f e m = N → (∀ a, A = some a → w.heap.size ≤ a.block) → (∀ a, B = some a → w.heap.size ≤ a.block) → Reads w' w'.heap.size 2 A l.length (icells l) → Reads w' w'.heap.size 1 B N.length (strv N) → Below w.heap.size w w' → PageIEnd w ((Trie.pageW (Trie.itemsW t) f e m).1, (Trie.pageW (Trie.itemsW t) f e m).2, Trie.pageN t f e m) 0 (.returned (.tuple #[.agg #[.slice A l.length c, .string ⟨s.toArray⟩, .slice B N.length d], .int .i64 0])) w') := Lib.hid (fun l s N A c B d w' e1 e2 y1 y2 x1 x2 x3 => by
    rw [e1, e2]
    exact ⟨A, c, B, d, rfl, y1, y2, x1, x2, x3⟩)
  generalize PageIEnd w ((Trie.pageW (Trie.itemsW t) f e m).1, (Trie.pageW (Trie.itemsW t) f e m).2, Trie.pageN t f e m) 0 = P at HP ⊢
  have hnl : n = (Trie.itemsW t).length := by rw [hn, itemsW_len]
  have HRg := Lib.hid (fun W (hW : Below w.heap.size w W) => ref11_Range W (Trie.itemsW t) A cp (by rw [← hnl]; exact (HR.below hW).more hW.size) (by omega) f e m h1 h2)
  have HSp := Lib.hid (fun W (hW : Below w.heap.size w W) => ref10_Spots W t h hct A cp n hn ((HR.below hW).more hW.size))
  have hul : (Trie.upToW (Trie.pageW (Trie.itemsW t) f e m).2 e).length ≤ 1000 := by
    unfold Trie.upToW
    split
    · unfold Trie.pageW
      split
      · simp
      · have := Trie.behind_le ((Trie.allIn (Trie.itemsW t) f e).getD (m - 1) ([], [])).1
        simp only; omega
    · exact he
  have HC := Lib.hid (fun W A c (hr : Reads W W.heap.size 22 A (Trie.goT allW t []).length (spv (Trie.goT allW t []))) => ref10_Cover W _ hD.1 hD.2 f (Trie.upToW (Trie.pageW (Trie.itemsW t) f e m).2 e) (by omega) (by omega) A c hr)
  have HN : Hid (Trie.pageN t f e m = textsD ((Trie.goT allW t []).filter fun x => coverW (Nib.of f) (Nib.of (Trie.upToW (Trie.pageW (Trie.itemsW t) f e m).2 e)) (Trie.upToW (Trie.pageW (Trie.itemsW t) f e m).2 e) x.1)) := Lib.hid (by unfold Trie.pageN; rw [told_filter _ (cover_closed _ _ _)])
  have HU := Lib.hid (fun W => ref14_UpTo W (Trie.pageW (Trie.itemsW t) f e m).2 e)
  rw [← hnl] at HRg
  generalize Trie.pageN t f e m = N at *
  generalize Trie.pageW (Trie.itemsW t) f e m = pg at *
  obtain ⟨l, s⟩ := pg
  simp only at HN HC HU
  generalize Trie.upToW s e = u at *
  rw [← HN.out] at HC
  generalize Trie.goT allW t [] = D at *
  clear HR h hct hD hn hnl hf he h1 h2 hul HN
  go_enter Tryz.func21, Tryz.ntmps21
  go_upto_region 1 with fail
  obtain ⟨rb, hrb⟩ : ∃ rb, w.heap.size = rb := ⟨_, rfl⟩
  have b1 : Hid (Blk (w.alloc (.cells #[.slice none 0 0, .string ⟨#[]⟩, .slice none 0 0] 46)) rb 46 #[.slice none 0 0, .string ⟨#[]⟩, .slice none 0 0] ∧ Below w.heap.size w (w.alloc (.cells #[.slice none 0 0, .string ⟨#[]⟩, .slice none 0 0] 46)) ∧ w.heap.size ≤ rb) := Lib.hid ⟨by subst hrb; exact Blk.new _ _ _, (Below.refl _ _).alloc (Nat.le_refl _) _, by omega⟩
  try rw [hrb]
  generalize w.alloc (.cells #[.slice none 0 0, .string ⟨#[]⟩, .slice none 0 0] 46) = W1 at b1 ⊢
  clear hrb
  go_wp2_with fail
  refine (HRg.out _ b1.out.2.1).mono ?_
  rintro q w2 ⟨A2, c2, rfl, _, hlow2, r2, hb2⟩
  have HB2 := Lib.hid (b1.out.2.1.nxt hb2)
  have HL2 : Hid (∀ a, A2 = some a → rb ≠ a.block) := Lib.hid (fun a ha => by have := hlow2 a ha; have := b1.out.1.lt; omega)
  have HW2 : Hid (∀ a, A2 = some a → w.heap.size ≤ a.block) := Lib.hid (fun a ha => by have := hlow2 a ha; have := b1.out.2.1.size; omega)
  have HBk2 := Lib.hid (b1.out.1.below hb2 b1.out.1.lt)
  have R2 := Lib.hid r2
  clear hb2 HRg hlow2 r2
  go_wp2_with fail
  refine (HSp.out _ HB2.out).mono ?_
  rintro q w3 ⟨A3, c3, n3, rfl, hn3, own3, hb3⟩
  obtain rfl := hn3
  have HB3 := Lib.hid (HB2.out.nxt hb3)
  have HBk3 := Lib.hid (HBk2.out.below hb3 HBk2.out.lt)
  have R3 := Lib.hid ((R2.out.below hb3).more hb3.size)
  have R3s := Lib.hid (Reads.of_own own3)
  clear hb3 own3 HSp R2 HBk2
  go_wp2_with fail
  refine (HU.out _).mono ?_
  rintro q w4 ⟨rfl, hb4⟩
  have HB4 := Lib.hid (HB3.out.nxt hb4)
  have HBk4 := Lib.hid (HBk3.out.below hb4 HBk3.out.lt)
  have R4 := Lib.hid ((R3.out.below hb4).more hb4.size)
  have R4s := Lib.hid ((R3s.out.below hb4).more hb4.size)
  clear hb4 HU R3 R3s HBk3
  go_wp2_with fail
  refine (HC.out _ _ _ R4s.out).mono ?_
  rintro q w5 ⟨B5, n5, c5, rfl, hn5, own5, hb5⟩
  obtain rfl := hn5
  have F5 : Hid (Live w w5 [(rb, 46, #[.slice none 0 0, .string ⟨#[]⟩, .slice none 0 0])]) := Lib.hid (Live.one (HB4.out.nxt hb5) b1.out.2.2 (HBk4.out.below hb5 HBk4.out.lt))
  have R5 := Lib.hid ((R4.out.below hb5).more hb5.size)
  obtain ⟨_, _, x5, _, _, hlow5⟩ := own_form own5
  injection x5 with x5a _ x5c
  subst x5a
  subst x5c
  have HL5 : Hid (∀ a, B5 = some a → rb ≠ a.block) := Lib.hid (fun a ha => by have := hlow5 a ha; have := HBk4.out.lt; omega)
  have HW5 : Hid (∀ a, B5 = some a → w.heap.size ≤ a.block) := Lib.hid (fun a ha => by have := hlow5 a ha; have := HB4.out.size; omega)
  have R5n := Lib.hid (Reads.of_own own5)
  clear own5 hb5 HC hlow5
  have k0 := F5.out.cell 0 0 rfl rfl
  have k1 := F5.out.cell 0 1 rfl rfl
  have k2 := F5.out.cell 0 2 rfl rfl
  have f0 := F5.out.frozen 0 0 rfl
  have f1 := F5.out.frozen 0 1 rfl
  have f2 := F5.out.frozen 0 2 rfl
  go_wp2_with fail
  obtain ⟨t1, t2⟩ := page_stored (F5.out.blk 0 rfl) F5.out.b b1.out.2.2 (.slice A2 l.length c2) (.string ⟨s.toArray⟩) (.slice B5 N.length c5)
  refine bodyPost_ret (v := .tuple #[.agg #[.slice A2 l.length c2, .string ⟨s.toArray⟩, .slice B5 N.length c5], .int .i64 0]) (results_cell2 rfl rfl (load_page t1 rfl) rfl) rfl (HP.out l s N _ _ _ _ _ rfl rfl HW2.out HW5.out ?_ ?_ t2)
  · have := reads_apart (k := 2) (reads_apart (k := 1) (reads_apart (k := 0) R5.out HL2.out (.slice A2 l.length c2)) HL2.out (.string ⟨s.toArray⟩)) HL2.out (.slice B5 N.length c5)
    exact this.more (by simp [World.setCell])
  · have := reads_apart (k := 2) (reads_apart (k := 1) (reads_apart (k := 0) R5n.out HL5.out (.slice A2 l.length c2)) HL5.out (.string ⟨s.toArray⟩)) HL5.out (.slice B5 N.length c5)
    exact this.more (by simp [World.setCell])
end Go.Proofs.YtcjafcbekegmlaaGreatDoor
