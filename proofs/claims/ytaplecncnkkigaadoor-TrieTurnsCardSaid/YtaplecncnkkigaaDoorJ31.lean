import Derived.Test.YtaplecncnkkigaaDoorJ28
/- Plain laws for TrieTurns: put and taken off again; two puts in either order. No program in sight. -/
namespace Go.Proofs.YtaplecncnkkigaaDoor
set_option linter.unusedVariables false
theorem length_le_sub {α : Type} [DecidableEq α] : ∀ (l m : List α), l.Nodup → (∀ x ∈ l, x ∈ m) → l.length ≤ m.length
  | [], m, _, _ => by simp
  | a :: l, m, h, hs => by
    rw [List.nodup_cons] at h
    have ha := hs a (by simp)
    have := length_le_sub l (m.erase a) h.2 (fun x hx => (List.mem_erase_of_ne (fun e => h.1 (by rw [← e]; exact hx))).2 (hs x (by simp [hx])))
    rw [List.length_erase_of_mem ha] at this
    have := List.length_pos_of_mem ha
    rw [List.length_cons]; omega
namespace Trie
theorem putCode_getW {key value : List UInt8} (h : putCode key value = 0) (t : T) : (getW t key).2 = 5 ↔ look t (Nib.of key) = [] := by
  have hk := (putCode_zero h).1
  unfold getW
  rw [if_pos hk]
  cases hl : look t (Nib.of key) <;> simp
theorem put_del {t : T} (h : Good t) {key value : List UInt8} (hc : putCode key value = 0) (hg : (getW t key).2 = 5) :
    (getW (put t (Nib.of key) value) key).2 = 0 ∧ del (put t (Nib.of key) value) (Nib.of key) = t ∧ count (put t (Nib.of key) value) = count t + 1 := by
  obtain ⟨c1, c2, c3⟩ := putCode_zero hc
  have hl := (putCode_getW hc t).1 hg
  have g := h.put c1 c2 c3
  obtain ⟨p1, p2, _⟩ := put_spec t (Nib.of key) value h.wf (Nib.fit_of key) c2
  have hat : look (put t (Nib.of key) value) (Nib.of key) = value := by rw [p2 _ (Nib.fit_of _), if_pos rfl]
  have hne : look (put t (Nib.of key) value) (Nib.of key) ≠ [] := by rw [hat]; exact c2
  obtain ⟨d1, d2, _⟩ := del_spec _ (Nib.of key) p1 (Nib.fit_of key) hne
  refine ⟨?_, unique _ t d1 h.wf (fun q hq => ?_), ?_⟩
  · unfold getW
    rw [if_pos c1, hat]
    cases value with
    | nil => exact absurd rfl c2
    | cons _ _ => rfl
  · rw [d2 q hq]
    split
    · subst_vars; exact hl.symm
    · rw [p2 q hq]
      rename_i hn
      rw [if_neg hn]
  · have h1 := count_put t (Nib.of key) value
    have hnd : ((key, value) :: itemsW t).Nodup := by
      rw [List.nodup_cons]
      refine ⟨fun hm => ?_, ?_⟩
      · have := (mem_itemsW h _ _).1 hm
        exact this.2 (this.1.symm.trans hl)
      · have hkn := keys_nodup h
        rw [List.Nodup, List.pairwise_map] at hkn
        exact hkn.imp (fun hne e => hne (by rw [e]))
    have h2 := length_le_sub _ (itemsW (put t (Nib.of key) value)) hnd (fun x hx => by
      rcases List.mem_cons.1 hx with rfl | hx
      · exact (mem_itemsW g _ _).2 ⟨hat, c2⟩
      · obtain ⟨e1, e2⟩ := (mem_itemsW h x.1 x.2).1 hx
        refine (mem_itemsW g x.1 x.2).2 ⟨?_, e2⟩
        rw [p2 _ (Nib.fit_of _), if_neg]
        · exact e1
        · intro e
          rw [e] at e1
          exact e2 (e1.symm.trans hl))
    rw [List.length_cons, itemsW_length, itemsW_length] at h2
    omega
theorem put_put {t : T} (h : Good t) {k1 v1 k2 v2 : List UInt8} (h1 : putCode k1 v1 = 0) (h2 : putCode k2 v2 = 0) (hne : k1 ≠ k2) :
    put (put t (Nib.of k1) v1) (Nib.of k2) v2 = put (put t (Nib.of k2) v2) (Nib.of k1) v1 := by
  obtain ⟨a1, a2, a3⟩ := putCode_zero h1
  obtain ⟨b1, b2, b3⟩ := putCode_zero h2
  have g1 := h.put a1 a2 a3
  have g2 := h.put b1 b2 b3
  obtain ⟨p1, p2, _⟩ := put_spec t (Nib.of k1) v1 h.wf (Nib.fit_of _) a2
  obtain ⟨q1, q2, _⟩ := put_spec t (Nib.of k2) v2 h.wf (Nib.fit_of _) b2
  obtain ⟨r1, r2, _⟩ := put_spec _ (Nib.of k2) v2 p1 (Nib.fit_of _) b2
  obtain ⟨s1, s2, _⟩ := put_spec _ (Nib.of k1) v1 q1 (Nib.fit_of _) a2
  refine unique _ _ r1 s1 (fun q hq => ?_)
  rw [r2 q hq, s2 q hq, p2 q hq, q2 q hq]
  have : Nib.of k1 ≠ Nib.of k2 := fun e => hne (Nib.of_inj e)
  by_cases e1 : q = Nib.of k1 <;> by_cases e2 : q = Nib.of k2 <;> simp_all
end Trie
end Go.Proofs.YtaplecncnkkigaaDoor

/- Layer 10's laws: TrieTurns. No conditions. -/
namespace Go.Proofs.YtaplecncnkkigaaDoor
set_option linter.unusedVariables false
open Go.RowKit Go.Instr
attribute [local go_sem] ba_get ByteArray.mk_append_mk
attribute [local go_sem ↓] Go.wp_at_zero Go.wp_at_succ


set_option maxRecDepth 100000 in
set_option maxHeartbeats 1000000 in
theorem law_TrieTurns (w : World) (A0 : Option Addr) (c0 : Nat) (L0 : List Act10) (a b : Act10) (HR0 : Reads w w.heap.size 3 A0 L0.length (acts L0)) (hT : Tbl w) :
    Calls Tryd.prog 7 #[.slice A0 L0.length c0, .agg #[.int .i64 a.kind, .string ⟨a.key.toArray⟩, .string ⟨a.value.toArray⟩], .agg #[.int .i64 b.kind, .string ⟨b.key.toArray⟩, .string ⟨b.value.toArray⟩]] w fun e w' => e = .returned (.bool true) ∧ Below w.heap.size w w' := by
  have HP : Hid (∀ w', Below w.heap.size w w' → (fun e w' => e = Ending.returned (.bool true) ∧ Below w.heap.size w w') (Ending.returned (.bool true)) w') := Lib.hid (fun W' a2 => ⟨rfl, a2⟩)
  generalize (fun e w' => e = Ending.returned (.bool true) ∧ Below w.heap.size w w') = P at HP ⊢
  obtain ⟨ak, ka, va⟩ := a
  obtain ⟨bk, kb, vb⟩ := b
  have HTb := Lib.hid hT
  have HA := Lib.hid HR0
  clear hT HR0
  have HL0 : Hid (∀ W, Below w.heap.size w W → Calls Tryd.prog 29 #[.slice A0 L0.length c0, .int .i64 30] W fun e w' => e = .returned (.bool (longW L0 30)) ∧ Below W.heap.size W w') := Lib.hid (fun W hW => law10_long W A0 c0 L0 30 ((HA.out.below hW).more hW.size) (by omega))
  go_enter Tryd.func7, Tryd.ntmps7
  go_wp2_with fail
  refine (law10_works _ (HTb.out.next (by go_grown))).mono ?_
  have bk1 := (Blk.new w 54 #[.int .i64 ak, .string ⟨ka.toArray⟩, .string ⟨va.toArray⟩]).alloc (.cells #[.int .i64 bk, .string ⟨kb.toArray⟩, .string ⟨vb.toArray⟩] 54)
  have bk2 := Blk.new (w.alloc (.cells #[.int .i64 ak, .string ⟨ka.toArray⟩, .string ⟨va.toArray⟩] 54)) 54 #[.int .i64 bk, .string ⟨kb.toArray⟩, .string ⟨vb.toArray⟩]
  rw [show (w.alloc (.cells #[.int .i64 ak, .string ⟨ka.toArray⟩, .string ⟨va.toArray⟩] 54)).heap.size = w.heap.size + 1 from Array.size_push ..] at bk2
  have hb2 : Below w.heap.size w ((w.alloc (.cells #[.int .i64 ak, .string ⟨ka.toArray⟩, .string ⟨va.toArray⟩] 54)).alloc (.cells #[.int .i64 bk, .string ⟨kb.toArray⟩, .string ⟨vb.toArray⟩] 54)) := by go_grown
  generalize (w.alloc (.cells #[.int .i64 ak, .string ⟨ka.toArray⟩, .string ⟨va.toArray⟩] 54)).alloc (.cells #[.int .i64 bk, .string ⟨kb.toArray⟩, .string ⟨vb.toArray⟩] 54) = w0 at *
  have HCells : Hid (∀ W, Below w0.heap.size w0 W → W.cell? ⟨w.heap.size, 0, none⟩ = some (.int .i64 ak) ∧ W.cell? ⟨w.heap.size, 1, none⟩ = some (.string ⟨ka.toArray⟩) ∧ W.cell? ⟨w.heap.size, 2, none⟩ = some (.string ⟨va.toArray⟩) ∧ W.cell? ⟨w.heap.size + 1, 0, none⟩ = some (.int .i64 bk) ∧ W.cell? ⟨w.heap.size + 1, 1, none⟩ = some (.string ⟨kb.toArray⟩) ∧ W.cell? ⟨w.heap.size + 1, 2, none⟩ = some (.string ⟨vb.toArray⟩)) :=
    Lib.hid (fun W hW => ⟨(bk1.below hW bk1.lt).cell 0, (bk1.below hW bk1.lt).cell 1, (bk1.below hW bk1.lt).cell 2, (bk2.below hW bk2.lt).cell 0, (bk2.below hW bk2.lt).cell 1, (bk2.below hW bk2.lt).cell 2⟩)
  have HB0 := Lib.hid hb2
  clear bk1 bk2 hb2
  rintro e w1 ⟨rfl, hb1⟩
  have HB1 : Hid (Below w0.heap.size w0 w1) := Lib.hid hb1
  clear hb1
  go_wp2_with fail
  refine (HL0.out _ (HB0.out.nxt HB1.out)).mono ?_
  rintro e w2 ⟨rfl, hb2⟩
  have HB2 := Lib.hid (HB1.out.nxt hb2)
  clear hb2
  cases hlo0 : longW L0 30 with
  | true =>
    go_wp2_with fail
    exact HP.out _ (HB0.out.nxt HB2.out)
  | false =>
  obtain ⟨e0, e1, e2, f0, f1, f2⟩ := HCells.out _ HB2.out
  go_wp2_with fail
  clear e0 e1 e2 f0 f1 f2
  have hbA : Below w2.heap.size w2 (w2.alloc (.cells #[.int .i64 ak, .string ⟨ka.toArray⟩, .string ⟨va.toArray⟩, .int .i64 bk, .string ⟨kb.toArray⟩, .string ⟨vb.toArray⟩] 54)) := by go_grown
  have HBA := Lib.hid (HB2.out.nxt hbA)
  refine (law10_long _ _ _ [⟨ak, ka, va⟩, ⟨bk, kb, vb⟩] 2 (reads_blk (Blk.new _ _ _) rfl) (by omega)).mono ?_
  rintro e w3 ⟨rfl, hb3⟩
  have HB3 := Lib.hid (HBA.out.nxt hb3)
  clear hb3 hbA HBA
  cases hlo1 : longW [⟨ak, ka, va⟩, ⟨bk, kb, vb⟩] 2 with
  | true =>
    go_wp2_with fail
    exact HP.out _ (HB0.out.nxt HB3.out)
  | false =>
  have hs0 : L0.any longA = false := by simp [longW] at hlo0 ⊢; exact hlo0.2
  have HLen : Hid (ka.length ≤ 100 ∧ va.length ≤ 100 ∧ kb.length ≤ 100 ∧ vb.length ≤ 100) := Lib.hid (by simp [longW, longA] at hlo1; omega)
  have HM0 : Hid (∀ W, Below w.heap.size w W → Calls Tryd.prog 35 #[.slice A0 L0.length c0] W (NewEnd W (Trie.madeW L0))) := Lib.hid (fun W hW => law10_made W A0 c0 L0 ((HA.out.below hW).more hW.size) hs0 (HTb.out.next hW))
  have HC0 := Lib.hid (Trie.made_count L0)
  clear hlo0 hlo1 hs0 HL0
  generalize Trie.madeW L0 = t at *
  go_wp2_with fail
  refine (HM0.out _ (HB0.out.nxt HB3.out)).mono ?_
  rintro e w4 ⟨v4, rfl, hk4, hb4⟩
  have HB4 := Lib.hid (HB3.out.nxt hb4)
  have HTt : Hid (∀ W, Below w4.heap.size w4 W → TrieP W t v4) := Lib.hid (fun W hW => hk4.next hW)
  have HTk : Hid (∀ W, Below w0.heap.size w0 W → Tbl W) := Lib.hid (fun W hW => HTb.out.next (HB0.out.nxt hW))
  clear hb4 hk4 HM0
  obtain ⟨e0, e1, e2, f0, f1, f2⟩ := HCells.out _ HB4.out
  go_wp2_with fail
  clear e0 e1 e2 f0 f1 f2
  refine (trie_Put _ t v4 (HTt.out _ (Below.refl _ _)) (by have := HC0.out.1; omega) (HTk.out _ HB4.out) ka va (by have := HLen.out; omega) (by have := HLen.out; omega)).mono ?_
  rintro e w5 ⟨v5, rfl, hb5, hk5, hn5⟩
  have HB45 := Lib.hid hb5
  have HB5 := Lib.hid (HB4.out.nxt hb5)
  clear hb5 hn5
  by_cases hpa : Trie.putCode ka va = 0
  rotate_left
  · have g1 : ((Trie.putCode ka va : Int) != 0) = true := by simp; exact hpa
    clear hk5 hpa
    generalize Trie.putCode ka va = pc at *
    go_wp2_with fail
    exact HP.out _ (HB0.out.nxt HB5.out)
  have HTn : Hid (∀ W, Below w5.heap.size w5 W → TrieP W (Trie.put t (Nib.of ka) va) v5) := Lib.hid (fun W hW => (hk5 hpa).next hW)
  have HGn : Hid (Trie.count (Trie.put t (Nib.of ka) va) ≤ 31) := Lib.hid (by have := Trie.count_put t (Nib.of ka) va; have := HC0.out.1; omega)
  have HPa := Lib.hid hpa
  rw [hpa]
  clear hk5 hpa
  obtain ⟨e0, e1, e2, f0, f1, f2⟩ := HCells.out _ HB5.out
  go_wp2_with fail
  clear e0 e1 e2 f0 f1 f2
  refine (trie_Get _ t v4 (HTt.out _ HB45.out) ka (by have := HLen.out; omega)).mono ?_
  rintro e w6 ⟨rfl, hb6⟩
  have HB46 := Lib.hid (HB45.out.nxt hb6)
  have HB56 := Lib.hid hb6
  have HB6 := Lib.hid (HB5.out.nxt hb6)
  clear hb6
  by_cases hgc : (Trie.getW t ka).2 = 5
  · obtain ⟨d1, d2, d3⟩ := Trie.put_del HC0.out.2 HPa.out hgc
    rw [hgc]
    have HD1 := Lib.hid d1
    have HD2 := Lib.hid d2
    have HD3 := Lib.hid d3
    clear hgc d1 d2 d3
    generalize (Trie.getW t ka).1 = gv at *
    obtain ⟨e0, e1, e2, f0, f1, f2⟩ := HCells.out _ HB6.out
    go_wp2_with fail
    clear e0 e1 e2 f0 f1 f2
    refine (trie_Del _ _ v5 (HTn.out _ HB56.out) (by have := HGn.out; omega) (HTk.out _ HB6.out) ka (by have := HLen.out; omega)).mono ?_
    rw [HD1.out, HD2.out]
    rintro e w7 ⟨v7, rfl, hb7, hk7, _⟩
    have HB7 := Lib.hid (HB6.out.nxt hb7)
    have HB47 := Lib.hid (HB46.out.nxt hb7)
    have HB57 := Lib.hid (HB56.out.nxt hb7)
    have HT7 := Lib.hid (hk7 rfl)
    clear hb7 hk7 HD1 HD2
    go_wp2_with fail
    refine (trie_Root _ _ _ HT7.out).mono ?_
    rintro e w8 ⟨rfl, rfl⟩
    go_wp2_with fail
    refine (trie_Root _ _ _ (HTt.out _ HB47.out)).mono ?_
    rintro e w8 ⟨rfl, rfl⟩
    go_wp2_with fail
    refine (trie_Nodes _ _ _ HT7.out (by have := HC0.out.1; omega)).mono ?_
    rintro e w8 ⟨A8, n8, k8, rfl, rfl, own8, hb8⟩
    have HB8 := Lib.hid (HB7.out.nxt hb8)
    have HB48 := Lib.hid (HB47.out.nxt hb8)
    have HB58 := Lib.hid (HB57.out.nxt hb8)
    have R8 := Lib.hid (Reads.of_own own8)
    clear hb8 own8
    go_wp2_with fail
    refine (trie_Nodes _ _ _ (HTt.out _ HB48.out) (by have := HC0.out.1; omega)).mono ?_
    rintro e w9 ⟨A9, n9, k9, rfl, rfl, own9, hb9⟩
    have HB9 := Lib.hid (HB8.out.nxt hb9)
    have HB49 := Lib.hid (HB48.out.nxt hb9)
    have HB59 := Lib.hid (HB58.out.nxt hb9)
    have R8b := Lib.hid ((R8.out.below hb9).more hb9.size)
    have R9 := Lib.hid (Reads.of_own own9)
    clear hb9 own9
    go_wp2_with fail
    refine (book_SameTexts A8 A9 _ _ _ _ _ _ _ R8b.out R9.out (by have := Trie.told_len HC0.out.2 HC0.out.1; omega) (by have := Trie.told_len HC0.out.2 HC0.out.1; omega)).mono ?_
    rw [decide_eq_true rfl]
    rintro e w10 ⟨rfl, hb10⟩
    have HB10 := Lib.hid (HB9.out.nxt hb10)
    have HB410 := Lib.hid (HB49.out.nxt hb10)
    have HB510 := Lib.hid (HB59.out.nxt hb10)
    clear hb10 R8 R8b R9
    go_wp2_with fail
    refine (trie_Len _ _ _ (HTn.out _ HB510.out)).mono ?_
    rintro e w11 ⟨rfl, rfl⟩
    rw [HD3.out]
    go_wp2_with fail
    refine (trie_Len _ _ _ (HTt.out _ HB410.out)).mono ?_
    rintro e w11 ⟨rfl, rfl⟩
    have hct : (Trie.count t : Int) + 1 ≤ 9223372036854775807 := by have := HC0.out.1; omega
    obtain ⟨e0, e1, e2, f0, f1, f2⟩ := HCells.out _ HB10.out
    go_wp2_with fail
    clear e0 e1 e2 f0 f1 f2
    refine (trie_Put _ t v4 (HTt.out _ HB410.out) (by have := HC0.out.1; omega) (HTk.out _ HB10.out) kb vb (by have := HLen.out; omega) (by have := HLen.out; omega)).mono ?_
    rintro e w14 ⟨v14, rfl, hb14, hk14, hn14⟩
    have HB14 := Lib.hid (HB10.out.nxt hb14)
    have HB5b := Lib.hid (HB510.out.nxt hb14)
    clear hb14 hn14
    by_cases hpb : Trie.putCode kb vb = 0
    rotate_left
    · have g1 : ((Trie.putCode kb vb : Int) != 0) = true := by simp; exact hpb
      clear hk14 hpb
      generalize Trie.putCode kb vb = pc at *
      go_wp2_with fail
      exact HP.out _ (HB0.out.nxt HB14.out)
    have HTm : Hid (∀ W, Below w14.heap.size w14 W → TrieP W (Trie.put t (Nib.of kb) vb) v14) := Lib.hid (fun W hW => (hk14 hpb).next hW)
    have HGm : Hid (Trie.count (Trie.put t (Nib.of kb) vb) ≤ 31) := Lib.hid (by have := Trie.count_put t (Nib.of kb) vb; have := HC0.out.1; omega)
    have HPb := Lib.hid hpb
    rw [hpb]
    clear hk14 hpb
    obtain ⟨e0, e1, e2, f0, f1, f2⟩ := HCells.out _ HB14.out
    by_cases hkk : ka = kb
    · subst hkk
      go_wp2_with fail
      exact HP.out _ (HB0.out.nxt HB14.out)
    have hkk1 : (ka == kb) = false := by simp [hkk]
    have HNE := Lib.hid hkk
    clear hkk
    go_wp2_with fail
    clear e0 e1 e2 f0 f1 f2 hkk1
    refine (trie_Put _ _ v5 (HTn.out _ HB5b.out) (by have := HGn.out; omega) (HTk.out _ HB14.out) kb vb (by have := HLen.out; omega) (by have := HLen.out; omega)).mono ?_
    rw [HPb.out]
    rintro e w15 ⟨v15, rfl, hb15, hk15, _⟩
    have HB15 := Lib.hid (HB14.out.nxt hb15)
    have HBm := Lib.hid hb15
    have HTr := Lib.hid (hk15 rfl)
    clear hb15 hk15
    obtain ⟨e0, e1, e2, f0, f1, f2⟩ := HCells.out _ HB15.out
    go_wp2_with fail
    clear e0 e1 e2 f0 f1 f2
    refine (trie_Put _ _ v14 (HTm.out _ HBm.out) (by have := HGm.out; omega) (HTk.out _ HB15.out) ka va (by have := HLen.out; omega) (by have := HLen.out; omega)).mono ?_
    rw [HPa.out, ← Trie.put_put HC0.out.2 HPa.out HPb.out HNE.out]
    rintro e w17 ⟨v17, rfl, hb17, hk17, _⟩
    have HB17 := Lib.hid (HB15.out.nxt hb17)
    have HTs := Lib.hid (hk17 rfl)
    have HTr2 := Lib.hid (HTr.out.next hb17)
    have HCn : Hid (Trie.count (Trie.put (Trie.put t (Nib.of ka) va) (Nib.of kb) vb) ≤ 32) := Lib.hid (by have := Trie.count_put (Trie.put t (Nib.of ka) va) (Nib.of kb) vb; have := HGn.out; omega)
    clear hb17 hk17 HTr
    generalize Trie.put (Trie.put t (Nib.of ka) va) (Nib.of kb) vb = u at *
    go_wp2_with fail
    refine (trie_Root _ _ _ HTr2.out).mono ?_
    rintro e w18 ⟨rfl, rfl⟩
    go_wp2_with fail
    refine (trie_Root _ _ _ HTs.out).mono ?_
    rintro e w18 ⟨rfl, rfl⟩
    go_wp2_with fail
    refine (trie_Items _ _ _ HTr2.out (by have := HCn.out; omega)).mono ?_
    rintro e w19 ⟨A19, n19, k19, rfl, rfl, own19, hb19⟩
    have HB19 := Lib.hid (HB17.out.nxt hb19)
    have HTs2 := Lib.hid (HTs.out.next hb19)
    have R19 := Lib.hid (Reads.of_own own19)
    clear hb19 own19
    go_wp2_with fail
    refine (trie_Items _ _ _ HTs2.out (by have := HCn.out; omega)).mono ?_
    rintro e w20 ⟨A20, n20, k20, rfl, rfl, own20, hb20⟩
    have HB20 := Lib.hid (HB19.out.nxt hb20)
    have R19b := Lib.hid ((R19.out.below hb20).more hb20.size)
    have R20 := Lib.hid (Reads.of_own own20)
    clear hb20 own20
    go_wp2_with fail
    refine (book_SameItems A19 A20 _ _ _ _ _ _ _ R19b.out R20.out (by rw [Trie.itemsW_length]; have := HCn.out; omega) (by rw [Trie.itemsW_length]; have := HCn.out; omega)).mono ?_
    rw [decide_eq_true rfl]
    rintro e w21 ⟨rfl, hb21⟩
    have HB21 := Lib.hid (HB20.out.nxt hb21)
    clear hb21
    go_wp2_with fail
    exact HP.out _ (HB0.out.nxt HB21.out)
  · have g1 : (((Trie.getW t ka).2 : Int) == 5) = false := by simp; omega
    clear hgc
    generalize (Trie.getW t ka).2 = gc at *
    generalize (Trie.getW t ka).1 = gv at *
    obtain ⟨e0, e1, e2, f0, f1, f2⟩ := HCells.out _ HB6.out
    go_wp2_with fail
    clear e0 e1 e2 f0 f1 f2
    refine (trie_Put _ t v4 (HTt.out _ HB46.out) (by have := HC0.out.1; omega) (HTk.out _ HB6.out) kb vb (by have := HLen.out; omega) (by have := HLen.out; omega)).mono ?_
    rintro e w14 ⟨v14, rfl, hb14, hk14, hn14⟩
    have HB14 := Lib.hid (HB6.out.nxt hb14)
    have HB5b := Lib.hid (HB56.out.nxt hb14)
    clear hb14 hn14
    by_cases hpb : Trie.putCode kb vb = 0
    rotate_left
    · have g1 : ((Trie.putCode kb vb : Int) != 0) = true := by simp; exact hpb
      clear hk14 hpb
      generalize Trie.putCode kb vb = pc at *
      go_wp2_with fail
      exact HP.out _ (HB0.out.nxt HB14.out)
    have HTm : Hid (∀ W, Below w14.heap.size w14 W → TrieP W (Trie.put t (Nib.of kb) vb) v14) := Lib.hid (fun W hW => (hk14 hpb).next hW)
    have HGm : Hid (Trie.count (Trie.put t (Nib.of kb) vb) ≤ 31) := Lib.hid (by have := Trie.count_put t (Nib.of kb) vb; have := HC0.out.1; omega)
    have HPb := Lib.hid hpb
    rw [hpb]
    clear hk14 hpb
    obtain ⟨e0, e1, e2, f0, f1, f2⟩ := HCells.out _ HB14.out
    by_cases hkk : ka = kb
    · subst hkk
      go_wp2_with fail
      exact HP.out _ (HB0.out.nxt HB14.out)
    have hkk1 : (ka == kb) = false := by simp [hkk]
    have HNE := Lib.hid hkk
    clear hkk
    go_wp2_with fail
    clear e0 e1 e2 f0 f1 f2 hkk1
    refine (trie_Put _ _ v5 (HTn.out _ HB5b.out) (by have := HGn.out; omega) (HTk.out _ HB14.out) kb vb (by have := HLen.out; omega) (by have := HLen.out; omega)).mono ?_
    rw [HPb.out]
    rintro e w15 ⟨v15, rfl, hb15, hk15, _⟩
    have HB15 := Lib.hid (HB14.out.nxt hb15)
    have HBm := Lib.hid hb15
    have HTr := Lib.hid (hk15 rfl)
    clear hb15 hk15
    obtain ⟨e0, e1, e2, f0, f1, f2⟩ := HCells.out _ HB15.out
    go_wp2_with fail
    clear e0 e1 e2 f0 f1 f2
    refine (trie_Put _ _ v14 (HTm.out _ HBm.out) (by have := HGm.out; omega) (HTk.out _ HB15.out) ka va (by have := HLen.out; omega) (by have := HLen.out; omega)).mono ?_
    rw [HPa.out, ← Trie.put_put HC0.out.2 HPa.out HPb.out HNE.out]
    rintro e w17 ⟨v17, rfl, hb17, hk17, _⟩
    have HB17 := Lib.hid (HB15.out.nxt hb17)
    have HTs := Lib.hid (hk17 rfl)
    have HTr2 := Lib.hid (HTr.out.next hb17)
    have HCn : Hid (Trie.count (Trie.put (Trie.put t (Nib.of ka) va) (Nib.of kb) vb) ≤ 32) := Lib.hid (by have := Trie.count_put (Trie.put t (Nib.of ka) va) (Nib.of kb) vb; have := HGn.out; omega)
    clear hb17 hk17 HTr
    generalize Trie.put (Trie.put t (Nib.of ka) va) (Nib.of kb) vb = u at *
    go_wp2_with fail
    refine (trie_Root _ _ _ HTr2.out).mono ?_
    rintro e w18 ⟨rfl, rfl⟩
    go_wp2_with fail
    refine (trie_Root _ _ _ HTs.out).mono ?_
    rintro e w18 ⟨rfl, rfl⟩
    go_wp2_with fail
    refine (trie_Items _ _ _ HTr2.out (by have := HCn.out; omega)).mono ?_
    rintro e w19 ⟨A19, n19, k19, rfl, rfl, own19, hb19⟩
    have HB19 := Lib.hid (HB17.out.nxt hb19)
    have HTs2 := Lib.hid (HTs.out.next hb19)
    have R19 := Lib.hid (Reads.of_own own19)
    clear hb19 own19
    go_wp2_with fail
    refine (trie_Items _ _ _ HTs2.out (by have := HCn.out; omega)).mono ?_
    rintro e w20 ⟨A20, n20, k20, rfl, rfl, own20, hb20⟩
    have HB20 := Lib.hid (HB19.out.nxt hb20)
    have R19b := Lib.hid ((R19.out.below hb20).more hb20.size)
    have R20 := Lib.hid (Reads.of_own own20)
    clear hb20 own20
    go_wp2_with fail
    refine (book_SameItems A19 A20 _ _ _ _ _ _ _ R19b.out R20.out (by rw [Trie.itemsW_length]; have := HCn.out; omega) (by rw [Trie.itemsW_length]; have := HCn.out; omega)).mono ?_
    rw [decide_eq_true rfl]
    rintro e w21 ⟨rfl, hb21⟩
    have HB21 := Lib.hid (HB20.out.nxt hb21)
    clear hb21
    go_wp2_with fail
    exact HP.out _ (HB0.out.nxt HB21.out)
end Go.Proofs.YtaplecncnkkigaaDoor
