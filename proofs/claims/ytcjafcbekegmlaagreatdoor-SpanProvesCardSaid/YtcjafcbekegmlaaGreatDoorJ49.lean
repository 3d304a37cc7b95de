import Derived.Test.YtcjafcbekegmlaaGreatDoorJ43
import Derived.Test.YtcjafcbekegmlaaGreatDoorJ32
import Derived.Test.YtcjafcbekegmlaaGreatDoorJ44
import Derived.Test.YtcjafcbekegmlaaGreatDoorJ48
set_option linter.unusedSimpArgs false
set_option linter.unusedVariables false
namespace Go.Proofs.YtcjafcbekegmlaaGreatDoor
set_option linter.unusedVariables false
open Go.RowKit Go.Instr
attribute [local go_sem] ba_get ByteArray.mk_append_mk
attribute [local go_sem ↓] Go.wp_at_zero Go.wp_at_succ
theorem reads_far {W W' : World} {size n : Nat} {A : Option Addr} {xs : List Value} {row : Option Nat} (h : Reads W W.heap.size size A n xs) (hg : W.grownBy W' row) (hne : ∀ a, A = some a → some a.block ≠ row) : Reads W' W'.heap.size size A n xs := by
  refine ⟨h.1, fun hn => ?_⟩
  obtain ⟨ad, rfl, hb, hc⟩ := h.2 hn
  refine ⟨ad, rfl, Nat.lt_of_lt_of_le hb hg.size, fun j v hv => ?_⟩
  have e := hc j v hv
  rw [← e]
  exact cell_of_heap (by rw [block_of_add]; exact hg.block _ hb (hne ad rfl))
theorem own_own_ne {w : World} {base base' : Nat} {e e' : TypeId} {size size' n n' : Nat} {v v' : Value} {xs xs' : List Value} (h : w.ownsRow base e size v n xs) (h' : w.ownsRow base' e' size' v' n' xs') (hne : e ≠ e') : v.ownBlock = none ∨ v.ownBlock ≠ v'.ownBlock := by
  rcases h'.2 with ⟨rfl, _⟩ | ⟨g, cap, cur, rfl, _, hh, _⟩
  · cases hv : v.ownBlock with
    | none => exact .inl rfl
    | some k => exact .inr (by simp [Value.ownBlock])
  · exact .inr (own_blk_ne (cs := cur) h hh hne)
theorem prove_small (w : World) (f e : List UInt8) (hf : f.length ≤ 100) (he : e.length ≤ 100) (t : Trie.T) (hg : Trie.Good t) (hc : Trie.count t ≤ 30) (most : Int) :
    ∃ (l : List Trie.KV) (s : List UInt8) (N : List (List UInt8)) (cd : Nat), l.length ≤ 30 ∧ N.length ≤ 1000 ∧
      (∀ W v, TrieP W t (.pointer v) → Calls Tryz.prog 20 #[.pointer v, .string ⟨f.toArray⟩, .string ⟨e.toArray⟩, .int .i64 most] W (PageEnd W (l, s, N) cd)) ∧
      (∀ W A c, Reads W W.heap.size 2 A (Trie.itemsW t).length (icells (Trie.itemsW t)) → Calls Tryz.prog 21 #[.slice A (Trie.itemsW t).length c, .string ⟨f.toArray⟩, .string ⟨e.toArray⟩, .int .i64 most] W (PageIEnd W (l, s, N) cd)) := by
  by_cases hm : most < 1 ∨ 16 < most
  · exact ⟨[], [], [], 1, by simp, by simp, fun W v _ => span_Prove_bad W (.pointer v) f e most hm, fun W A c _ => ref14_Prove_bad W _ f e most hm⟩
  · obtain ⟨m, rfl, h1, h2⟩ : ∃ m : Nat, most = (m : Int) ∧ 1 ≤ m ∧ m ≤ 16 := ⟨most.toNat, by omega, by omega, by omega⟩
    have hil : (Trie.itemsW t).length ≤ 30 := by rw [Trie.itemsW, List.length_map, Trie.length_items]; exact hc
    refine ⟨(Trie.pageW (Trie.itemsW t) f e m).1, (Trie.pageW (Trie.itemsW t) f e m).2, Trie.pageN t f e m, 0, ?_, (pageN_small hg hc f e m).1, fun W v hv => span_Prove W t v hv (by omega) f e (by omega) (by omega) m h1 h2, fun W A c hr => ref14_Prove W t hg (by omega) (spots_at hg (by omega)) A c _ (itemsW_len t) hr f e (by omega) (by omega) m h1 h2⟩
    have := pageW_len (Trie.itemsW t) f e m; omega
set_option maxRecDepth 100000 in
set_option maxHeartbeats 8000000 in
theorem law_SpanProves (w : World) (A0 : Option Addr) (c0 : Nat) (L : List Trie.KV) (f e : List UInt8) (most : Int) (HR0 : Reads w w.heap.size 2 A0 L.length (icells L)) (hL : ∀ x ∈ L, x.1.length ≤ 9223372036854775807 ∧ x.2.length ≤ 9223372036854775807) (hfm : f.length ≤ 9223372036854775807) (hem : e.length ≤ 9223372036854775807) (hT : Tbl w) :
    Calls Tryz.prog 4 #[.slice A0 L.length c0, .agg #[.string ⟨f.toArray⟩, .string ⟨e.toArray⟩, .int .i64 most]] w fun e w' => e = .returned (.bool true) ∧ Below w.heap.size w w' := by
  have HP : Hid (∀ w', Below w.heap.size w w' → (fun e w' => e = Ending.returned (.bool true) ∧ Below w.heap.size w w') (Ending.returned (.bool true)) w') := Lib.hid (fun W' a2 => ⟨rfl, a2⟩)
  generalize (fun e w' => e = Ending.returned (.bool true) ∧ Below w.heap.size w w') = P at HP ⊢
  have HWk := Lib.hid (fun W (hW : Below w.heap.size w W) => law14_works W (hT.next hW))
  have HSo := Lib.hid (fun W (hW : Below w.heap.size w W) => law14_some W L hL A0 c0 ((HR0.below hW).more hW.size) (hT.next hW))
  have HGd := Lib.hid (fewU_good L)
  generalize fewU L = t at *
  clear hL HR0 hT
  by_cases hf : f.length ≤ 100
  · by_cases he : e.length ≤ 100
    · obtain ⟨l, s, N, cd, hl, hN, HA, HB⟩ := prove_small w f e hf he t HGd.out.1 HGd.out.2 most
      have HA := Lib.hid HA
      have HB := Lib.hid HB
      have HlN := Lib.hid (And.intro hl hN)
      have hf1 : ((100 : Int) < f.length) = False := by simp; omega
      have he1 : ((100 : Int) < e.length) = False := by simp; omega
      have hf2 : (f.length : Int) ≤ 100 := by omega
      have he2 : (e.length : Int) ≤ 100 := by omega
      clear hf he hl hN hfm hem
      go_enter Tryz.func4, Tryz.ntmps4
      go_upto_region 1 with fail
      obtain ⟨bx, hbx⟩ : ∃ bx, w.heap.size = bx := ⟨_, rfl⟩
      have F0 : Hid (Live w (w.alloc (.cells #[.string ⟨f.toArray⟩, .string ⟨e.toArray⟩, .int .i64 most] 41)) [(bx, 41, #[.string ⟨f.toArray⟩, .string ⟨e.toArray⟩, .int .i64 most])]) := Lib.hid (by subst hbx; exact Live.one ((Below.refl _ _).alloc (Nat.le_refl _) _) (Nat.le_refl _) (Blk.new _ _ _))
      try rw [hbx]
      generalize w.alloc (.cells #[.string ⟨f.toArray⟩, .string ⟨e.toArray⟩, .int .i64 most] 41) = W0 at F0 ⊢
      clear hbx
      have k0_0 : W0.cell? ⟨bx, 0, none⟩ = some (.string ⟨f.toArray⟩) := F0.out.cell 0 0 rfl rfl; have k0_1 : W0.cell? ⟨bx, 1, none⟩ = some (.string ⟨e.toArray⟩) := F0.out.cell 0 1 rfl rfl; have k0_2 : W0.cell? ⟨bx, 2, none⟩ = some (.int .i64 most) := F0.out.cell 0 2 rfl rfl
      go_wp2_with fail
      refine (HSo.out _ F0.out.b).mono ?_
      rintro q w2 ⟨v2, A2, n2, c2, rfl, hk2, hn2, hc2, own2, hb⟩
      obtain rfl := hn2
      have F2 := Live.hb F0 hb
      have HK2 := Lib.hid hk2
      have HZ2 := Lib.hid F2.out.b.size
      have R2 := Lib.hid (Reads.of_own own2)
      clear hb F0 own2 hc2 hk2 k0_0 k0_1 k0_2 HSo
      obtain ⟨_, b2, x2, rfl, _⟩ := id HK2.out
      have k0_0 : w2.cell? ⟨bx, 0, none⟩ = some (.string ⟨f.toArray⟩) := F2.out.cell 0 0 rfl rfl; have k0_1 : w2.cell? ⟨bx, 1, none⟩ = some (.string ⟨e.toArray⟩) := F2.out.cell 0 1 rfl rfl; have k0_2 : w2.cell? ⟨bx, 2, none⟩ = some (.int .i64 most) := F2.out.cell 0 2 rfl rfl
      go_wp2_with fail
      refine (HA.out _ _ HK2.out).mono ?_
      rintro q w3 ⟨A3, c3, B3, d3, rfl, own3, hc3, ownN3, hd3, hb⟩
      have F3 := Live.hb F2 hb
      have B23 := Lib.hid hb
      have O3 := Lib.hid (And.intro own3 ownN3)
      clear hb k0_0 k0_1 k0_2 F2 own3 ownN3 hc3 hd3
      go_upto_region 7 with fail
      have F4 := Live.ha F3 #[.slice A3 l.length c3, .string ⟨s.toArray⟩, .slice B3 N.length d3] 46
      have B34 : Hid (Below w3.heap.size w3 (World.alloc w3 (.cells #[.slice A3 l.length c3, .string ⟨s.toArray⟩, .slice B3 N.length d3] 46))) := Lib.hid ((Below.refl _ w3).alloc (Nat.le_refl _) _)
      generalize World.alloc w3 _ = W4 at F4 B34 ⊢
      generalize w3.heap.size = pb at F4 ⊢
      have B24 := Lib.hid (B23.out.nxt B34.out)
      clear F3
      have k1_0 : W4.cell? ⟨bx, 0, none⟩ = some (.string ⟨f.toArray⟩) := F4.out.cell 1 0 rfl rfl; have k1_1 : W4.cell? ⟨bx, 1, none⟩ = some (.string ⟨e.toArray⟩) := F4.out.cell 1 1 rfl rfl; have k1_2 : W4.cell? ⟨bx, 2, none⟩ = some (.int .i64 most) := F4.out.cell 1 2 rfl rfl
      go_wp2_with fail
      refine (HB.out _ _ _ ((R2.out.below B24.out).more B24.out.size)).mono ?_
      rintro q w5 ⟨A5, c5, B5, d5, rfl, low5, lowN5, r5, rN5, hb⟩
      have F5 := Live.hb F4 hb
      have B45 := Lib.hid hb
      have R5 := Lib.hid (And.intro r5 rN5)
      have L5 : Hid ((∀ a, A5 = some a → w3.heap.size ≤ a.block) ∧ (∀ a, B5 = some a → w3.heap.size ≤ a.block)) := Lib.hid ⟨fun a h => Nat.le_trans B34.out.size (low5 a h), fun a h => Nat.le_trans B34.out.size (lowN5 a h)⟩
      clear hb k1_0 k1_1 k1_2 F4 r5 rN5 low5 lowN5 HB R2
      go_upto_region 8 with fail
      have F6 := Live.ha F5 #[.slice A5 l.length c5, .string ⟨s.toArray⟩, .slice B5 N.length d5] 46
      have B56 : Hid (Below w5.heap.size w5 (World.alloc w5 (.cells #[.slice A5 l.length c5, .string ⟨s.toArray⟩, .slice B5 N.length d5] 46))) := Lib.hid ((Below.refl _ w5).alloc (Nat.le_refl _) _)
      generalize World.alloc w5 _ = W6 at F6 B56 ⊢
      generalize w5.heap.size = pc at F6 ⊢
      have B36 := Lib.hid ((B34.out.nxt B45.out).nxt B56.out)
      have O6 : Hid (W6.ownsRow w2.heap.size 76 2 (.slice A3 l.length c3) l.length (icells l) ∧ W6.ownsRow w2.heap.size 9 1 (.slice B3 N.length d3) N.length (strv N)) := Lib.hid ⟨own_below O3.out.1 B36.out, own_below O3.out.2 B36.out⟩
      have R6 : Hid (Reads W6 W6.heap.size 2 A5 l.length (icells l) ∧ Reads W6 W6.heap.size 1 B5 N.length (strv N)) := Lib.hid ⟨(R5.out.1.below B56.out).more B56.out.size, (R5.out.2.below B56.out).more B56.out.size⟩
      have HS := Lib.hid (book_SamePage W6 l s N A3 A5 c3 c5 B3 B5 d3 d5 (Reads.of_own O6.out.1) R6.out.1 (Reads.of_own O6.out.2) R6.out.2 (by have := HlN.out.1; omega) (by have := HlN.out.2; omega))
      clear F5 R5
      have k0_0 : W6.cell? ⟨pc, 0, none⟩ = some (.slice A5 l.length c5) := F6.out.cell 0 0 rfl rfl; have k0_1 : W6.cell? ⟨pc, 1, none⟩ = some (.string ⟨s.toArray⟩) := F6.out.cell 0 1 rfl rfl; have k0_2 : W6.cell? ⟨pc, 2, none⟩ = some (.slice B5 N.length d5) := F6.out.cell 0 2 rfl rfl
      have k1_0 : W6.cell? ⟨pb, 0, none⟩ = some (.slice A3 l.length c3) := F6.out.cell 1 0 rfl rfl; have k1_1 : W6.cell? ⟨pb, 1, none⟩ = some (.string ⟨s.toArray⟩) := F6.out.cell 1 1 rfl rfl; have k1_2 : W6.cell? ⟨pb, 2, none⟩ = some (.slice B3 N.length d3) := F6.out.cell 1 2 rfl rfl
      have HcS := Lib.hid (HA)
      go_wp2_with fail
      refine HS.out.mono ?_
      rintro q w7 ⟨rfl, hb⟩
      have F7 := Live.hb F6 hb
      have B67 := Lib.hid hb
      clear hb k0_0 k0_1 k0_2 k1_0 k1_1 k1_2 F6 HS
      have O7 : Hid (w7.ownsRow w2.heap.size 76 2 (.slice A3 l.length c3) l.length (icells l) ∧ w7.ownsRow w2.heap.size 9 1 (.slice B3 N.length d3) N.length (strv N)) := Lib.hid ⟨own_below O6.out.1 B67.out, own_below O6.out.2 B67.out⟩
      have B37 := Lib.hid (B36.out.nxt B67.out)
      have B27 := Lib.hid (B23.out.nxt B37.out)
      have k1_0 : w7.cell? ⟨pb, 0, none⟩ = some (.slice A3 l.length c3) := F7.out.cell 1 0 rfl rfl; have k1_1 : w7.cell? ⟨pb, 1, none⟩ = some (.string ⟨s.toArray⟩) := F7.out.cell 1 1 rfl rfl; have k1_2 : w7.cell? ⟨pb, 2, none⟩ = some (.slice B3 N.length d3) := F7.out.cell 1 2 rfl rfl
      go_wp2_with fail
      refine (book_SpoilTexts2 w7 w2.heap.size B3 N.length d3 _ O7.out.2 B27.out.size (by have := HlN.out.2; omega)).mono ?_
      rintro q w8 ⟨rfl, hg8⟩
      have F8 := Live.hp F7 O7.out.2 HZ2.out (by intro x hx; simp only [List.mem_cons, List.not_mem_nil, or_false] at hx; rcases hx with rfl | rfl | rfl <;> simp) hg8
      have B28 : Hid (Below w2.heap.size w2 w8) := Lib.hid (B27.out.grown hg8 B27.out.size (fun k e => (O7.out.2.lt k e).1))
      have O8 : Hid (w8.ownsRow w2.heap.size 76 2 (.slice A3 l.length c3) l.length (icells l)) := Lib.hid (O7.out.1.kept hg8 (own_own_ne O7.out.1 O7.out.2 (by decide)))
      have K8 : Hid (∀ k, (Value.slice A3 l.length c3).ownBlock = some k ∨ (Value.slice B3 N.length d3).ownBlock = some k → k < w3.heap.size) := Lib.hid (fun k hk => by
        rcases hk with hk | hk
        · exact (O3.out.1.lt k hk).2
        · exact (O3.out.2.lt k hk).2)
      have R8 : Hid (Reads w8 w8.heap.size 2 A5 l.length (icells l) ∧ Reads w8 w8.heap.size 1 B5 N.length (strv N)) := Lib.hid ⟨reads_far ((R6.out.1.below B67.out).more B67.out.size) hg8 (fun a ha hk => by have := K8.out _ (.inr hk.symm); have := L5.out.1 a ha; omega), reads_far ((R6.out.2.below B67.out).more B67.out.size) hg8 (fun a ha hk => by have := K8.out _ (.inr hk.symm); have := L5.out.2 a ha; omega)⟩
      clear hg8 k1_0 k1_1 k1_2 F7 R6
      have k1_0 : w8.cell? ⟨pb, 0, none⟩ = some (.slice A3 l.length c3) := F8.out.cell 1 0 rfl rfl; have k1_1 : w8.cell? ⟨pb, 1, none⟩ = some (.string ⟨s.toArray⟩) := F8.out.cell 1 1 rfl rfl; have k1_2 : w8.cell? ⟨pb, 2, none⟩ = some (.slice B3 N.length d3) := F8.out.cell 1 2 rfl rfl
      go_wp2_with fail
      refine (book_SpoilItems2 w8 w2.heap.size A3 l.length c3 _ O8.out B28.out.size (by have := HlN.out.1; omega)).mono ?_
      rintro q w9 ⟨rfl, hg9⟩
      have F9 := Live.hp F8 O8.out HZ2.out (by intro x hx; simp only [List.mem_cons, List.not_mem_nil, or_false] at hx; rcases hx with rfl | rfl | rfl <;> simp) hg9
      have B29 : Hid (Below w2.heap.size w2 w9) := Lib.hid (B28.out.grown hg9 B28.out.size (fun k e => (O8.out.lt k e).1))
      have R9 : Hid (Reads w9 w9.heap.size 2 A5 l.length (icells l) ∧ Reads w9 w9.heap.size 1 B5 N.length (strv N)) := Lib.hid ⟨reads_far R8.out.1 hg9 (fun a ha hk => by have := K8.out _ (.inl hk.symm); have := L5.out.1 a ha; omega), reads_far R8.out.2 hg9 (fun a ha hk => by have := K8.out _ (.inl hk.symm); have := L5.out.2 a ha; omega)⟩
      clear hg9 k1_0 k1_1 k1_2 F8 R8 O3 O6 O7 O8 K8 L5
      have k2_0 : w9.cell? ⟨bx, 0, none⟩ = some (.string ⟨f.toArray⟩) := F9.out.cell 2 0 rfl rfl; have k2_1 : w9.cell? ⟨bx, 1, none⟩ = some (.string ⟨e.toArray⟩) := F9.out.cell 2 1 rfl rfl; have k2_2 : w9.cell? ⟨bx, 2, none⟩ = some (.int .i64 most) := F9.out.cell 2 2 rfl rfl
      have HKn := Lib.hid (HK2.out.next B29.out)
      go_wp2_with fail
      refine (HA.out _ _ HKn.out).mono ?_
      rintro q w10 ⟨A10, c10, B10, d10, rfl, own10, hc10, ownN10, hd10, hb⟩
      have F10 := Live.hb F9 hb
      have R10 := Lib.hid (And.intro (Reads.of_own own10) (Reads.of_own ownN10))
      have Q10 : Hid (Reads w10 w10.heap.size 2 A5 l.length (icells l) ∧ Reads w10 w10.heap.size 1 B5 N.length (strv N)) := Lib.hid ⟨(R9.out.1.below hb).more hb.size, (R9.out.2.below hb).more hb.size⟩
      clear hb k2_0 k2_1 k2_2 F9 own10 ownN10 hc10 hd10 R9 HA
      go_upto_region 13 with fail
      have F11 := Live.ha F10 #[.slice A10 l.length c10, .string ⟨s.toArray⟩, .slice B10 N.length d10] 46
      have B1011 : Hid (Below w10.heap.size w10 (World.alloc w10 (.cells #[.slice A10 l.length c10, .string ⟨s.toArray⟩, .slice B10 N.length d10] 46))) := Lib.hid ((Below.refl _ w10).alloc (Nat.le_refl _) _)
      generalize World.alloc w10 _ = W11 at F11 B1011 ⊢
      generalize w10.heap.size = pd at F11 ⊢
      have HS := Lib.hid (book_SamePage W11 l s N A10 A5 c10 c5 B10 B5 d10 d5 ((R10.out.1.below B1011.out).more B1011.out.size) ((Q10.out.1.below B1011.out).more B1011.out.size) ((R10.out.2.below B1011.out).more B1011.out.size) ((Q10.out.2.below B1011.out).more B1011.out.size) (by have := HlN.out.1; omega) (by have := HlN.out.2; omega))
      clear F10 R10 Q10
      have k0_0 : W11.cell? ⟨pd, 0, none⟩ = some (.slice A10 l.length c10) := F11.out.cell 0 0 rfl rfl; have k0_1 : W11.cell? ⟨pd, 1, none⟩ = some (.string ⟨s.toArray⟩) := F11.out.cell 0 1 rfl rfl; have k0_2 : W11.cell? ⟨pd, 2, none⟩ = some (.slice B10 N.length d10) := F11.out.cell 0 2 rfl rfl
      have k1_0 : W11.cell? ⟨pc, 0, none⟩ = some (.slice A5 l.length c5) := F11.out.cell 1 0 rfl rfl; have k1_1 : W11.cell? ⟨pc, 1, none⟩ = some (.string ⟨s.toArray⟩) := F11.out.cell 1 1 rfl rfl; have k1_2 : W11.cell? ⟨pc, 2, none⟩ = some (.slice B5 N.length d5) := F11.out.cell 1 2 rfl rfl
      go_wp2_with fail
      refine HS.out.mono ?_
      rintro q w12 ⟨rfl, hb⟩
      have F12 := Live.hb F11 hb
      clear hb k0_0 k0_1 k0_2 k1_0 k1_1 k1_2 F11 HS
      go_wp2_with fail
      refine (HWk.out _ F12.out.b).mono ?_
      rintro q w13 ⟨rfl, hb⟩
      have F13 := Live.hb F12 hb
      go_wp2_with fail
      exact HP.out _ F13.out.b
    · have he1 : ((100 : Int) < e.length) := by omega
      have hf1 : ((100 : Int) < f.length) = False := by simp; omega
      clear hf he HSo HGd
      go_enter Tryz.func4, Tryz.ntmps4
      go_upto_region 1 with fail
      obtain ⟨bx, hbx⟩ : ∃ bx, w.heap.size = bx := ⟨_, rfl⟩
      have F0 : Hid (Live w (w.alloc (.cells #[.string ⟨f.toArray⟩, .string ⟨e.toArray⟩, .int .i64 most] 41)) [(bx, 41, #[.string ⟨f.toArray⟩, .string ⟨e.toArray⟩, .int .i64 most])]) := Lib.hid (by subst hbx; exact Live.one ((Below.refl _ _).alloc (Nat.le_refl _) _) (Nat.le_refl _) (Blk.new _ _ _))
      try rw [hbx]
      generalize w.alloc (.cells #[.string ⟨f.toArray⟩, .string ⟨e.toArray⟩, .int .i64 most] 41) = W0 at F0 ⊢
      clear hbx
      have k0_0 : W0.cell? ⟨bx, 0, none⟩ = some (.string ⟨f.toArray⟩) := F0.out.cell 0 0 rfl rfl; have k0_1 : W0.cell? ⟨bx, 1, none⟩ = some (.string ⟨e.toArray⟩) := F0.out.cell 0 1 rfl rfl; have k0_2 : W0.cell? ⟨bx, 2, none⟩ = some (.int .i64 most) := F0.out.cell 0 2 rfl rfl
      go_wp2_with fail
      refine (HWk.out _ F0.out.b).mono ?_
      rintro q w1 ⟨rfl, hb⟩
      have F1 := Live.hb F0 hb
      clear hb F0
      go_wp2_with fail
      exact HP.out _ F1.out.b
  · have hf1 : ((100 : Int) < f.length) := by omega
    clear hf HSo HGd
    go_enter Tryz.func4, Tryz.ntmps4
    go_upto_region 1 with fail
    obtain ⟨bx, hbx⟩ : ∃ bx, w.heap.size = bx := ⟨_, rfl⟩
    have F0 : Hid (Live w (w.alloc (.cells #[.string ⟨f.toArray⟩, .string ⟨e.toArray⟩, .int .i64 most] 41)) [(bx, 41, #[.string ⟨f.toArray⟩, .string ⟨e.toArray⟩, .int .i64 most])]) := Lib.hid (by subst hbx; exact Live.one ((Below.refl _ _).alloc (Nat.le_refl _) _) (Nat.le_refl _) (Blk.new _ _ _))
    try rw [hbx]
    generalize w.alloc (.cells #[.string ⟨f.toArray⟩, .string ⟨e.toArray⟩, .int .i64 most] 41) = W0 at F0 ⊢
    clear hbx
    have k0_0 : W0.cell? ⟨bx, 0, none⟩ = some (.string ⟨f.toArray⟩) := F0.out.cell 0 0 rfl rfl; have k0_1 : W0.cell? ⟨bx, 1, none⟩ = some (.string ⟨e.toArray⟩) := F0.out.cell 0 1 rfl rfl; have k0_2 : W0.cell? ⟨bx, 2, none⟩ = some (.int .i64 most) := F0.out.cell 0 2 rfl rfl
    go_wp2_with fail
    refine (HWk.out _ F0.out.b).mono ?_
    rintro q w1 ⟨rfl, hb⟩
    have F1 := Live.hb F0 hb
    clear hb F0
    go_wp2_with fail
    exact HP.out _ F1.out.b
end Go.Proofs.YtcjafcbekegmlaaGreatDoor
