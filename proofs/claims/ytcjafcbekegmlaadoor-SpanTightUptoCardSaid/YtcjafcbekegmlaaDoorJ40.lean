import Derived.Test.YtcjafcbekegmlaaDoorJ39
set_option linter.unusedSimpArgs false
set_option linter.unusedVariables false
namespace Go.Proofs.YtcjafcbekegmlaaDoor
set_option linter.unusedVariables false
open Go.RowKit Go.Instr
attribute [local go_sem] ba_get ByteArray.mk_append_mk
attribute [local go_sem ↓] Go.wp_at_zero Go.wp_at_succ
theorem sumT_ne {t : Trie.T} (h : Trie.sumT t ≠ []) : t ≠ .nil := by rintro rfl; exact h rfl
theorem behind_next (L : List Trie.KV) (f e : List UInt8) (m : Nat) : (Trie.pageW L f e m).2.length ≤ 8 := by
  unfold Trie.pageW
  split
  · simp
  · exact Trie.behind_le _
theorem reads_one (w : World) (t : Nat) (x : Value) : Reads (w.alloc (.cells #[x] t)) (w.alloc (.cells #[x] t)).heap.size 1 (some ⟨w.heap.size, 0, none⟩) 1 [x] := by
  refine ⟨rfl, fun _ => ⟨_, rfl, (Blk.new w t #[x]).lt, fun j u hu => ?_⟩⟩
  have : (⟨w.heap.size, 0, none⟩ : Addr).add j = ⟨w.heap.size, j, none⟩ := by
    simp only [Addr.add, Nat.zero_add]
    split <;> simp_all
  rw [this, (Blk.new w t #[x]).cell]
  simpa using hu
theorem reads_cut_to {w : World} {B n : Nat} {A : Option Addr} {l : List (List UInt8)} (hr : Reads w B 1 A n (strv l)) (hn : l.length = n) (i : Nat) (hi : i ≤ n) : Reads w B 1 A i (strv (l.take i)) := by
  refine ⟨by simp [strv]; omega, fun hp => ?_⟩
  obtain ⟨ad, rfl, hb, hcell⟩ := hr.2 (by omega)
  refine ⟨ad, rfl, hb, fun j u hu => hcell j u ?_⟩
  unfold strv at hu ⊢
  rw [List.map_take] at hu
  have hj : j < i := by
    have := (List.getElem?_eq_some_iff.1 hu).1
    rw [List.length_take] at this
    omega
  rwa [List.getElem?_take_of_lt hj] at hu
def VerEnd (w : World) (k : Nat) (e : Ending) (w' : World) : Prop := ∃ A n c S, e = .returned (.tuple #[.slice A n c, .string S, .int .i64 (k : Int)]) ∧ Below w.heap.size w w'
theorem ver_end {w : World} {r : List Trie.KV × List UInt8 × Nat} (e : Ending) (w' : World) (h : ItemsTEnd w r e w') : VerEnd w r.2.2 e w' := by
  obtain ⟨A, c, rfl, _, hb⟩ := h
  exact ⟨A, _, c, _, rfl, hb⟩
set_option maxRecDepth 100000 in
set_option maxHeartbeats 8000000 in
theorem law_SpanTight (w : World) (A0 : Option Addr) (c0 : Nat) (L : List Trie.KV) (f e : List UInt8) (most at_ : Int) (HR0 : Reads w w.heap.size 2 A0 L.length (icells L)) (hL : ∀ x ∈ L, x.1.length ≤ 9223372036854775807 ∧ x.2.length ≤ 9223372036854775807) (hf : f.length ≤ 1048576) (he : e.length ≤ 1048576) (hT : Tbl w) :
    Calls Tryd.prog 5 #[.slice A0 L.length c0, .agg #[.string ⟨f.toArray⟩, .string ⟨e.toArray⟩, .int .i64 most], .int .i64 at_] w fun e w' => e = .returned (.bool true) ∧ Below w.heap.size w w' := by
  have HP : Hid (∀ w', Below w.heap.size w w' → (fun e w' => e = Ending.returned (.bool true) ∧ Below w.heap.size w w') (Ending.returned (.bool true)) w') := Lib.hid (fun W' a2 => ⟨rfl, a2⟩)
  generalize (fun e w' => e = Ending.returned (.bool true) ∧ Below w.heap.size w w') = P at HP ⊢
  have HTb := Lib.hid hT
  have HWk := Lib.hid (fun W (hW : Below w.heap.size w W) => law14_works W (hT.next hW))
  have HSo := Lib.hid (fun W (hW : Below w.heap.size w W) => law14_some W L hL A0 c0 ((HR0.below hW).more hW.size) (hT.next hW))
  have HGd := Lib.hid (fewU_good L)
  have HLn := Lib.hid (few30_items L)
  have HFE := Lib.hid (And.intro hf he)
  generalize fewU L = t at *
  clear hL HR0 hT hf he
  by_cases hm : most < 1 ∨ 16 < most
  · have HPr := Lib.hid (fun W v => span_Prove_bad W v f e most hm)
    clear hm HLn HFE
    go_enter Tryd.func5, Tryd.ntmps5
    go_upto_region 1 with fail
    obtain ⟨bx, hbx⟩ : ∃ bx, w.heap.size = bx := ⟨_, rfl⟩
    have F0 : Hid (Live w (w.alloc (.cells #[.string ⟨f.toArray⟩, .string ⟨e.toArray⟩, .int .i64 most] 24)) [(bx, 24, #[.string ⟨f.toArray⟩, .string ⟨e.toArray⟩, .int .i64 most])]) := Lib.hid (by subst hbx; exact Live.one ((Below.refl _ _).alloc (Nat.le_refl _) _) (Nat.le_refl _) (Blk.new _ _ _))
    try rw [hbx]
    generalize w.alloc (.cells #[.string ⟨f.toArray⟩, .string ⟨e.toArray⟩, .int .i64 most] 24) = W0 at F0 ⊢
    clear hbx
    go_wp2_with fail
    refine (HWk.out _ F0.out.b).mono ?_
    rintro q w1 ⟨rfl, hb⟩
    have F1 := Live.hb F0 hb
    clear hb F0
    go_wp2_with fail
    refine (HSo.out _ F1.out.b).mono ?_
    rintro q w2 ⟨v2, A2, n2, c2, rfl, hk2, hn2, hc2, own2, hb⟩
    have F2 := Live.hb F1 hb
    have HK2 := Lib.hid hk2
    clear hb F1 own2 hn2 hc2 hk2
    obtain ⟨_, b2, x2, rfl, _⟩ := id HK2.out
    have k0_0 : w2.cell? ⟨bx, 0, none⟩ = some (.string ⟨f.toArray⟩) := F2.out.cell 0 0 rfl rfl; have k0_1 : w2.cell? ⟨bx, 1, none⟩ = some (.string ⟨e.toArray⟩) := F2.out.cell 0 1 rfl rfl; have k0_2 : w2.cell? ⟨bx, 2, none⟩ = some (.int .i64 most) := F2.out.cell 0 2 rfl rfl
    go_wp2_with fail
    refine (HPr.out _ _).mono ?_
    rintro q w3 ⟨A3, c3, B3, d3, rfl, _, _, _, _, hb⟩
    have F3 := Live.hb F2 hb
    clear hb k0_0 k0_1 k0_2 F2 HPr
    go_upto_region 5 with fail
    have F4 := Live.ha F3 #[.slice A3 0 c3, .string ⟨#[]⟩, .slice B3 0 d3] 31
    generalize World.alloc w3 _ = W4 at F4 ⊢
    generalize w3.heap.size = pb at F4 ⊢
    clear F3
    go_wp2_with fail
    exact HP.out _ F4.out.b
  · obtain ⟨m, rfl, h1, h2⟩ : ∃ m : Nat, most = (m : Int) ∧ 1 ≤ m ∧ m ≤ 16 := ⟨most.toNat, by omega, by omega, by omega⟩
    clear hm
    have HPr := Lib.hid (fun W v (hv : TrieP W t (.pointer v)) => span_Prove W t v hv (by have := HGd.out.2; omega) f e HFE.out.1 HFE.out.2 m h1 h2)
    have HVe : Hid (∀ W (l : List Trie.KV) A c (s : List UInt8) (N : List (List UInt8)) B d, Below w.heap.size w W → Reads W W.heap.size 2 A l.length (icells l) → l.length ≤ 30 → s.length ≤ 8 → Reads W W.heap.size 1 B N.length (strv N) → N.length ≤ d → (N.length ≤ 2000 ∧ ∀ x ∈ N, x.length ≤ 700) → Calls Tryd.prog 10 #[.string ⟨(Trie.sumT t).toArray⟩, .string ⟨f.toArray⟩, .string ⟨e.toArray⟩, .int .i64 (m : Int), .agg #[.slice A l.length c, .string ⟨s.toArray⟩, .slice B N.length d]] W (ItemsTEnd W (Trie.verifyP (Trie.sumT t) f e m l s N))) := Lib.hid (fun W l A c s N B d hW x1 x2 x3 x4 x5 x6 =>
      span_Verify W (Trie.sumT t) f e HFE.out.1 HFE.out.2 m h1 h2 l A c x1 (by omega) s (by omega) N B d x4 x5 (by omega) (fun x hx => by have := x6.2 x hx; omega) (HTb.out.next hW))
    have HMore := Lib.hid (fun hn => Trie.span_more HGd.out.1 hn f e m [])
    have HLess := Lib.hid (fun hn => Trie.span_less HGd.out.1 hn f e m)
    have HOther := Lib.hid (fun hn => Trie.span_other HGd.out.1 hn f e m h1)
    have HNs := Lib.hid (pageN_small HGd.out.1 HGd.out.2 f e m)
    have HPl := Lib.hid (pageW_len (Trie.itemsW t) f e m)
    have HSl := Lib.hid (behind_next (Trie.itemsW t) f e m)
    have HTn := Lib.hid (@sumT_ne t)
    have HRo := Lib.hid (fun W v (hv : TrieP W t v) => trie_Root W t v hv)
    generalize Trie.pageW (Trie.itemsW t) f e m = pg at *
    generalize Trie.pageN t f e m = N at *
    generalize Trie.sumT t = sm at *
    obtain ⟨l, s⟩ := pg
    simp only at HPr HMore HLess HOther HPl HSl
    go_enter Tryd.func5, Tryd.ntmps5
    go_upto_region 1 with fail
    obtain ⟨bx, hbx⟩ : ∃ bx, w.heap.size = bx := ⟨_, rfl⟩
    have F0 : Hid (Live w (w.alloc (.cells #[.string ⟨f.toArray⟩, .string ⟨e.toArray⟩, .int .i64 (m : Int)] 24)) [(bx, 24, #[.string ⟨f.toArray⟩, .string ⟨e.toArray⟩, .int .i64 (m : Int)])]) := Lib.hid (by subst hbx; exact Live.one ((Below.refl _ _).alloc (Nat.le_refl _) _) (Nat.le_refl _) (Blk.new _ _ _))
    try rw [hbx]
    generalize w.alloc (.cells #[.string ⟨f.toArray⟩, .string ⟨e.toArray⟩, .int .i64 (m : Int)] 24) = W0 at F0 ⊢
    clear hbx
    go_wp2_with fail
    refine (HWk.out _ F0.out.b).mono ?_
    rintro q w1 ⟨rfl, hb⟩
    have F1 := Live.hb F0 hb
    clear hb F0
    go_wp2_with fail
    refine (HSo.out _ F1.out.b).mono ?_
    rintro q w2 ⟨v2, A2, n2, c2, rfl, hk2, hn2, hc2, own2, hb⟩
    have F2 := Live.hb F1 hb
    have HK2 := Lib.hid hk2
    clear hb F1 own2 hn2 hc2 hk2
    obtain ⟨_, b2, x2, rfl, _⟩ := id HK2.out
    have k0_0 : w2.cell? ⟨bx, 0, none⟩ = some (.string ⟨f.toArray⟩) := F2.out.cell 0 0 rfl rfl; have k0_1 : w2.cell? ⟨bx, 1, none⟩ = some (.string ⟨e.toArray⟩) := F2.out.cell 0 1 rfl rfl; have k0_2 : w2.cell? ⟨bx, 2, none⟩ = some (.int .i64 (m : Int)) := F2.out.cell 0 2 rfl rfl
    have HBk : Hid (Blk w2 bx 24 #[.string ⟨f.toArray⟩, .string ⟨e.toArray⟩, .int .i64 (m : Int)]) := Lib.hid (F2.out.blk 0 rfl)
    have HBx : Hid (∀ W, Below w2.heap.size w2 W → W.cell? ⟨bx, 0, none⟩ = some (.string ⟨f.toArray⟩) ∧ W.cell? ⟨bx, 1, none⟩ = some (.string ⟨e.toArray⟩) ∧ W.cell? ⟨bx, 2, none⟩ = some (.int .i64 (m : Int))) := Lib.hid (fun W hW => ⟨(HBk.out.below hW HBk.out.lt).cell 0, (HBk.out.below hW HBk.out.lt).cell 1, (HBk.out.below hW HBk.out.lt).cell 2⟩)
    have HB2 := Lib.hid F2.out.b
    go_wp2_with fail
    refine (HPr.out _ _ HK2.out).mono ?_
    rintro q w3 ⟨A3, c3, B3, d3, rfl, own3, hc3, ownN3, hd3, hb⟩
    have HB3 := Lib.hid hb
    have R3 : Hid (∀ W, Below w3.heap.size w3 W → Reads W W.heap.size 2 A3 l.length (icells l) ∧ Reads W W.heap.size 1 B3 N.length (strv N)) := Lib.hid (fun W hW => ⟨((Reads.of_own own3).below hW).more hW.size, ((Reads.of_own ownN3).below hW).more hW.size⟩)
    clear hb k0_0 k0_1 k0_2 F2 HPr own3 ownN3 HBk
    have HRo2 : Hid (∀ W, Below w3.heap.size w3 W → Calls Tryd.prog 11 #[.pointer (some ⟨b2, 0, none⟩)] W (Ret W (.string ⟨sm.toArray⟩))) := Lib.hid (fun W hW => (HRo.out W _ (HK2.out.next (HB3.out.nxt hW))).mono (by rintro e w' ⟨rfl, rfl⟩; exact ⟨rfl, Below.refl _ _⟩))
    have F3 : Hid (Live w3 w3 []) := Lib.hid (Live.start _)
    go_upto_region 5 with fail
    have F4 := Live.ha F3 #[.slice A3 l.length c3, .string ⟨s.toArray⟩, .slice B3 N.length d3] 31
    generalize World.alloc w3 _ = W4 at F4 ⊢
    generalize w3.heap.size = pb at F4 ⊢
    clear F3 HRo
    by_cases hsm : sm = []
    · subst hsm
      go_wp2_with fail
      refine (HRo2.out _ F4.out.b).mono ?_
      rintro q w5 ⟨rfl, hb⟩
      have F5 := Live.hb F4 hb
      clear hb
      go_wp2_with fail
      exact HP.out _ (HB2.out.nxt (HB3.out.nxt F5.out.b))
    · have hsn : sm.isEmpty = false := by simp [hsm]
      have HMore := Lib.hid (HMore.out (HTn.out hsm))
      have HLess := Lib.hid (HLess.out (HTn.out hsm))
      have HOther := Lib.hid (HOther.out (HTn.out hsm))
      clear hsm
      go_wp2_with fail
      refine (HRo2.out _ F4.out.b).mono ?_
      rintro q w5 ⟨rfl, hb⟩
      have F5 := Live.hb F4 hb
      clear hb F4
      have k0_0 : w5.cell? ⟨pb, 0, none⟩ = some (.slice A3 l.length c3) := F5.out.cell 0 0 rfl rfl; have k0_1 : w5.cell? ⟨pb, 1, none⟩ = some (.string ⟨s.toArray⟩) := F5.out.cell 0 1 rfl rfl; have k0_2 : w5.cell? ⟨pb, 2, none⟩ = some (.slice B3 N.length d3) := F5.out.cell 0 2 rfl rfl
      go_upto_region 8 with fail
      have F6 := Live.ha F5 #[.slice A3 l.length c3, .string ⟨s.toArray⟩, .slice B3 N.length d3] 31
      generalize World.alloc w5 _ = W6 at F6 ⊢
      generalize w5.heap.size = mb at F6 ⊢
      clear F5
      obtain ⟨i0, hi0, hz0, hz1, hz2⟩ := info_parts info_str
      have R6 := (R3.out _ F6.out.b).2
      have hn1 := HNs.out.1
      have own0 : (W6.alloc (.cells #[] 9)).ownsRow W6.heap.size 9 1 (.slice (some ⟨W6.heap.size, 0, none⟩) 0 0) 0 [] := World.ownsRow_made W6 #[] 0 (Nat.le_refl _) (by simp only [maxLen]; omega) rfl
      have B0 : Below W6.heap.size W6 (W6.alloc (.cells #[] 9)) := (Below.refl _ _).alloc (Nat.le_refl _) _
      have R0 : Reads (W6.alloc (.cells #[] 9)) W6.heap.size 1 B3 N.length (strv N) := R6.below B0
      have F0 := Live.hb F6 B0
      have k0_2 := F0.out.cell 1 2 rfl rfl
      clear R6
      go_wp2_with (first
        | (at_builtin; (refine wpList_append_any (W6.alloc (.cells #[] 9)) rfl _ _ 29 rfl W6.heap.size 9 i0 _ 1 16 Tryd.underlying29 hi0 hz0 hz1 hz2 rfl (by decide) (.slice (some ⟨W6.heap.size, 0, none⟩) 0 0) 0 [] rfl own0 W6.heap.size B3 N.length d3 (strv N) rfl R0 (strv_one _) (by simp only [maxLen]; omega) (by omega) B0.size ?_; intro v7 w7 own7 hg7 _; rw [Nat.zero_add, List.nil_append] at own7; obtain ⟨A7, c7, rfl, _, _, _⟩ := own_form own7; have B7 : Below W6.heap.size W6 w7 := B0.grown hg7 B0.size (fun k e => by injection e with e; exact Nat.le_of_eq e); clear hg7))
        | (at_builtin; (have B71 : Below w7.heap.size w7 (w7.alloc (.cells #[.string ⟨#[]⟩] 9)) := (Below.refl _ _).alloc (Nat.le_refl _) _; have ownA := own_below own7 B71; have BA := B7.alloc B7.size (.cells #[.string ⟨#[]⟩] 9); refine wpList_append_any (w7.alloc (.cells #[.string ⟨#[]⟩] 9)) rfl _ _ 29 rfl W6.heap.size 9 i0 _ 1 16 Tryd.underlying29 hi0 hz0 hz1 hz2 rfl (by decide) (.slice A7 N.length c7) N.length (strv N) rfl ownA _ (some ⟨w7.heap.size, 0, none⟩) 1 1 [.string ⟨#[]⟩] rfl (reads_one w7 9 (.string ⟨#[]⟩)) (by simp [Value.oneCell']) (by simp only [maxLen]; omega) (by omega) BA.size ?_; intro v8 w8 own8 hg8 _; obtain ⟨A8, c8, rfl, _, hc8, _⟩ := own_form own8; have B8 : Below W6.heap.size W6 w8 := BA.grown hg8 BA.size (fun k e => (ownA.lt k e).1); have O8 := Lib.hid own8; have F8 := Live.hb F6 B8; have u2 := F8.out.cell 0 2 rfl rfl; have uf := F8.out.frozen 0 2 rfl; clear hg8 own8 own7 ownA BA B71)))
      have F9 : Hid (Live w3 (w8.setCell ⟨mb, 2, none⟩ (.slice A8 (N.length + 1) c8)) [(mb, 31, #[.slice A3 l.length c3, .string ⟨s.toArray⟩, .slice A8 (N.length + 1) c8]), (pb, 31, #[.slice A3 l.length c3, .string ⟨s.toArray⟩, .slice B3 N.length d3])]) := Live.hs F8 0 2 _ rfl
      have O9 : Hid ((w8.setCell ⟨mb, 2, none⟩ (.slice A8 (N.length + 1) c8)).ownsRow W6.heap.size 9 1 (.slice A8 (N.length + 1) c8) (N.length + 1) (strv N ++ [.string ⟨#[]⟩])) := Lib.hid (own_set O8.out (own_blk_ne O8.out (F8.out.blk 0 rfl) (by decide)))
      generalize w8.setCell ⟨mb, 2, none⟩ (.slice A8 (N.length + 1) c8) = w9 at F9 O9 ⊢
      have HV1 : Hid (∀ W, Below w9.heap.size w9 W → Calls Tryd.prog 10 #[.string ⟨sm.toArray⟩, .string ⟨f.toArray⟩, .string ⟨e.toArray⟩, .int .i64 (m : Int), .agg #[.slice A3 l.length c3, .string ⟨s.toArray⟩, .slice A8 (N.length + 1) c8]] W (VerEnd W 130)) := Lib.hid (fun W hW => by
        have rN := (Reads.of_own O9.out).below hW
        have hN1 : (N ++ [[]]).length = N.length + 1 := by simp
        have := HVe.out W l A3 c3 s (N ++ [[]]) A8 c8 (HB2.out.nxt (HB3.out.nxt (F9.out.b.nxt hW))) (R3.out _ (F9.out.b.nxt hW)).1 (by have := HPl.out; have := HLn.out; omega) HSl.out (by rw [hN1]; unfold strv at rN ⊢; rw [List.map_append]; exact rN.more hW.size) (by rw [hN1]; exact hc8) ⟨by have := HNs.out.1; omega, fun x hx => by
          rcases List.mem_append.1 hx with hx | hx
          · exact HNs.out.2 x hx
          · simp at hx; subst hx; simp⟩
        rw [hN1, HMore.out] at this
        exact this.mono ver_end)
      clear R0 F0 u2 uf own0 B0 k0_2 F6 B7 B8 F8 O8 O9
      have HV := HV1
      clear HV1
      have k0_0 : w9.cell? ⟨mb, 0, none⟩ = some (.slice A3 l.length c3) := F9.out.cell 0 0 rfl rfl; have k0_1 : w9.cell? ⟨mb, 1, none⟩ = some (.string ⟨s.toArray⟩) := F9.out.cell 0 1 rfl rfl; have k0_2 : w9.cell? ⟨mb, 2, none⟩ = some (.slice A8 (N.length + 1) c8) := F9.out.cell 0 2 rfl rfl
      obtain ⟨z0, z1, z2⟩ := HBx.out _ (HB3.out.nxt F9.out.b)
      go_region_held3 (fun w' => (w'.cell? ⟨mb, 0, none⟩ = some (.slice A3 l.length c3) ∧ w'.cell? ⟨mb, 1, none⟩ = some (.string ⟨s.toArray⟩) ∧ w'.cell? ⟨mb, 2, none⟩ = some (.slice A8 (N.length + 1) c8)) ∧ w'.cell? ⟨bx, 0, none⟩ = some (.string ⟨f.toArray⟩) ∧ w'.cell? ⟨bx, 1, none⟩ = some (.string ⟨e.toArray⟩) ∧ w'.cell? ⟨bx, 2, none⟩ = some (.int .i64 (m : Int))) (first | go_keep | (refine ⟨⟨?_, ?_, ?_⟩, ?_, ?_, ?_⟩ <;> assumption)) (first
        | (go_at_call 11; refine (HRo2.out _ (by first | exact F9.out.b | exact F9.out.b.drew)).mono ?_; rintro q w10 ⟨rfl, hb⟩; have B10 : Below w9.heap.size w9 w10 := (by first | exact hb | exact hb.start); have F10 := Live.hb F9 B10; have g0 := F10.out.cell 0 0 rfl rfl; have g1 := F10.out.cell 0 1 rfl rfl; have g2 := F10.out.cell 0 2 rfl rfl; obtain ⟨g3, g4, g5⟩ := HBx.out _ (HB3.out.nxt F10.out.b); clear hb)
        | (go_at_call 10; refine (HV.out _ B10).mono ?_; rintro q w11 ⟨A11, n11, c11, S11, rfl, hb⟩; have F11 := Live.hb F10 (by first | exact hb | exact hb.start); have y0 := F11.out.cell 0 0 rfl rfl; have y1 := F11.out.cell 0 1 rfl rfl; have y2 := F11.out.cell 0 2 rfl rfl; obtain ⟨y3, y4, y5⟩ := HBx.out _ (HB3.out.nxt F11.out.b); clear hb))
      have F11' : Hid (Live w3 w11 [(pb, 31, #[.slice A3 l.length c3, .string ⟨s.toArray⟩, .slice B3 N.length d3])]) := Lib.hid (F11.out.drop 1)
      clear g0 g1 g2 g3 g4 g5 y0 y1 y2 y3 y4 y5 z0 z1 z2 k0_0 k0_1 k0_2 F9 F10 F11 B10 HV
      have k0_0 : w11.cell? ⟨pb, 0, none⟩ = some (.slice A3 l.length c3) := F11'.out.cell 0 0 rfl rfl; have k0_1 : w11.cell? ⟨pb, 1, none⟩ = some (.string ⟨s.toArray⟩) := F11'.out.cell 0 1 rfl rfl; have k0_2 : w11.cell? ⟨pb, 2, none⟩ = some (.slice B3 N.length d3) := F11'.out.cell 0 2 rfl rfl
      go_upto_region 11 with fail
      have F12 := Live.ha F11' #[.slice A3 l.length c3, .string ⟨s.toArray⟩, .slice B3 N.length d3] 31
      generalize World.alloc w11 _ = w12 at F12 ⊢
      generalize w11.heap.size = lb at F12 ⊢
      clear F11' k0_0 k0_1 k0_2
      have k1_0 : w12.cell? ⟨pb, 0, none⟩ = some (.slice A3 l.length c3) := F12.out.cell 1 0 rfl rfl; have k1_1 : w12.cell? ⟨pb, 1, none⟩ = some (.string ⟨s.toArray⟩) := F12.out.cell 1 1 rfl rfl; have k1_2 : w12.cell? ⟨pb, 2, none⟩ = some (.slice B3 N.length d3) := F12.out.cell 1 2 rfl rfl
      have u2 := F12.out.cell 0 2 rfl rfl
      have uf := F12.out.frozen 0 2 rfl
      have hmx : max (N.length : Int) 1 = ((N.length - 1 : Nat) : Int) + 1 := by omega
      have hjs : ((N.length - 1 : Nat) : Int) + 1 - 1 = ((N.length - 1 : Nat) : Int) := by omega
      have hjN : ((N.length - 1 : Nat) : Int) ≤ N.length := by omega
      have hd3' : (N.length : Int) ≤ d3 := by omega
      have hj0 : (0 : Int) ≤ ((N.length - 1 : Nat) : Int) := by omega
      go_wp2_with fail
      have F13 : Hid (Live w3 (w12.setCell ⟨lb, 2, none⟩ (.slice B3 (N.length - 1) d3)) [(lb, 31, #[.slice A3 l.length c3, .string ⟨s.toArray⟩, .slice B3 (N.length - 1) d3]), (pb, 31, #[.slice A3 l.length c3, .string ⟨s.toArray⟩, .slice B3 N.length d3])]) := Live.hs F12 0 2 _ rfl
      generalize w12.setCell ⟨lb, 2, none⟩ (.slice B3 (N.length - 1) d3) = w13 at F13 ⊢
      obtain ⟨k2, hk2⟩ : ∃ k2 : Nat, (Trie.verifyP sm f e m l s N.dropLast).2.2 = k2 := ⟨_, rfl⟩
      have HK2' : Hid (N ≠ [] → k2 = 130) := Lib.hid (fun hn => by rw [← hk2, HLess.out hn])
      have HV : Hid (∀ W, Below w13.heap.size w13 W → Calls Tryd.prog 10 #[.string ⟨sm.toArray⟩, .string ⟨f.toArray⟩, .string ⟨e.toArray⟩, .int .i64 (m : Int), .agg #[.slice A3 l.length c3, .string ⟨s.toArray⟩, .slice B3 (N.length - 1) d3]] W (VerEnd W k2)) := Lib.hid (fun W hW => by
        have hr := R3.out _ (F13.out.b.nxt hW)
        have rN := reads_cut_to hr.2 rfl (N.length - 1) (by omega)
        rw [← List.dropLast_eq_take] at rN
        have hN1 : N.dropLast.length = N.length - 1 := by simp
        have := HVe.out W l A3 c3 s N.dropLast B3 d3 (HB2.out.nxt (HB3.out.nxt (F13.out.b.nxt hW))) hr.1 (by have := HPl.out; have := HLn.out; omega) HSl.out (by rw [hN1]; exact rN) (by rw [hN1]; omega) ⟨by have := HNs.out.1; omega, fun x hx => HNs.out.2 x (List.dropLast_subset _ hx)⟩
        rw [hN1] at this
        rw [← hk2]
        exact this.mono ver_end)
      clear u2 uf F12 k1_0 k1_1 k1_2 hmx hjs hjN hj0 hk2
      have k0_0 : w13.cell? ⟨lb, 0, none⟩ = some (.slice A3 l.length c3) := F13.out.cell 0 0 rfl rfl; have k0_1 : w13.cell? ⟨lb, 1, none⟩ = some (.string ⟨s.toArray⟩) := F13.out.cell 0 1 rfl rfl; have k0_2 : w13.cell? ⟨lb, 2, none⟩ = some (.slice B3 (N.length - 1) d3) := F13.out.cell 0 2 rfl rfl
      obtain ⟨z0, z1, z2⟩ := HBx.out _ (HB3.out.nxt F13.out.b)
      go_region_held3 (fun w' => (w'.cell? ⟨lb, 0, none⟩ = some (.slice A3 l.length c3) ∧ w'.cell? ⟨lb, 1, none⟩ = some (.string ⟨s.toArray⟩) ∧ w'.cell? ⟨lb, 2, none⟩ = some (.slice B3 (N.length - 1) d3)) ∧ w'.cell? ⟨bx, 0, none⟩ = some (.string ⟨f.toArray⟩) ∧ w'.cell? ⟨bx, 1, none⟩ = some (.string ⟨e.toArray⟩) ∧ w'.cell? ⟨bx, 2, none⟩ = some (.int .i64 (m : Int))) (first | go_keep | (refine ⟨⟨?_, ?_, ?_⟩, ?_, ?_, ?_⟩ <;> assumption)) (first
        | (go_at_call 11; refine (HRo2.out _ (by first | exact F13.out.b | exact F13.out.b.drew)).mono ?_; rintro q w14 ⟨rfl, hb⟩; have B14 : Below w13.heap.size w13 w14 := (by first | exact hb | exact hb.start); have F14 := Live.hb F13 B14; have g0 := F14.out.cell 0 0 rfl rfl; have g1 := F14.out.cell 0 1 rfl rfl; have g2 := F14.out.cell 0 2 rfl rfl; obtain ⟨g3, g4, g5⟩ := HBx.out _ (HB3.out.nxt F14.out.b); clear hb)
        | (go_at_call 10; refine (HV.out _ B14).mono ?_; rintro q w15 ⟨A15, n15, c15, S15, rfl, hb⟩; have F15 := Live.hb F14 (by first | exact hb | exact hb.start); have y0 := F15.out.cell 0 0 rfl rfl; have y1 := F15.out.cell 0 1 rfl rfl; have y2 := F15.out.cell 0 2 rfl rfl; obtain ⟨y3, y4, y5⟩ := HBx.out _ (HB3.out.nxt F15.out.b); clear hb))
      clear g0 g1 g2 g3 g4 g5 y0 y1 y2 y3 y4 y5 z0 z1 z2 k0_0 k0_1 k0_2 F13 F14 B14 HV
      have k1_0 : w15.cell? ⟨pb, 0, none⟩ = some (.slice A3 l.length c3) := F15.out.cell 1 0 rfl rfl; have k1_1 : w15.cell? ⟨pb, 1, none⟩ = some (.string ⟨s.toArray⟩) := F15.out.cell 1 1 rfl rfl; have k1_2 : w15.cell? ⟨pb, 2, none⟩ = some (.slice B3 N.length d3) := F15.out.cell 1 2 rfl rfl
      clear HLess HMore hn1
      by_cases hk : k2 = 130
      · subst hk
        clear HK2'
        by_cases hl0 : l.length = 0
        · have hl0' : ((l.length : Int) == 0) = true := by rw [beq_iff_eq]; omega
          go_wp2_with fail
          exact HP.out _ (HB2.out.nxt (HB3.out.nxt F15.out.b))
        have hl0' : ((l.length : Int) == 0) = false := by rw [beq_eq_false_iff_ne]; omega
        have hl30 : l.length ≤ 30 := by have := HPl.out; have := HLn.out; omega
        go_wp2_with fail
        refine (book_Below14 at_ l.length _ (by omega) (by omega)).mono ?_
        rintro q w16 ⟨kk, hk, rfl, rfl⟩
        clear hl0 hl0'
        have u0 := F15.out.cell 0 0 rfl rfl
        have u1 := F15.out.cell 0 1 rfl rfl
        have u2 := F15.out.cell 0 2 rfl rfl
        have v0 := F15.out.frozen 0 0 rfl
        have v1 := F15.out.frozen 0 1 rfl
        have v2 := F15.out.frozen 0 2 rfl
        go_upto_region 19 with fail
        have F16 : Hid (Live w3 (((w15.setCell ⟨lb, 0, none⟩ (.slice A3 l.length c3)).setCell ⟨lb, 1, none⟩ (.string ⟨s.toArray⟩)).setCell ⟨lb, 2, none⟩ (.slice B3 N.length d3)) [(lb, 31, #[.slice A3 l.length c3, .string ⟨s.toArray⟩, .slice B3 N.length d3]), (pb, 31, #[.slice A3 l.length c3, .string ⟨s.toArray⟩, .slice B3 N.length d3])]) := Live.hs (Live.hs (Live.hs F15 0 0 (.slice A3 l.length c3) rfl) 0 1 (.string ⟨s.toArray⟩) rfl) 0 2 (.slice B3 N.length d3) rfl
        generalize ((w15.setCell ⟨lb, 0, none⟩ (.slice A3 l.length c3)).setCell ⟨lb, 1, none⟩ (.string ⟨s.toArray⟩)).setCell ⟨lb, 2, none⟩ (.slice B3 N.length d3) = w17 at F16 ⊢
        clear u0 u1 u2 v0 v1 v2 F15 k1_0 k1_1 k1_2
        obtain ⟨i1, hi1, hy0, hy1, hy2⟩ := info_parts info_item
        have hic : (kk : Int) ≤ c3 := by omega
        have hil : (kk : Int) ≤ l.length := by omega
        have hi2 : (kk : Int) + 1 ≤ l.length := by omega
        have hi00 : (0 : Int) ≤ kk := by omega
        obtain ⟨A1, c1, SL1, RD1⟩ := it_cut_to A3 l l.length c3 kk rfl (by omega) hc3
        obtain ⟨A2', c2', SL2, RD2⟩ := it_cut_from A3 l l.length c3 (kk + 1) rfl (by omega) hc3
        have SL2' := SL2
        rw [show ((kk + 1 : Nat) : Int) = (kk : Int) + 1 from rfl] at SL2'
        have B18 : Below w17.heap.size w17 (w17.alloc (.cells #[] 50)) := (Below.refl _ _).alloc (Nat.le_refl _) _
        have own18 : (w17.alloc (.cells #[] 50)).ownsRow w17.heap.size 50 2 (.slice (some ⟨w17.heap.size, 0, none⟩) 0 0) 0 [] := World.ownsRow_made w17 #[] 0 (Nat.le_refl _) (by simp only [maxLen]; omega) rfl
        have R17 := (R3.out _ F16.out.b).1
        have R1 := RD1 _ _ (R17.below B18)
        have u0 := F16.out.cell 1 0 rfl rfl
        have hwk : IntKind.i64.wrap ((kk : Int) + 1) = (kk : Int) + 1 := IntWalk.i64_in _ (by omega)
        have hi01 : (0 : Int) ≤ (kk : Int) + 1 := by omega
        have hlc : (l.length : Int) ≤ c3 := by omega
        go_region_held3 (fun w' => w'.cell? ⟨pb, 0, none⟩ = some (.slice A3 l.length c3)) (first | go_keep | assumption | exact u5) (first
          | ((refine step_append_any _ rfl _ _ 22 rfl w17.heap.size 50 i1 _ 2 32 Tryd.underlying22 hi1 hy0 hy1 hy2 rfl (by decide) (.slice (some ⟨w17.heap.size, 0, none⟩) 0 0) 0 [] rfl own18 w17.heap.size A1 kk c1 (icells (l.take kk)) rfl R1 (icells_one _) (by simp only [maxLen]; omega) (by omega) B18.size ?_; intro v19 w19 own19 hg19' _; have hg19 : (w17.alloc (.cells #[] 50)).grownBy w19 (some w17.heap.size) := ⟨hg19'.os, hg19'.tape, hg19'.output, hg19'.size, hg19'.block⟩; rw [Nat.zero_add, List.nil_append] at own19; obtain ⟨A19, c19, rfl, _, _, _⟩ := own_form own19; have B19 : Below w17.heap.size w17 w19 := B18.grown hg19 B18.size (fun k e => by injection e with e; exact Nat.le_of_eq e); have R2 := RD2 _ _ (R17.below B19); have F19 := Live.hb F16 B19; have u1 := F19.out.cell 1 0 rfl rfl; clear hg19 hg19'))
          | (((refine step_append_any _ rfl _ _ 22 rfl w17.heap.size 50 i1 _ 2 32 Tryd.underlying22 hi1 hy0 hy1 hy2 rfl (by decide) (.slice A19 kk c19) kk (icells (l.take kk)) rfl own19 w17.heap.size A2' (l.length - (kk + 1)) c2' (icells (l.drop (kk + 1))) rfl R2 (icells_one _) (by simp only [maxLen]; omega) (by omega) B19.size ?_; intro v20 w20 own20 hg20' _; have hg20 : w19.grownBy w20 (Value.slice A19 kk c19).ownBlock := ⟨hg20'.os, hg20'.tape, hg20'.output, hg20'.size, hg20'.block⟩; obtain ⟨A20, c20, rfl, _, hc20, _⟩ := own_form own20; have B20 : Below w17.heap.size w17 w20 := B19.grown hg20 B19.size (fun k e => (own19.lt k e).1); have F20 := Live.hb F16 B20; have O20 := Lib.hid own20; have u3 := F20.out.cell 0 0 rfl rfl; have v3 := F20.out.frozen 0 0 rfl; have u4 := F20.out.cell 1 0 rfl rfl; have F21 := Live.hs F20 0 0 (.slice A20 (kk + (l.length - (kk + 1))) c20) rfl; have u5 := F21.out.cell 1 0 rfl rfl; clear hg20 hg20' own20 R2))))
        have O21 : Hid ((w20.setCell ⟨lb, 0, none⟩ (.slice A20 (kk + (l.length - (kk + 1))) c20)).ownsRow w17.heap.size 50 2 (.slice A20 (kk + (l.length - (kk + 1))) c20) (kk + (l.length - (kk + 1))) (icells (l.take kk) ++ icells (l.drop (kk + 1)))) := Lib.hid (own_set O20.out (own_blk_ne O20.out (F20.out.blk 0 rfl) (by decide)))
        have F21' : Hid (Live w3 (w20.setCell ⟨lb, 0, none⟩ (.slice A20 (kk + (l.length - (kk + 1))) c20)) [(lb, 31, #[.slice A20 (kk + (l.length - (kk + 1))) c20, .string ⟨s.toArray⟩, .slice B3 N.length d3]), (pb, 31, #[.slice A3 l.length c3, .string ⟨s.toArray⟩, .slice B3 N.length d3])]) := Live.hs F20 0 0 _ rfl
        clear u0 u1 u3 v3 u4 u5 F21 F20 O20 F19 own19 B19 B20 R1 R17 own18 B18 SL1 RD1 SL2 SL2' RD2 hwk F16
        generalize w20.setCell ⟨lb, 0, none⟩ (.slice A20 (kk + (l.length - (kk + 1))) c20) = w21 at F21' O21 ⊢
        have hsz : kk + (l.length - (kk + 1)) = l.length - 1 := by omega
        rw [hsz] at F21' O21 ⊢
        have HV : Hid (∀ W, Below w21.heap.size w21 W → Calls Tryd.prog 10 #[.string ⟨sm.toArray⟩, .string ⟨f.toArray⟩, .string ⟨e.toArray⟩, .int .i64 (m : Int), .agg #[.slice A20 (l.length - 1) c20, .string ⟨s.toArray⟩, .slice B3 N.length d3]] W (VerEnd W 130)) := Lib.hid (fun W hW => by
          have hr := R3.out _ (F21'.out.b.nxt hW)
          have rI := (Reads.of_own O21.out).below hW
          rw [← icells_append] at rI
          have hN1 : (l.take kk ++ l.drop (kk + 1)).length = l.length - 1 := by simp only [List.length_append, List.length_take, List.length_drop]; omega
          have := HVe.out W (l.take kk ++ l.drop (kk + 1)) A20 c20 s N B3 d3 (HB2.out.nxt (HB3.out.nxt (F21'.out.b.nxt hW))) (by rw [hN1]; exact rI.more hW.size) (by rw [hN1]; omega) HSl.out hr.2 hd3 ⟨by have := HNs.out.1; omega, HNs.out.2⟩
          rw [HOther.out _ (fun h => by have := congrArg List.length h; rw [hN1] at this; omega), hN1] at this
          exact this.mono ver_end)
        go_wp2_with fail
        have k0_0 : w21.cell? ⟨lb, 0, none⟩ = some (.slice A20 (l.length - 1) c20) := F21'.out.cell 0 0 rfl rfl; have k0_1 : w21.cell? ⟨lb, 1, none⟩ = some (.string ⟨s.toArray⟩) := F21'.out.cell 0 1 rfl rfl; have k0_2 : w21.cell? ⟨lb, 2, none⟩ = some (.slice B3 N.length d3) := F21'.out.cell 0 2 rfl rfl
        obtain ⟨z0, z1, z2⟩ := HBx.out _ (HB3.out.nxt F21'.out.b)
        go_region_held3 (fun w' => (w'.cell? ⟨lb, 0, none⟩ = some (.slice A20 (l.length - 1) c20) ∧ w'.cell? ⟨lb, 1, none⟩ = some (.string ⟨s.toArray⟩) ∧ w'.cell? ⟨lb, 2, none⟩ = some (.slice B3 N.length d3)) ∧ w'.cell? ⟨bx, 0, none⟩ = some (.string ⟨f.toArray⟩) ∧ w'.cell? ⟨bx, 1, none⟩ = some (.string ⟨e.toArray⟩) ∧ w'.cell? ⟨bx, 2, none⟩ = some (.int .i64 (m : Int))) (first | go_keep | (refine ⟨⟨?_, ?_, ?_⟩, ?_, ?_, ?_⟩ <;> assumption)) (first
          | (go_at_call 11; refine (HRo2.out _ (by first | exact F21'.out.b | exact F21'.out.b.drew)).mono ?_; rintro q w22 ⟨rfl, hb⟩; have B22 : Below w21.heap.size w21 w22 := (by first | exact hb | exact hb.start); have F22 := Live.hb F21' B22; have g0 := F22.out.cell 0 0 rfl rfl; have g1 := F22.out.cell 0 1 rfl rfl; have g2 := F22.out.cell 0 2 rfl rfl; obtain ⟨g3, g4, g5⟩ := HBx.out _ (HB3.out.nxt F22.out.b); clear hb)
          | (go_at_call 10; refine (HV.out _ B22).mono ?_; rintro q w23 ⟨A23, n23, c23, S23, rfl, hb⟩; have F23 := Live.hb F22 (by first | exact hb | exact hb.start); have y0 := F23.out.cell 0 0 rfl rfl; have y1 := F23.out.cell 0 1 rfl rfl; have y2 := F23.out.cell 0 2 rfl rfl; obtain ⟨y3, y4, y5⟩ := HBx.out _ (HB3.out.nxt F23.out.b); clear hb))
        go_wp2_with fail
        exact HP.out _ (HB2.out.nxt (HB3.out.nxt F23.out.b))
      · have hN0 : N = [] := Decidable.byContradiction fun h => hk (HK2'.out h)
        have hk1 : ((k2 : Int) == 130) = false := by rw [beq_eq_false_iff_ne]; omega
        have hk3 : ((k2 : Int) = 130) = False := by simp only [eq_iff_iff, iff_false]; omega
        have hk4 : ((k2 : Int) != 130) = true := by rw [bne_iff_ne]; omega
        have hN1 : (0 < N.length) = False := by simp [hN0]
        clear hN0 hk HK2'
        by_cases hl0 : l.length = 0
        · have hl0' : ((l.length : Int) == 0) = true := by rw [beq_iff_eq]; omega
          go_wp2_with fail
          exact HP.out _ (HB2.out.nxt (HB3.out.nxt F15.out.b))
        have hl0' : ((l.length : Int) == 0) = false := by rw [beq_eq_false_iff_ne]; omega
        have hl30 : l.length ≤ 30 := by have := HPl.out; have := HLn.out; omega
        go_wp2_with fail
        refine (book_Below14 at_ l.length _ (by omega) (by omega)).mono ?_
        rintro q w16 ⟨kk, hk, rfl, rfl⟩
        clear hl0 hl0'
        have u0 := F15.out.cell 0 0 rfl rfl
        have u1 := F15.out.cell 0 1 rfl rfl
        have u2 := F15.out.cell 0 2 rfl rfl
        have v0 := F15.out.frozen 0 0 rfl
        have v1 := F15.out.frozen 0 1 rfl
        have v2 := F15.out.frozen 0 2 rfl
        go_upto_region 19 with fail
        have F16 : Hid (Live w3 (((w15.setCell ⟨lb, 0, none⟩ (.slice A3 l.length c3)).setCell ⟨lb, 1, none⟩ (.string ⟨s.toArray⟩)).setCell ⟨lb, 2, none⟩ (.slice B3 N.length d3)) [(lb, 31, #[.slice A3 l.length c3, .string ⟨s.toArray⟩, .slice B3 N.length d3]), (pb, 31, #[.slice A3 l.length c3, .string ⟨s.toArray⟩, .slice B3 N.length d3])]) := Live.hs (Live.hs (Live.hs F15 0 0 (.slice A3 l.length c3) rfl) 0 1 (.string ⟨s.toArray⟩) rfl) 0 2 (.slice B3 N.length d3) rfl
        generalize ((w15.setCell ⟨lb, 0, none⟩ (.slice A3 l.length c3)).setCell ⟨lb, 1, none⟩ (.string ⟨s.toArray⟩)).setCell ⟨lb, 2, none⟩ (.slice B3 N.length d3) = w17 at F16 ⊢
        clear u0 u1 u2 v0 v1 v2 F15 k1_0 k1_1 k1_2
        obtain ⟨i1, hi1, hy0, hy1, hy2⟩ := info_parts info_item
        have hic : (kk : Int) ≤ c3 := by omega
        have hil : (kk : Int) ≤ l.length := by omega
        have hi2 : (kk : Int) + 1 ≤ l.length := by omega
        have hi00 : (0 : Int) ≤ kk := by omega
        obtain ⟨A1, c1, SL1, RD1⟩ := it_cut_to A3 l l.length c3 kk rfl (by omega) hc3
        obtain ⟨A2', c2', SL2, RD2⟩ := it_cut_from A3 l l.length c3 (kk + 1) rfl (by omega) hc3
        have SL2' := SL2
        rw [show ((kk + 1 : Nat) : Int) = (kk : Int) + 1 from rfl] at SL2'
        have B18 : Below w17.heap.size w17 (w17.alloc (.cells #[] 50)) := (Below.refl _ _).alloc (Nat.le_refl _) _
        have own18 : (w17.alloc (.cells #[] 50)).ownsRow w17.heap.size 50 2 (.slice (some ⟨w17.heap.size, 0, none⟩) 0 0) 0 [] := World.ownsRow_made w17 #[] 0 (Nat.le_refl _) (by simp only [maxLen]; omega) rfl
        have R17 := (R3.out _ F16.out.b).1
        have R1 := RD1 _ _ (R17.below B18)
        have u0 := F16.out.cell 1 0 rfl rfl
        have hwk : IntKind.i64.wrap ((kk : Int) + 1) = (kk : Int) + 1 := IntWalk.i64_in _ (by omega)
        have hi01 : (0 : Int) ≤ (kk : Int) + 1 := by omega
        have hlc : (l.length : Int) ≤ c3 := by omega
        go_region_held3 (fun w' => w'.cell? ⟨pb, 0, none⟩ = some (.slice A3 l.length c3)) (first | go_keep | assumption | exact u5) (first
          | ((refine step_append_any _ rfl _ _ 22 rfl w17.heap.size 50 i1 _ 2 32 Tryd.underlying22 hi1 hy0 hy1 hy2 rfl (by decide) (.slice (some ⟨w17.heap.size, 0, none⟩) 0 0) 0 [] rfl own18 w17.heap.size A1 kk c1 (icells (l.take kk)) rfl R1 (icells_one _) (by simp only [maxLen]; omega) (by omega) B18.size ?_; intro v19 w19 own19 hg19' _; have hg19 : (w17.alloc (.cells #[] 50)).grownBy w19 (some w17.heap.size) := ⟨hg19'.os, hg19'.tape, hg19'.output, hg19'.size, hg19'.block⟩; rw [Nat.zero_add, List.nil_append] at own19; obtain ⟨A19, c19, rfl, _, _, _⟩ := own_form own19; have B19 : Below w17.heap.size w17 w19 := B18.grown hg19 B18.size (fun k e => by injection e with e; exact Nat.le_of_eq e); have R2 := RD2 _ _ (R17.below B19); have F19 := Live.hb F16 B19; have u1 := F19.out.cell 1 0 rfl rfl; clear hg19 hg19'))
          | (((refine step_append_any _ rfl _ _ 22 rfl w17.heap.size 50 i1 _ 2 32 Tryd.underlying22 hi1 hy0 hy1 hy2 rfl (by decide) (.slice A19 kk c19) kk (icells (l.take kk)) rfl own19 w17.heap.size A2' (l.length - (kk + 1)) c2' (icells (l.drop (kk + 1))) rfl R2 (icells_one _) (by simp only [maxLen]; omega) (by omega) B19.size ?_; intro v20 w20 own20 hg20' _; have hg20 : w19.grownBy w20 (Value.slice A19 kk c19).ownBlock := ⟨hg20'.os, hg20'.tape, hg20'.output, hg20'.size, hg20'.block⟩; obtain ⟨A20, c20, rfl, _, hc20, _⟩ := own_form own20; have B20 : Below w17.heap.size w17 w20 := B19.grown hg20 B19.size (fun k e => (own19.lt k e).1); have F20 := Live.hb F16 B20; have O20 := Lib.hid own20; have u3 := F20.out.cell 0 0 rfl rfl; have v3 := F20.out.frozen 0 0 rfl; have u4 := F20.out.cell 1 0 rfl rfl; have F21 := Live.hs F20 0 0 (.slice A20 (kk + (l.length - (kk + 1))) c20) rfl; have u5 := F21.out.cell 1 0 rfl rfl; clear hg20 hg20' own20 R2))))
        have O21 : Hid ((w20.setCell ⟨lb, 0, none⟩ (.slice A20 (kk + (l.length - (kk + 1))) c20)).ownsRow w17.heap.size 50 2 (.slice A20 (kk + (l.length - (kk + 1))) c20) (kk + (l.length - (kk + 1))) (icells (l.take kk) ++ icells (l.drop (kk + 1)))) := Lib.hid (own_set O20.out (own_blk_ne O20.out (F20.out.blk 0 rfl) (by decide)))
        have F21' : Hid (Live w3 (w20.setCell ⟨lb, 0, none⟩ (.slice A20 (kk + (l.length - (kk + 1))) c20)) [(lb, 31, #[.slice A20 (kk + (l.length - (kk + 1))) c20, .string ⟨s.toArray⟩, .slice B3 N.length d3]), (pb, 31, #[.slice A3 l.length c3, .string ⟨s.toArray⟩, .slice B3 N.length d3])]) := Live.hs F20 0 0 _ rfl
        clear u0 u1 u3 v3 u4 u5 F21 F20 O20 F19 own19 B19 B20 R1 R17 own18 B18 SL1 RD1 SL2 SL2' RD2 hwk F16
        generalize w20.setCell ⟨lb, 0, none⟩ (.slice A20 (kk + (l.length - (kk + 1))) c20) = w21 at F21' O21 ⊢
        have hsz : kk + (l.length - (kk + 1)) = l.length - 1 := by omega
        rw [hsz] at F21' O21 ⊢
        have HV : Hid (∀ W, Below w21.heap.size w21 W → Calls Tryd.prog 10 #[.string ⟨sm.toArray⟩, .string ⟨f.toArray⟩, .string ⟨e.toArray⟩, .int .i64 (m : Int), .agg #[.slice A20 (l.length - 1) c20, .string ⟨s.toArray⟩, .slice B3 N.length d3]] W (VerEnd W 130)) := Lib.hid (fun W hW => by
          have hr := R3.out _ (F21'.out.b.nxt hW)
          have rI := (Reads.of_own O21.out).below hW
          rw [← icells_append] at rI
          have hN1 : (l.take kk ++ l.drop (kk + 1)).length = l.length - 1 := by simp only [List.length_append, List.length_take, List.length_drop]; omega
          have := HVe.out W (l.take kk ++ l.drop (kk + 1)) A20 c20 s N B3 d3 (HB2.out.nxt (HB3.out.nxt (F21'.out.b.nxt hW))) (by rw [hN1]; exact rI.more hW.size) (by rw [hN1]; omega) HSl.out hr.2 hd3 ⟨by have := HNs.out.1; omega, HNs.out.2⟩
          rw [HOther.out _ (fun h => by have := congrArg List.length h; rw [hN1] at this; omega), hN1] at this
          exact this.mono ver_end)
        go_wp2_with fail
        have k0_0 : w21.cell? ⟨lb, 0, none⟩ = some (.slice A20 (l.length - 1) c20) := F21'.out.cell 0 0 rfl rfl; have k0_1 : w21.cell? ⟨lb, 1, none⟩ = some (.string ⟨s.toArray⟩) := F21'.out.cell 0 1 rfl rfl; have k0_2 : w21.cell? ⟨lb, 2, none⟩ = some (.slice B3 N.length d3) := F21'.out.cell 0 2 rfl rfl
        obtain ⟨z0, z1, z2⟩ := HBx.out _ (HB3.out.nxt F21'.out.b)
        go_region_held3 (fun w' => (w'.cell? ⟨lb, 0, none⟩ = some (.slice A20 (l.length - 1) c20) ∧ w'.cell? ⟨lb, 1, none⟩ = some (.string ⟨s.toArray⟩) ∧ w'.cell? ⟨lb, 2, none⟩ = some (.slice B3 N.length d3)) ∧ w'.cell? ⟨bx, 0, none⟩ = some (.string ⟨f.toArray⟩) ∧ w'.cell? ⟨bx, 1, none⟩ = some (.string ⟨e.toArray⟩) ∧ w'.cell? ⟨bx, 2, none⟩ = some (.int .i64 (m : Int))) (first | go_keep | (refine ⟨⟨?_, ?_, ?_⟩, ?_, ?_, ?_⟩ <;> assumption)) (first
          | (go_at_call 11; refine (HRo2.out _ (by first | exact F21'.out.b | exact F21'.out.b.drew)).mono ?_; rintro q w22 ⟨rfl, hb⟩; have B22 : Below w21.heap.size w21 w22 := (by first | exact hb | exact hb.start); have F22 := Live.hb F21' B22; have g0 := F22.out.cell 0 0 rfl rfl; have g1 := F22.out.cell 0 1 rfl rfl; have g2 := F22.out.cell 0 2 rfl rfl; obtain ⟨g3, g4, g5⟩ := HBx.out _ (HB3.out.nxt F22.out.b); clear hb)
          | (go_at_call 10; refine (HV.out _ B22).mono ?_; rintro q w23 ⟨A23, n23, c23, S23, rfl, hb⟩; have F23 := Live.hb F22 (by first | exact hb | exact hb.start); have y0 := F23.out.cell 0 0 rfl rfl; have y1 := F23.out.cell 0 1 rfl rfl; have y2 := F23.out.cell 0 2 rfl rfl; obtain ⟨y3, y4, y5⟩ := HBx.out _ (HB3.out.nxt F23.out.b); clear hb))
        go_wp2_with fail
        exact HP.out _ (HB2.out.nxt (HB3.out.nxt F23.out.b))
end Go.Proofs.YtcjafcbekegmlaaDoor
