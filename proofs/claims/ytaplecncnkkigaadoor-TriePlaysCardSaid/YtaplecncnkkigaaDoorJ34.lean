import Derived.Test.YtaplecncnkkigaaDoorJ33
/- Layer 10's laws: TriePlays, its loop. No conditions. -/
namespace Go.Proofs.YtaplecncnkkigaaDoor
set_option linter.unusedVariables false
open Go.RowKit Go.Instr
attribute [local go_sem] ba_get ByteArray.mk_append_mk
attribute [local go_sem ↓] Go.wp_at_zero Go.wp_at_succ

/-- a trie and its items, as the loop of TriePlays keeps them -/
structure PlayI (w wr : World) (t : Trie.T) (v : Value) (A : Option Addr) (n c : Nat) : Prop where
  trie : TrieP wr t v
  len : n = (Trie.itemsW t).length
  cap : n ≤ c
  reads : Reads wr wr.heap.size 2 A n (icells (Trie.itemsW t))
  below : Below w.heap.size w wr
theorem PlayI.next {w wr w' : World} {t : Trie.T} {v : Value} {A : Option Addr} {n c : Nat} (h : PlayI w wr t v A n c) (hb : Below wr.heap.size wr w') : PlayI w w' t v A n c :=
  ⟨h.trie.next hb, h.len, h.cap, (h.reads.below hb).more hb.size, h.below.nxt hb⟩

/- the round's test: the trie's items are those of the list -/
/- the ends of a round: has is asked twice, then the loop goes on -/
/- the two calls on the trie and on the items, in each order of the open statement -/
set_option maxRecDepth 100000 in
set_option maxHeartbeats 2000000 in
theorem plays_loop (w : World) (A : Option Addr) (c : Nat) (L : List Act10) (HR : Reads w w.heap.size 3 A L.length (acts L)) (hL : L.length ≤ 30) (hS : L.any longA = false) (hT : Tbl w) (key0 : List UInt8) (hk0 : key0.length ≤ 100)
    (w1 : World) (v0 : Value) (hk : TrieP w1 .nil v0) (hb : Below w.heap.size w w1)
    (Q : Exit → Act → World → Prop)
    (hQ : ∀ (s2 s3 s4 s5 s6 s7 s8 s9 s10 s11 s12 s13 s14 s15 s16 s17 s18 s19 s20 s21 s22 s23 s24 s25 s26 s27 s28 s29 s30 s31 s32 s33 s34 s35 s36 s37 s38 s39 s40 s41 s42 s43 s44 s45 s46 s47 s48 s49 s50 s51 s52 s53 s54 s55 s56 s57 s58 s59 s60 s61 s62 s63 s64 s65 s66 s67 s68 s69 s70 s71 s72 s73 s74 s75 s76 s77 s78 s79 s80 s81 s82 s83 s84 s85 s86 s87 s88 s89 s90 s91 s92 s93 s94 s95 s96 s97 s98 s99 s100 s101 s102 s103 s104 s105 s106 s107 s108 s109 s110 s111 s112 s113 s114 s115 s116 s117 s118 s119 s120 s121 s122 : Value) (w2 : World), Below w.heap.size w w2 → Q (.exit 0) { tmps := #[.slice A L.length c, .string ⟨key0.toArray⟩, s2, s3, s4, s5, s6, s7, s8, s9, s10, s11, s12, s13, s14, s15, s16, s17, s18, s19, s20, s21, s22, s23, s24, s25, s26, s27, s28, s29, s30, s31, s32, s33, s34, s35, s36, s37, s38, s39, s40, s41, s42, s43, s44, s45, s46, s47, s48, s49, s50, s51, s52, s53, s54, s55, s56, s57, s58, s59, s60, s61, s62, s63, s64, s65, s66, s67, s68, s69, s70, s71, s72, s73, s74, s75, s76, s77, s78, s79, s80, s81, s82, s83, s84, s85, s86, s87, s88, s89, s90, s91, s92, s93, s94, s95, s96, s97, s98, s99, s100, s101, s102, s103, s104, s105, s106, s107, s108, s109, s110, s111, s112, s113, s114, s115, s116, s117, s118, s119, s120, s121, s122], defers := [] } w2)
    (s2 s3 s4 s8 s9 s10 s11 s12 s13 s14 s15 s16 s17 s18 s19 s20 s21 s22 s23 s24 s25 s26 s27 s28 s29 s30 s31 s32 s33 s34 s35 s36 s37 s38 s39 s40 s41 s42 s43 s44 s45 s46 s47 s48 s49 s50 s51 s52 s53 s54 s55 s56 s57 s58 s59 s60 s61 s62 s63 s64 s65 s66 s67 s68 s69 s70 s71 s72 s73 s74 s75 s76 s77 s78 s79 s80 s81 s82 s83 s84 s85 s86 s87 s88 s89 s90 s91 s92 s93 s94 s95 s96 s97 s98 s99 s100 s101 s102 s103 s104 s105 s106 s107 s108 s109 s110 s111 s112 s113 s114 s115 s116 s117 s118 s119 s120 s121 s122 : Value) :
    Code.wp Tryd.prog (.loop (loopAt Tryd.f4 0)) Q { tmps := #[.slice A L.length c, .string ⟨key0.toArray⟩, s2, s3, s4, v0, .slice none 0 0, .int .i64 0, s8, s9, s10, s11, s12, s13, s14, s15, s16, s17, s18, s19, s20, s21, s22, s23, s24, s25, s26, s27, s28, s29, s30, s31, s32, s33, s34, s35, s36, s37, s38, s39, s40, s41, s42, s43, s44, s45, s46, s47, s48, s49, s50, s51, s52, s53, s54, s55, s56, s57, s58, s59, s60, s61, s62, s63, s64, s65, s66, s67, s68, s69, s70, s71, s72, s73, s74, s75, s76, s77, s78, s79, s80, s81, s82, s83, s84, s85, s86, s87, s88, s89, s90, s91, s92, s93, s94, s95, s96, s97, s98, s99, s100, s101, s102, s103, s104, s105, s106, s107, s108, s109, s110, s111, s112, s113, s114, s115, s116, s117, s118, s119, s120, s121, s122], defers := [] } w1 := by
  have HQ := Lib.hid hQ
  have HRR := Lib.hid HR
  have HS := Lib.hid hS
  have HTb := Lib.hid hT
  have HK0 := Lib.hid hk0
  have HL := Lib.hid hL
  have P00 : Hid (PlayI w w1 .nil v0 none 0 0) := Lib.hid ⟨hk, rfl, Nat.le_refl _, Reads.none_, hb⟩
  clear hQ HR hS hT hk0 hk hb
  refine wp_loop_ghost_k (fun k a wr => ∀ Φ : Act → Prop, (∀ (s2 s3 s4 s8 s9 s10 s11 s12 s13 s14 s15 s16 s17 s18 s19 s20 s21 s22 s23 s24 s25 s26 s27 s28 s29 s30 s31 s32 s33 s34 s35 s36 s37 s38 s39 s40 s41 s42 s43 s44 s45 s46 s47 s48 s49 s50 s51 s52 s53 s54 s55 s56 s57 s58 s59 s60 s61 s62 s63 s64 s65 s66 s67 s68 s69 s70 s71 s72 s73 s74 s75 s76 s77 s78 s79 s80 s81 s82 s83 s84 s85 s86 s87 s88 s89 s90 s91 s92 s93 s94 s95 s96 s97 s98 s99 s100 s101 s102 s103 s104 s105 s106 s107 s108 s109 s110 s111 s112 s113 s114 s115 s116 s117 s118 s119 s120 s121 s122 : Value) (i : Nat) (t : Trie.T) (v : Value) (B : Option Addr) (n d : Nat), (i + k = L.length ∧ i ≤ L.length ∧ Trie.count t ≤ i ∧ PlayI w wr t v B n d) → Φ { tmps := #[.slice A L.length c, .string ⟨key0.toArray⟩, s2, s3, s4, v, .slice B n d, .int .i64 (i : Int), s8, s9, s10, s11, s12, s13, s14, s15, s16, s17, s18, s19, s20, s21, s22, s23, s24, s25, s26, s27, s28, s29, s30, s31, s32, s33, s34, s35, s36, s37, s38, s39, s40, s41, s42, s43, s44, s45, s46, s47, s48, s49, s50, s51, s52, s53, s54, s55, s56, s57, s58, s59, s60, s61, s62, s63, s64, s65, s66, s67, s68, s69, s70, s71, s72, s73, s74, s75, s76, s77, s78, s79, s80, s81, s82, s83, s84, s85, s86, s87, s88, s89, s90, s91, s92, s93, s94, s95, s96, s97, s98, s99, s100, s101, s102, s103, s104, s105, s106, s107, s108, s109, s110, s111, s112, s113, s114, s115, s116, s117, s118, s119, s120, s121, s122], defers := [] }) → Φ a) (L.length) ?_ ?_
  · refine fun Φ hΦ => hΦ _ _ _ _ _ _ _ _ _ _ _ _ _ _ _ _ _ _ _ _ _ _ _ _ _ _ _ _ _ _ _ _ _ _ _ _ _ _ _ _ _ _ _ _ _ _ _ _ _ _ _ _ _ _ _ _ _ _ _ _ _ _ _ _ _ _ _ _ _ _ _ _ _ _ _ _ _ _ _ _ _ _ _ _ _ _ _ _ _ _ _ _ _ _ _ _ _ _ _ _ _ _ _ _ _ _ _ _ _ _ _ _ _ _ _ _ _ _ (0) (.nil) (v0) (none) (0) (0) ?_
    exact ⟨by omega, by omega, by simp [Trie.count], P00.out⟩
  · intro k1 a1 wr1 hI1 J1 K1 hJ1 hK1
    refine hI1 (fun a => Code.wp _ _ _ a _) ?_
    clear hI1 a1
    intro s0 s1 s2 s3 s4 s5 s6 s7 s8 s9 s10 s11 s12 s13 s14 s15 s16 s17 s18 s19 s20 s21 s22 s23 s24 s25 s26 s27 s28 s29 s30 s31 s32 s33 s34 s35 s36 s37 s38 s39 s40 s41 s42 s43 s44 s45 s46 s47 s48 s49 s50 s51 s52 s53 s54 s55 s56 s57 s58 s59 s60 s61 s62 s63 s64 s65 s66 s67 s68 s69 s70 s71 s72 s73 s74 s75 s76 s77 s78 s79 s80 s81 s82 s83 s84 s85 s86 s87 s88 s89 s90 s91 s92 s93 s94 s95 s96 s97 s98 s99 s100 s101 s102 s103 s104 s105 s106 s107 s108 s109 s110 s111 s112 s113 s114 s115 s116 s117 i t v B n d hrel
    show Code.wp _ _ _ _ _
    conv => arg 2; whnf
    obtain ⟨h1, h0, h2, hp⟩ := hrel
    by_cases hi : i < L.length
    · obtain ⟨ad, off, rfl, hbl, hcell⟩ := acts_read HRR.out i hi
      have hlo : longA (L[i]'hi) = false := by
        have := HS.out
        rw [List.any_eq_false] at this
        simpa using this _ (List.getElem_mem hi)
      have HI := Lib.hid (And.intro h1 hi)
      have HCells := Lib.hid hcell
      have hi0 : (i : Int) < L.length := by omega
      have hi1 : (0 : Int) ≤ i := by omega
      obtain rfl := hp.len
      have P0 := Lib.hid hp
      clear h1 h0 hbl hcell hp
      generalize L[i] = x at *
      obtain ⟨kind, key, value⟩ := x
      have hlen : key.length ≤ 100 ∧ value.length ≤ 100 := by simp [longA] at hlo; omega
      have HLen := Lib.hid hlen
      clear hlo
      have hi30 : i < 30 := by omega
      have HPut : Hid (∀ W, Below wr1.heap.size wr1 W → Calls Tryd.prog 30 #[v, .string ⟨key.toArray⟩, .string ⟨value.toArray⟩] W (TPutEnd W (Trie.put t (Nib.of key) value) (Trie.putCode key value))) := Lib.hid (fun W hW => by
          exact trie_Put W t v (P0.out.next hW).trie (by omega) (HTb.out.next (P0.out.next hW).below) key value (by omega) (by omega))
      have HDel : Hid (∀ W, Below wr1.heap.size wr1 W → Calls Tryd.prog 32 #[v, .string ⟨key.toArray⟩] W (TPutEnd W (Trie.del t (Nib.of key)) (Trie.getW t key).2)) := Lib.hid (fun W hW => by
          exact trie_Del W t v (P0.out.next hW).trie (by omega) (HTb.out.next (P0.out.next hW).below) key (by omega))
      have hil : (Trie.itemsW t).length ≤ 30 := by rw [Trie.itemsW_length]; omega
      have HRPut : Hid (∀ W, Below wr1.heap.size wr1 W → Calls Tryd.prog 31 #[.slice B (Trie.itemsW t).length d, .string ⟨key.toArray⟩, .string ⟨value.toArray⟩] W (PutIEnd W (Trie.rput (Trie.itemsW t) key value))) := Lib.hid (fun W hW => by
          exact ref10_Put W B d _ (P0.out.next hW).reads P0.out.cap (by omega) key value (by omega) (by omega))
      have HRDel : Hid (∀ W, Below wr1.heap.size wr1 W → Calls Tryd.prog 33 #[.slice B (Trie.itemsW t).length d, .string ⟨key.toArray⟩] W (PutIEnd W (Trie.rdel (Trie.itemsW t) key))) := Lib.hid (fun W hW => by
          exact ref10_Del W B d _ (P0.out.next hW).reads P0.out.cap (by omega) key (by omega))
      have HIt : Hid (∀ W, Below wr1.heap.size wr1 W → Calls Tryd.prog 27 #[v] W (ItemsEnd W (Trie.itemsW t))) := Lib.hid (fun W hW => trie_Items W t v (P0.out.next hW).trie (by omega))
      obtain ⟨p1, p2⟩ := Trie.rput_put P0.out.trie.1 key value
      obtain ⟨q1, q2⟩ := Trie.rdel_del P0.out.trie.1 key
      have HP1 := Lib.hid p1
      have HP2 := Lib.hid p2
      have HQ1 := Lib.hid q1
      have HQ2 := Lib.hid q2
      have HCt := Lib.hid h2
      have HIl := Lib.hid hil
      have HPC := Lib.hid (Trie.count_put t (Nib.of key) value)
      have HDC : Hid ((Trie.getW t key).2 = 0 → Trie.count (Trie.del t (Nib.of key)) ≤ i) := Lib.hid (fun hg => by
        have := Trie.count_del t (Nib.of key) P0.out.trie.1.wf (Nib.fit_of _) (Trie.getW_code hg).2
        omega)
      clear p1 p2 q1 q2 hil h2 hlen hi30
      generalize Trie.rput (Trie.itemsW t) key value = rp at *
      generalize Trie.rdel (Trie.itemsW t) key = rd at *
      obtain ⟨lp, cp⟩ := rp
      obtain ⟨ld, cd⟩ := rd
      obtain rfl : cp = Trie.putCode key value := HP1.out
      obtain rfl : cd = (Trie.getW t key).2 := HQ1.out
      generalize Trie.putCode key value = pc at *
      generalize (Trie.getW t key).2 = dc at *
      by_cases hkd : 1 < kind
      · clear HP1 HP2 HPC
        obtain ⟨r0, r1, r2⟩ := HCells.out _ P0.out.below
        go_upto_region 10 with (fail)
        go_region_held3 (fun w' => w'.cell? ⟨ad, off + i * 3 + 1, none⟩ = some (.string ⟨key.toArray⟩) ∧ w'.cell? ⟨ad, off + i * 3 + 2, none⟩ = some (.string ⟨value.toArray⟩)) (first | go_keep | (constructor <;> assumption)) (first | (go_at_call 30; refine (HPut.out _ (by first | exact Below.refl _ _ | exact (Below.refl _ _).drew)).mono ?_; rintro e w3 ⟨v3, rfl, hb, hk3, hn3⟩; have hb3 : Below wr1.heap.size wr1 w3 := (by first | exact hb | exact hb.start); clear hb; obtain ⟨d0, d1, d2⟩ := HCells.out _ (P0.out.next hb3).below))
        clear r0 r1 r2
        go_upto_region 11 with (fail)
        go_region_held3 (fun w' => w'.cell? ⟨ad, off + i * 3 + 1, none⟩ = some (.string ⟨key.toArray⟩) ∧ w'.cell? ⟨ad, off + i * 3 + 2, none⟩ = some (.string ⟨value.toArray⟩)) (first | go_keep | (constructor <;> assumption)) (first | (go_at_call 31; refine (HRPut.out _ (by first | exact hb3 | exact hb3.drew)).mono ?_; rintro e w4 ⟨A4, n4, c4, rfl, hn4, hc4, own4, hb⟩; have hb4 : Below w3.heap.size w3 w4 := (by first | exact hb | exact hb.start); clear hb; obtain ⟨e0, e1, e2⟩ := HCells.out _ ((P0.out.next hb3).next hb4).below))
        clear d0 d1 d2
        clear hk3 hn3 own4 hc4 hn4
        go_wp2_with fail
        refine (HDel.out _ (hb3.nxt hb4)).mono ?_
        rintro e w5 ⟨v5, rfl, hb5, hk3, hn3⟩
        have P5 := Lib.hid (((P0.out.next hb3).next hb4).next hb5)
        obtain ⟨f0, f1, f2⟩ := HCells.out _ P5.out.below
        have HB5 := Lib.hid ((hb3.nxt hb4).nxt hb5)
        clear e0 e1 e2 f0 f2 hb3 hb4 hb5
        go_wp2_with fail
        refine (HRDel.out _ HB5.out).mono ?_
        rintro e w7 ⟨A4, n4, c4, rfl, hn4, hc4, own4, hb7⟩
        have P7 := Lib.hid (P5.out.next hb7)
        have HB7 := Lib.hid (HB5.out.nxt hb7)
        have HB57 := Lib.hid hb7
        have HO4 := Lib.hid own4
        have HC4 := Lib.hid hc4
        have HN4 := Lib.hid hn4
        clear hb7 own4 hc4 hn4 f1 hkd
        have HK3 := hk3
        have HN3 := hn3
        have HP2 := HQ2
        clear hk3 hn3
        go_upto_region 15 with (fail)
        rcases Nat.eq_zero_or_pos dc with rfl | hpc
        · have hT4 := HK3 rfl
          have hl4 := HP2.out rfl
          subst hl4
          obtain ⟨_, b3, x3, rfl, _⟩ := id hT4
          have HCN : Hid (Trie.count (Trie.del t (Nib.of key)) ≤ i + 1) := Lib.hid (by have := HDC.out rfl; omega)
          have PN : Hid (PlayI w w7 (Trie.del t (Nib.of key)) (.pointer (some ⟨b3, 0, none⟩)) A4 n4 c4) := Lib.hid ⟨hT4.next HB57.out, HN4.out, HC4.out, Reads.of_own HO4.out, P7.out.below⟩
          obtain rfl := PN.out.len
          clear hT4 HK3
          go_wp2_with fail
          refine (HIt.out _ HB7.out).mono ?_
          rintro e w5 ⟨A5, n5, c5, rfl, hn5, own5, hb5⟩
          obtain rfl := hn5
          have P5 := Lib.hid (P7.out.next hb5)
          have R5 := Lib.hid (Reads.of_own own5)
          have HB5 := Lib.hid hb5
          clear own5 hb5
          go_wp2_with fail
          refine (book_SameItems A5 B _ _ _ _ _ _ _ R5.out P5.out.reads (by have := HIl.out; omega) (by have := HIl.out; omega)).mono ?_
          rw [decide_eq_true rfl]
          rintro e w6 ⟨rfl, hb6⟩
          have P6 := Lib.hid (P5.out.next hb6)
          have HB6 := Lib.hid (HB5.out.nxt hb6)
          clear hb6
          have PI := Lib.hid (PN.out.next HB6.out)
          go_upto_region 19 with (fail)
          obtain ⟨r0, r1, r2⟩ := HCells.out _ PI.out.below
          clear r0 r2
          go_wp2_with fail
          refine (law10_has _ (Trie.del t (Nib.of key)) (Value.pointer (some ⟨b3, 0, none⟩)) PI.out.trie (by have := HCN.out; omega) A4 c4 (by rw [← PI.out.len]; exact PI.out.reads) key0 (by have := HK0.out; omega)).mono ?_
          rintro e w8 ⟨rfl, hb8⟩
          have P8 := Lib.hid (PI.out.next hb8)
          obtain ⟨r0, r1', r2⟩ := HCells.out _ P8.out.below
          clear r0 r2 r1 hb8
          go_wp2_with fail
          refine (law10_has _ (Trie.del t (Nib.of key)) (Value.pointer (some ⟨b3, 0, none⟩)) P8.out.trie (by have := HCN.out; omega) A4 c4 (by rw [← P8.out.len]; exact P8.out.reads) key (by have := HLen.out; omega)).mono ?_
          rintro e w9 ⟨rfl, hb9⟩
          have P9 := Lib.hid (P8.out.next hb9)
          clear hb9 r1'
          go_wp2_with fail
          refine Handed.intro (L.length - (i + 1)) ?_ (hJ1 _ _ _ (fun Φ hΦ => hΦ _ _ _ _ _ _ _ _ _ _ _ _ _ _ _ _ _ _ _ _ _ _ _ _ _ _ _ _ _ _ _ _ _ _ _ _ _ _ _ _ _ _ _ _ _ _ _ _ _ _ _ _ _ _ _ _ _ _ _ _ _ _ _ _ _ _ _ _ _ _ _ _ _ _ _ _ _ _ _ _ _ _ _ _ _ _ _ _ _ _ _ _ _ _ _ _ _ _ _ _ _ _ _ _ _ _ _ _ _ _ _ _ _ _ _ _ _ _ (i + 1) ((Trie.del t (Nib.of key))) ((Value.pointer (some ⟨b3, 0, none⟩))) (A4) ((Trie.itemsW (Trie.del t (Nib.of key))).length) (c4) ?_))
          · have := HI.out.1
            have := HI.out.2
            show L.length - (i + 1) < k1
            omega
          · have := HI.out.1
            exact ⟨by omega, by have := HI.out.2; omega, HCN.out, P9.out⟩
        · have hv := HN3 (by omega)
          subst hv
          have hpc1 : ((dc : Int) != 0) = true := by simp; omega
          have hpc2 : ((dc : Int) == 0) = false := by simp; omega
          have HCN : Hid (Trie.count t ≤ i + 1) := Lib.hid (by have := HCt.out; omega)
          clear hpc HK3 HN3
          go_wp2_with fail
          refine (HIt.out _ HB7.out).mono ?_
          rintro e w5 ⟨A5, n5, c5, rfl, hn5, own5, hb5⟩
          obtain rfl := hn5
          have P5 := Lib.hid (P7.out.next hb5)
          have R5 := Lib.hid (Reads.of_own own5)
          have HB5 := Lib.hid hb5
          clear own5 hb5
          go_wp2_with fail
          refine (book_SameItems A5 B _ _ _ _ _ _ _ R5.out P5.out.reads (by have := HIl.out; omega) (by have := HIl.out; omega)).mono ?_
          rw [decide_eq_true rfl]
          rintro e w6 ⟨rfl, hb6⟩
          have P6 := Lib.hid (P5.out.next hb6)
          have HB6 := Lib.hid (HB5.out.nxt hb6)
          clear hb6
          have PI := P6
          go_upto_region 19 with (fail)
          obtain ⟨r0, r1, r2⟩ := HCells.out _ PI.out.below
          clear r0 r2
          go_wp2_with fail
          refine (law10_has _ t v PI.out.trie (by have := HCN.out; omega) B d (by rw [← PI.out.len]; exact PI.out.reads) key0 (by have := HK0.out; omega)).mono ?_
          rintro e w8 ⟨rfl, hb8⟩
          have P8 := Lib.hid (PI.out.next hb8)
          obtain ⟨r0, r1', r2⟩ := HCells.out _ P8.out.below
          clear r0 r2 r1 hb8
          go_wp2_with fail
          refine (law10_has _ t v P8.out.trie (by have := HCN.out; omega) B d (by rw [← P8.out.len]; exact P8.out.reads) key (by have := HLen.out; omega)).mono ?_
          rintro e w9 ⟨rfl, hb9⟩
          have P9 := Lib.hid (P8.out.next hb9)
          clear hb9 r1'
          go_wp2_with fail
          refine Handed.intro (L.length - (i + 1)) ?_ (hJ1 _ _ _ (fun Φ hΦ => hΦ _ _ _ _ _ _ _ _ _ _ _ _ _ _ _ _ _ _ _ _ _ _ _ _ _ _ _ _ _ _ _ _ _ _ _ _ _ _ _ _ _ _ _ _ _ _ _ _ _ _ _ _ _ _ _ _ _ _ _ _ _ _ _ _ _ _ _ _ _ _ _ _ _ _ _ _ _ _ _ _ _ _ _ _ _ _ _ _ _ _ _ _ _ _ _ _ _ _ _ _ _ _ _ _ _ _ _ _ _ _ _ _ _ _ _ _ _ _ (i + 1) (t) (v) (B) ((Trie.itemsW t).length) (d) ?_))
          · have := HI.out.1
            have := HI.out.2
            show L.length - (i + 1) < k1
            omega
          · have := HI.out.1
            exact ⟨by omega, by have := HI.out.2; omega, HCN.out, P9.out⟩
      · have hkd' : (1 < kind) = False := by simp; omega
        clear HDel HRDel HQ1 HQ2 HDC hkd
        obtain ⟨r0, r1, r2⟩ := HCells.out _ P0.out.below
        go_upto_region 10 with (fail)
        go_region_held3 (fun w' => w'.cell? ⟨ad, off + i * 3 + 1, none⟩ = some (.string ⟨key.toArray⟩) ∧ w'.cell? ⟨ad, off + i * 3 + 2, none⟩ = some (.string ⟨value.toArray⟩)) (first | go_keep | (constructor <;> assumption)) (first | (go_at_call 30; refine (HPut.out _ (by first | exact Below.refl _ _ | exact (Below.refl _ _).drew)).mono ?_; rintro e w3 ⟨v3, rfl, hb, hk3, hn3⟩; have hb3 : Below wr1.heap.size wr1 w3 := (by first | exact hb | exact hb.start); clear hb; obtain ⟨d0, d1, d2⟩ := HCells.out _ (P0.out.next hb3).below))
        clear r0 r1 r2
        go_upto_region 11 with (fail)
        go_region_held3 (fun w' => w'.cell? ⟨ad, off + i * 3 + 1, none⟩ = some (.string ⟨key.toArray⟩) ∧ w'.cell? ⟨ad, off + i * 3 + 2, none⟩ = some (.string ⟨value.toArray⟩)) (first | go_keep | (constructor <;> assumption)) (first | (go_at_call 31; refine (HRPut.out _ (by first | exact hb3 | exact hb3.drew)).mono ?_; rintro e w4 ⟨A4, n4, c4, rfl, hn4, hc4, own4, hb⟩; have hb4 : Below w3.heap.size w3 w4 := (by first | exact hb | exact hb.start); clear hb; obtain ⟨e0, e1, e2⟩ := HCells.out _ ((P0.out.next hb3).next hb4).below))
        clear d0 d1 d2
        go_upto_region 15 with (fail)
        have P4 := Lib.hid ((P0.out.next hb3).next hb4)
        have HB4 := Lib.hid (hb3.nxt hb4)
        have HB34 := Lib.hid hb4
        have HO4 := Lib.hid own4
        have HC4 := Lib.hid hc4
        have HN4 := Lib.hid hn4
        clear hb3 hb4 own4 hc4 hn4 e0 e1 e2 hkd'
        have HK3 := hk3
        have HN3 := hn3
        clear hk3 hn3
        rcases Nat.eq_zero_or_pos pc with rfl | hpc
        · have hT4 := HK3 rfl
          have hl4 := HP2.out rfl
          subst hl4
          obtain ⟨_, b3, x3, rfl, _⟩ := id hT4
          have HCN : Hid (Trie.count (Trie.put t (Nib.of key) value) ≤ i + 1) := Lib.hid (by have := HPC.out; have := HCt.out; omega)
          have PN : Hid (PlayI w w4 (Trie.put t (Nib.of key) value) (.pointer (some ⟨b3, 0, none⟩)) A4 n4 c4) := Lib.hid ⟨hT4.next HB34.out, HN4.out, HC4.out, Reads.of_own HO4.out, P4.out.below⟩
          obtain rfl := PN.out.len
          clear hT4 HK3
          go_wp2_with fail
          refine (HIt.out _ HB4.out).mono ?_
          rintro e w5 ⟨A5, n5, c5, rfl, hn5, own5, hb5⟩
          obtain rfl := hn5
          have P5 := Lib.hid (P4.out.next hb5)
          have R5 := Lib.hid (Reads.of_own own5)
          have HB5 := Lib.hid hb5
          clear own5 hb5
          go_wp2_with fail
          refine (book_SameItems A5 B _ _ _ _ _ _ _ R5.out P5.out.reads (by have := HIl.out; omega) (by have := HIl.out; omega)).mono ?_
          rw [decide_eq_true rfl]
          rintro e w6 ⟨rfl, hb6⟩
          have P6 := Lib.hid (P5.out.next hb6)
          have HB6 := Lib.hid (HB5.out.nxt hb6)
          clear hb6
          have PI := Lib.hid (PN.out.next HB6.out)
          go_upto_region 19 with (fail)
          obtain ⟨r0, r1, r2⟩ := HCells.out _ PI.out.below
          clear r0 r2
          go_wp2_with fail
          refine (law10_has _ (Trie.put t (Nib.of key) value) (Value.pointer (some ⟨b3, 0, none⟩)) PI.out.trie (by have := HCN.out; omega) A4 c4 (by rw [← PI.out.len]; exact PI.out.reads) key0 (by have := HK0.out; omega)).mono ?_
          rintro e w8 ⟨rfl, hb8⟩
          have P8 := Lib.hid (PI.out.next hb8)
          obtain ⟨r0, r1', r2⟩ := HCells.out _ P8.out.below
          clear r0 r2 r1 hb8
          go_wp2_with fail
          refine (law10_has _ (Trie.put t (Nib.of key) value) (Value.pointer (some ⟨b3, 0, none⟩)) P8.out.trie (by have := HCN.out; omega) A4 c4 (by rw [← P8.out.len]; exact P8.out.reads) key (by have := HLen.out; omega)).mono ?_
          rintro e w9 ⟨rfl, hb9⟩
          have P9 := Lib.hid (P8.out.next hb9)
          clear hb9 r1'
          go_wp2_with fail
          refine Handed.intro (L.length - (i + 1)) ?_ (hJ1 _ _ _ (fun Φ hΦ => hΦ _ _ _ _ _ _ _ _ _ _ _ _ _ _ _ _ _ _ _ _ _ _ _ _ _ _ _ _ _ _ _ _ _ _ _ _ _ _ _ _ _ _ _ _ _ _ _ _ _ _ _ _ _ _ _ _ _ _ _ _ _ _ _ _ _ _ _ _ _ _ _ _ _ _ _ _ _ _ _ _ _ _ _ _ _ _ _ _ _ _ _ _ _ _ _ _ _ _ _ _ _ _ _ _ _ _ _ _ _ _ _ _ _ _ _ _ _ _ (i + 1) ((Trie.put t (Nib.of key) value)) ((Value.pointer (some ⟨b3, 0, none⟩))) (A4) ((Trie.itemsW (Trie.put t (Nib.of key) value)).length) (c4) ?_))
          · have := HI.out.1
            have := HI.out.2
            show L.length - (i + 1) < k1
            omega
          · have := HI.out.1
            exact ⟨by omega, by have := HI.out.2; omega, HCN.out, P9.out⟩
        · have hv := HN3 (by omega)
          subst hv
          have hpc1 : ((pc : Int) != 0) = true := by simp; omega
          have hpc2 : ((pc : Int) == 0) = false := by simp; omega
          have HCN : Hid (Trie.count t ≤ i + 1) := Lib.hid (by have := HCt.out; omega)
          clear hpc HK3 HN3
          go_wp2_with fail
          refine (HIt.out _ HB4.out).mono ?_
          rintro e w5 ⟨A5, n5, c5, rfl, hn5, own5, hb5⟩
          obtain rfl := hn5
          have P5 := Lib.hid (P4.out.next hb5)
          have R5 := Lib.hid (Reads.of_own own5)
          have HB5 := Lib.hid hb5
          clear own5 hb5
          go_wp2_with fail
          refine (book_SameItems A5 B _ _ _ _ _ _ _ R5.out P5.out.reads (by have := HIl.out; omega) (by have := HIl.out; omega)).mono ?_
          rw [decide_eq_true rfl]
          rintro e w6 ⟨rfl, hb6⟩
          have P6 := Lib.hid (P5.out.next hb6)
          have HB6 := Lib.hid (HB5.out.nxt hb6)
          clear hb6
          have PI := P6
          go_upto_region 19 with (fail)
          obtain ⟨r0, r1, r2⟩ := HCells.out _ PI.out.below
          clear r0 r2
          go_wp2_with fail
          refine (law10_has _ t v PI.out.trie (by have := HCN.out; omega) B d (by rw [← PI.out.len]; exact PI.out.reads) key0 (by have := HK0.out; omega)).mono ?_
          rintro e w8 ⟨rfl, hb8⟩
          have P8 := Lib.hid (PI.out.next hb8)
          obtain ⟨r0, r1', r2⟩ := HCells.out _ P8.out.below
          clear r0 r2 r1 hb8
          go_wp2_with fail
          refine (law10_has _ t v P8.out.trie (by have := HCN.out; omega) B d (by rw [← P8.out.len]; exact P8.out.reads) key (by have := HLen.out; omega)).mono ?_
          rintro e w9 ⟨rfl, hb9⟩
          have P9 := Lib.hid (P8.out.next hb9)
          clear hb9 r1'
          go_wp2_with fail
          refine Handed.intro (L.length - (i + 1)) ?_ (hJ1 _ _ _ (fun Φ hΦ => hΦ _ _ _ _ _ _ _ _ _ _ _ _ _ _ _ _ _ _ _ _ _ _ _ _ _ _ _ _ _ _ _ _ _ _ _ _ _ _ _ _ _ _ _ _ _ _ _ _ _ _ _ _ _ _ _ _ _ _ _ _ _ _ _ _ _ _ _ _ _ _ _ _ _ _ _ _ _ _ _ _ _ _ _ _ _ _ _ _ _ _ _ _ _ _ _ _ _ _ _ _ _ _ _ _ _ _ _ _ _ _ _ _ _ _ _ _ _ _ (i + 1) (t) (v) (B) ((Trie.itemsW t).length) (d) ?_))
          · have := HI.out.1
            have := HI.out.2
            show L.length - (i + 1) < k1
            omega
          · have := HI.out.1
            exact ⟨by omega, by have := HI.out.2; omega, HCN.out, P9.out⟩
    · have hi2 : ((i : Int) < L.length) = False := by simp; omega
      have H := Lib.hid hp.below
      clear h0 h1 h2 hp hi
      go_wp2_with fail
      exact HQ.out _ _ _ _ _ _ _ _ _ _ _ _ _ _ _ _ _ _ _ _ _ _ _ _ _ _ _ _ _ _ _ _ _ _ _ _ _ _ _ _ _ _ _ _ _ _ _ _ _ _ _ _ _ _ _ _ _ _ _ _ _ _ _ _ _ _ _ _ _ _ _ _ _ _ _ _ _ _ _ _ _ _ _ _ _ _ _ _ _ _ _ _ _ _ _ _ _ _ _ _ _ _ _ _ _ _ _ _ _ _ _ _ _ _ _ _ _ _ _ _ _ _ H.out
end Go.Proofs.YtaplecncnkkigaaDoor
