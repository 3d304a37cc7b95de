import Derived.Test.YtefcmigbdfeaiaaDoorJ52
set_option linter.unusedSimpArgs false
set_option linter.unusedVariables false
namespace Go.Proofs.YtefcmigbdfeaiaaDoor
set_option linter.unusedVariables false
open Go.RowKit Go.Instr
attribute [local go_sem] ba_get ByteArray.mk_append_mk
attribute [local go_sem ↓] Go.wp_at_zero Go.wp_at_succ
theorem reads_take {w : World} {B : Nat} {A : Option Addr} {l : List (List UInt8)} (h : Reads w B 1 A l.length (strv l)) (n : Nat) (hn : n ≤ l.length) : Reads w B 1 A (l.take n).length (strv (l.take n)) := by
  refine ⟨by rw [strv_length]; omega, fun h0 => ?_⟩
  rw [List.length_take] at h0
  obtain ⟨a, e, hb, hc⟩ := h.2 (by omega)
  refine ⟨a, e, hb, fun j u hu => hc j u ?_⟩
  unfold strv at hu ⊢
  rw [List.map_take] at hu
  rw [List.getElem?_take] at hu
  split at hu
  · exact hu
  · cases hu
theorem told_nil {t : Trie.T} (h : Trie.sumT t = []) (may : List UInt8 → Bool) : toldW may t = [] := by
  rw [Trie.sumT_empty] at h
  subst h
  rfl
set_option maxRecDepth 100000 in
set_option maxHeartbeats 2000000 in
theorem law_ProofTight (w : World) (A0 : Option Addr) (c0 : Nat) (L : List Trie.KV) (key : List UInt8) (A1 : Option Addr) (c1 : Nat) (more : List (List UInt8)) (HR0 : Reads w w.heap.size 2 A0 L.length (icells L)) (hL : ∀ x ∈ L, x.1.length ≤ 9223372036854775807 ∧ x.2.length ≤ 9223372036854775807) (hk : key.length ≤ 9223372036854775807) (HR1 : Reads w w.heap.size 1 A1 more.length (strv more)) (hT : Tbl w) :
    Calls Tryd.prog 7 #[.slice A0 L.length c0, .string ⟨key.toArray⟩, .slice A1 more.length c1] w fun e w' => e = .returned (.bool true) ∧ Below w.heap.size w w' := by
  have HP : Hid (∀ w', Below w.heap.size w w' → (fun e w' => e = Ending.returned (.bool true) ∧ Below w.heap.size w w') (Ending.returned (.bool true)) w') := Lib.hid (fun W' a2 => ⟨rfl, a2⟩)
  generalize (fun e w' => e = Ending.returned (.bool true) ∧ Below w.heap.size w w') = P at HP ⊢
  have HTb := Lib.hid hT
  have HSo := Lib.hid (fun W (hW : Below w.heap.size w W) => law13_some W L hL A0 c0 ((HR0.below hW).more hW.size) (hT.next hW))
  have HM := Lib.hid (fun W (hW : Below w.heap.size w W) => (HR1.below hW).more hW.size)
  have HGd := Lib.hid (fewT_good L)
  have HKl := Lib.hid hk
  generalize fewT L = t at *
  clear hT HR0 HR1 hL
  go_enter Tryd.func7, Tryd.ntmps7
  go_wp2_with fail
  refine (law13_works _ HTb.out).mono ?_
  rintro e w0 ⟨rfl, hb0⟩
  have HB0 := Lib.hid hb0
  clear hb0
  go_wp2_with fail
  refine (HSo.out _ HB0.out).mono ?_
  rintro e w1 ⟨v1, A3, n3, c3, rfl, hk1, _, _, _, hb1⟩
  obtain ⟨_, b1, x1, rfl, _⟩ := id hk1
  have HK1 := Lib.hid hk1
  have HB1 := Lib.hid (HB0.out.nxt hb1)
  clear hk1 hb1 HSo
  have HPr := Lib.hid (proof_Prove w1 t _ HK1.out (by have := HGd.out.2; omega) key hk)
  cases hkey : Trie.keyedW key with
  | false =>
    have e : proveW t key = ([], 1) := by unfold proveW; rw [if_neg (by simp [hkey])]
    rw [e] at HPr
    clear hkey e
    go_wp2_with fail
    refine HPr.out.mono ?_
    rintro e w2 ⟨A2, n2, c2, rfl, hn2, own2, hb2⟩
    obtain rfl : n2 = 0 := hn2
    have HB2 := Lib.hid (HB1.out.nxt hb2)
    clear own2 hb2
    go_wp2_with fail
    exact HP.out _ HB2.out
  | true =>
  have e : proveW t key = (toldW (trailW (Nib.of key)) t, 0) := by unfold proveW; rw [if_pos hkey]
  rw [e] at HPr
  have H17 := told_trail_len HGd.out.1.wf key hkey
  have H700 := Lib.hid (told_700 HGd.out.1 (trailW (Nib.of key)))
  have HNl := Lib.hid (fun (h : Trie.sumT t = []) => told_nil h (trailW (Nib.of key)))
  have HCut := Lib.hid (fun n h => Trie.verify_cut HGd.out.1 hkey n h)
  have HMore := Lib.hid (fun m h => Trie.verify_more HGd.out.1 hkey m h)
  have HOth := Lib.hid (fun (hn : Trie.sumT t ≠ []) root h => Trie.verify_other HGd.out.1 (fun e => hn (Trie.sumT_empty.2 e)) hkey root h)
  have HRt := Lib.hid (fun W (hW : Below w1.heap.size w1 W) => (trie_Root W t _ (HK1.out.next hW)).mono (R' := Ret W (.string ⟨(Trie.sumT t).toArray⟩)) (by rintro e W' ⟨rfl, rfl⟩; exact ⟨rfl, Below.refl _ _⟩))
  clear hkey e
  generalize toldW (trailW (Nib.of key)) t = l at *
  generalize Trie.sumT t = sm at *
  go_wp2_with fail
  refine HPr.out.mono ?_
  rintro e w2 ⟨A2, n2, c2, rfl, hn2, own2, hb2⟩
  obtain rfl := hn2
  have C2 := Lib.hid hb2
  have R2 := Lib.hid (Reads.of_own own2)
  obtain ⟨_, _, hf, _, hnc, _⟩ := own_form own2
  injection hf with e1 e2 e3
  subst e1 e3
  clear own2 hb2 HPr e2
  go_wp2_with fail
  refine (book_Few _ A1 c1 more 5 700 (HM.out _ (HB1.out.nxt C2.out)) (by omega) (by omega)).mono ?_
  rintro e w3 ⟨rfl, hb3⟩
  have C3 := Lib.hid (C2.out.nxt hb3)
  have R3 := Lib.hid ((R2.out.below hb3).more hb3.size)
  clear hb3 R2 C2
  cases hfew : fewW more 5 700 with
  | false =>
    clear hfew
    go_wp2_with fail
    exact HP.out _ (HB1.out.nxt C3.out)
  | true =>
  have HFw : Hid (more.length ≤ 5 ∧ ∀ x ∈ more, x.length ≤ 700) := Lib.hid (by
    unfold fewW at hfew
    simp at hfew
    exact hfew)
  clear hfew
  have HVc : Hid (∀ W n, Below w1.heap.size w1 W → Below w3.heap.size w3 W → n < l.length → Calls Tryd.prog 40 #[.string ⟨sm.toArray⟩, .string ⟨key.toArray⟩, .slice A2 n c2] W (VerEnd W ([], false, 130))) := Lib.hid (fun W n hW h3 hn => by
    have := proof_Verify W sm key HKl.out (l.take n) A2 c2 (reads_take ((R3.out.below h3).more h3.size) n (by omega)) (by rw [List.length_take]; omega) (fun x hx => by have := H700.out x (List.mem_of_mem_take hx); omega) (HTb.out.next (HB1.out.nxt hW))
    rw [HCut.out n hn] at this
    rwa [List.length_take, Nat.min_eq_left (by omega)] at this)
  have HVm : Hid (more ≠ [] → ∀ W A c, Below w1.heap.size w1 W → Reads W W.heap.size 1 A (l.length + more.length) (strv l ++ strv more) → Calls Tryd.prog 40 #[.string ⟨sm.toArray⟩, .string ⟨key.toArray⟩, .slice A (l.length + more.length) c] W (VerEnd W ([], false, 130))) := Lib.hid (fun hne W A c hW hr => by
    have := proof_Verify W sm key HKl.out (l ++ more) A c (by rw [List.length_append]; unfold strv at hr ⊢; rwa [List.map_append]) (by rw [List.length_append]; have := HFw.out.1; omega) (fun x hx => by
      rcases List.mem_append.1 hx with h | h
      · have := H700.out x h; omega
      · have := HFw.out.2 x h; omega) (HTb.out.next (HB1.out.nxt hW))
    rw [HMore.out more hne] at this
    rwa [List.length_append] at this)
  have HVo : Hid (sm ≠ [] → ∀ W (root : List UInt8) c, root.length ≠ 32 → Below w3.heap.size w3 W → Calls Tryd.prog 40 #[.string ⟨root.toArray⟩, .string ⟨key.toArray⟩, .slice A2 l.length c] W (VerEnd W ([], false, 130))) := Lib.hid (fun hne W root c hr h3 => by
    have := proof_Verify W root key HKl.out l A2 c ((R3.out.below h3).more h3.size) (by omega) (fun x hx => by have := H700.out x hx; omega) (HTb.out.next (HB1.out.nxt (C3.out.nxt h3)))
    rwa [HOth.out hne root hr] at this)
  have HRt3 := Lib.hid (fun W (hW : Below w3.heap.size w3 W) => HRt.out W (C3.out.nxt hW))
  clear HRt HCut HMore HOth H700 hk
  have HRt := HRt3
  clear HRt3
  have HB13 := Lib.hid (HB1.out.nxt C3.out)
  have hl17 : (l.length : Int) ≤ 17 := by omega
  have hnc' : (l.length : Int) ≤ c2 := by omega
  clear H17 hnc
  go_wp2_with fail
  refine wp_loop_ghost_k (fun k a wr => ∀ Φ : Act → Prop, (∀ (s3 s4 s5 s6 s8 s10 s11 s12 s13 s14 s15 s16 s17 s18 s19 s20 s21 s22 s23 s24 s25 s26 s27 s28 s29 s30 s31 s32 s33 s34 s35 s36 s37 s38 s39 s40 s41 s42 s43 s44 s47 s48 s49 s50 s51 s52 s53 s54 s55 s56 s57 s58 s59 s60 s61 s62 s63 s64 s65 s66 s67 s68 s69 s70 s71 s72 s73 s74 s75 s76 s77 s78 s79 s80 s81 s82 s83 s84 s85 s86 s87 s88 s89 s90 s91 s92 s93 s94 s95 s96 s97 s98 s99 s100 s101 s102 s103 s104 s105 s106 : Value) (i : Nat), (i + k = l.length ∧ Below w3.heap.size w3 wr) → Φ { tmps := #[.slice A0 L.length c0, .string ⟨key.toArray⟩, .slice A1 more.length c1, s3, s4, s5, s6, .pointer (some ⟨b1, 0, none⟩), s8, .slice A2 l.length c2, s10, s11, s12, s13, s14, s15, s16, s17, s18, s19, s20, s21, s22, s23, s24, s25, s26, s27, s28, s29, s30, s31, s32, s33, s34, s35, s36, s37, s38, s39, s40, s41, s42, s43, s44, .int .i64 (l.length : Int), .int .i64 (i : Int), s47, s48, s49, s50, s51, s52, s53, s54, s55, s56, s57, s58, s59, s60, s61, s62, s63, s64, s65, s66, s67, s68, s69, s70, s71, s72, s73, s74, s75, s76, s77, s78, s79, s80, s81, s82, s83, s84, s85, s86, s87, s88, s89, s90, s91, s92, s93, s94, s95, s96, s97, s98, s99, s100, s101, s102, s103, s104, s105, s106], defers := [] }) → Φ a) (l.length) ?_ ?_
  · refine fun Φ hΦ => hΦ _ _ _ _ _ _ _ _ _ _ _ _ _ _ _ _ _ _ _ _ _ _ _ _ _ _ _ _ _ _ _ _ _ _ _ _ _ _ _ _ _ _ _ _ _ _ _ _ _ _ _ _ _ _ _ _ _ _ _ _ _ _ _ _ _ _ _ _ _ _ _ _ _ _ _ _ _ _ _ _ _ _ _ _ _ _ _ _ _ _ _ _ _ _ _ _ _ _ _ _ (0) ?_
    exact ⟨by omega, Below.refl _ _⟩
  · intro k1 a1 wr1 hI1 J1 K1 hJ1 hK1
    refine hI1 (fun a => Code.wp _ _ _ a _) ?_
    clear hI1 a1
    intro s0 s1 s2 s3 s4 s5 s6 s7 s8 s9 s10 s11 s12 s13 s14 s15 s16 s17 s18 s19 s20 s21 s22 s23 s24 s25 s26 s27 s28 s29 s30 s31 s32 s33 s34 s35 s36 s37 s38 s39 s40 s41 s42 s43 s44 s45 s46 s47 s48 s49 s50 s51 s52 s53 s54 s55 s56 s57 s58 s59 s60 s61 s62 s63 s64 s65 s66 s67 s68 s69 s70 s71 s72 s73 s74 s75 s76 s77 s78 s79 s80 s81 s82 s83 s84 s85 s86 s87 s88 s89 s90 s91 s92 s93 s94 s95 s96 s97 s98 s99 i hrel
    show Code.wp _ _ _ _ _
    obtain ⟨h1, gb⟩ := hrel
    have HG := Lib.hid (And.intro h1 gb)
    clear h1 gb
    by_cases hi : i < l.length
    · have hi1 : (i : Int) < l.length := by omega
      have hi0 : (0 : Int) ≤ i := by omega
      have hi2 : (i : Int) ≤ c2 := by omega
      have HI := Lib.hid hi
      obtain ⟨ad, off, rfl, hbl, hcell⟩ := few_cell R3.out hi
      clear hcell hbl hi
      go_upto_region 10 with fail
      go_region_held3 (fun _ => True) (first | go_keep | trivial) (first
        | (go_at_call 25; (with_reducible refine (HRt.out _ ?_).mono ?_); (first | exact HG.out.2 | exact HG.out.2.drew | exact below_drewN HG.out.2 _ | exact (below_drewN HG.out.2 _).drew); rintro e w5 ⟨rfl, hb⟩; have C5 : Below w3.heap.size w3 w5 := (by first | exact HG.out.2.nxt hb | exact HG.out.2.nxt hb.start | exact HG.out.2.nxt hb.start_drewN | exact HG.out.2.nxt hb.start.start_drewN); clear hb)
        | (go_at_call 40; (with_reducible refine (HVc.out _ i ?_ ?_ HI.out).mono ?_); (first | exact C3.out.nxt C5 | exact (C3.out.nxt C5).drew | exact below_drewN (C3.out.nxt C5) _ | exact (below_drewN (C3.out.nxt C5) _).drew); (first | exact C5 | exact C5.drew | exact below_drewN C5 _ | exact (below_drewN C5 _).drew); rintro e w6 ⟨rfl, hb⟩; have C6 : Below w3.heap.size w3 w6 := (by first | exact C5.nxt hb | exact C5.nxt hb.start | exact C5.nxt hb.start_drewN | exact C5.nxt hb.start.start_drewN); clear hb))
      have C6' := Lib.hid C6
      clear C5 C6
      go_wp2_with fail
      refine Handed.intro (l.length - (i + 1)) ?_ (hJ1 _ _ _ (fun Φ hΦ => hΦ _ _ _ _ _ _ _ _ _ _ _ _ _ _ _ _ _ _ _ _ _ _ _ _ _ _ _ _ _ _ _ _ _ _ _ _ _ _ _ _ _ _ _ _ _ _ _ _ _ _ _ _ _ _ _ _ _ _ _ _ _ _ _ _ _ _ _ _ _ _ _ _ _ _ _ _ _ _ _ _ _ _ _ _ _ _ _ _ _ _ _ _ _ _ _ _ _ _ _ _ (i + 1) ?_))
      · have := HG.out.1; omega
      · exact ⟨by have := HG.out.1; omega, by first | exact C6'.out | exact below_drewN C6'.out _⟩
    · have hi1 : ((i : Int) < l.length) = False := by simp; omega
      have HBX := Lib.hid HG.out.2
      clear hi HG
      by_cases hm : more = []
      · subst hm
        go_wp2_with fail
        cases hsm : decide (sm = []) with
        | true =>
          have hs := of_decide_eq_true hsm
          subst hs
          have hl := HNl.out rfl
          subst hl
          clear hsm
          go_wp2_with fail
          refine (HRt.out _ HBX.out).mono ?_
          rintro e w5 ⟨rfl, hb5⟩
          have C5 := Lib.hid (HBX.out.nxt hb5)
          clear hb5
          go_wp2_with fail
          exact HP.out _ (HB13.out.nxt C5.out)
        | false =>
          have hs := of_decide_eq_false hsm
          have HO := Lib.hid (HVo.out hs)
          have ne1 : (sm.toArray = #[]) = False := by simp [hs]
          have ne2 : sm.isEmpty = false := by simp [hs]
          clear hsm hs
          go_wp2_with fail
          refine (HRt.out _ HBX.out).mono ?_
          rintro e w5 ⟨rfl, hb5⟩
          have C5 := Lib.hid (HBX.out.nxt hb5)
          clear hb5
          go_wp2_with fail
          refine (HO.out _ [97, 110, 111, 116, 104, 101, 114, 32, 114, 111, 111, 116, 32, 116, 104, 97, 116, 32, 110, 111, 116, 104, 105, 110, 103, 32, 99, 97, 110, 32, 104, 97, 118, 101] c2 (by decide) C5.out).mono ?_
          rintro e w6 ⟨rfl, hb6⟩
          have C6 := Lib.hid (C5.out.nxt hb6)
          clear hb6
          go_wp2_with fail
          refine (HO.out _ [] c2 (by decide) C6.out).mono ?_
          rintro e w7 ⟨rfl, hb7⟩
          have C7 := Lib.hid (C6.out.nxt hb7)
          clear hb7
          go_wp2_with fail
          exact HP.out _ (HB13.out.nxt C7.out)
      · have hmp : (0 : Int) < more.length := by have := List.length_pos_iff.2 hm; omega
        have HVn := Lib.hid (HVm.out hm)
        have hm5 := HFw.out.1
        clear hm HVm
        go_wp2_with fail
        refine (HRt.out _ HBX.out).mono ?_
        rintro e w4 ⟨rfl, hb4⟩
        have C4 := Lib.hid (HBX.out.nxt hb4)
        clear hb4
        obtain ⟨i0, hi0', hz0, hz1, hz2⟩ := info_parts info_str
        have B4 : Hid (Below w3.heap.size w3 (w4.alloc (.cells #[] 9))) := Lib.hid (C4.out.alloc C4.out.size _)
        have own0 : (w4.alloc (.cells #[] 9)).ownsRow w4.heap.size 9 1 (.slice (some ⟨w4.heap.size, 0, none⟩) 0 0) 0 [] := World.ownsRow_made w4 #[] 0 (Nat.le_refl _) (by simp only [maxLen]; omega) rfl
        have hsz4 : w4.heap.size ≤ (w4.alloc (.cells #[] 9)).heap.size := ((Below.refl w4.heap.size w4).alloc (Nat.le_refl _) _).size
        have R4 : Reads (w4.alloc (.cells #[] 9)) w3.heap.size 1 A2 l.length (strv l) := R3.out.below B4.out
        go_wp2_with (first
          | (at_builtin; refine wpList_append_any (w4.alloc (.cells #[] 9)) rfl _ _ 36 rfl w4.heap.size 9 i0 _ 1 16 Tryd.underlying36 hi0' hz0 hz1 hz2 rfl (by decide) (.slice (some ⟨w4.heap.size, 0, none⟩) 0 0) 0 [] rfl own0 w3.heap.size A2 l.length c2 (strv l) rfl R4 (strv_one _) (by simp only [maxLen]; omega) (by omega) hsz4 ?_; intro v5 w5 own5 hg5 _; rw [Nat.zero_add, List.nil_append] at own5; obtain ⟨A5, c5, rfl, _, _, _⟩ := own_form own5; have O5 := Lib.hid own5; have B5 : Hid (Below w3.heap.size w3 w5) := Lib.hid (B4.out.grown hg5 B4.out.size (fun k e => by injection e with e; exact Nat.le_trans C4.out.size (Nat.le_of_eq e))); have S5 := Lib.hid (Nat.le_trans hsz4 hg5.size); clear own5 hg5)
          | (at_builtin; refine wpList_append_any w5 rfl _ _ 36 rfl w4.heap.size 9 i0 _ 1 16 Tryd.underlying36 hi0' hz0 hz1 hz2 rfl (by decide) (.slice A5 l.length c5) l.length (strv l) rfl O5.out w5.heap.size A1 more.length c1 (strv more) rfl (HM.out _ (HB13.out.nxt B5.out)) (strv_one _) (by simp only [maxLen]; omega) (by omega) S5.out ?_; intro v6 w6 own6 hg6 _; obtain ⟨A6, c6, rfl, _, _, _⟩ := own_form own6; have O6 := Lib.hid own6; have C6 : Hid (Below w3.heap.size w3 w6) := Lib.hid (B5.out.grown hg6 B5.out.size (fun k e => Nat.le_trans C4.out.size (O5.out.lt k e).1)); clear own6 hg6))
        refine (HVn.out _ _ _ (C3.out.nxt C6.out) (Reads.of_own O6.out)).mono ?_
        rintro e w7 ⟨rfl, hb7⟩
        have C7 := Lib.hid (C6.out.nxt hb7)
        clear hb7 own0 R4 B4 hsz4 HBX
        have HBX := C7
        go_wp2_with fail
        cases hsm : decide (sm = []) with
        | true =>
          have hs := of_decide_eq_true hsm
          subst hs
          have hl := HNl.out rfl
          subst hl
          clear hsm
          go_wp2_with fail
          refine (HRt.out _ HBX.out).mono ?_
          rintro e w5 ⟨rfl, hb5⟩
          have C5 := Lib.hid (HBX.out.nxt hb5)
          clear hb5
          go_wp2_with fail
          exact HP.out _ (HB13.out.nxt C5.out)
        | false =>
          have hs := of_decide_eq_false hsm
          have HO := Lib.hid (HVo.out hs)
          have ne1 : (sm.toArray = #[]) = False := by simp [hs]
          have ne2 : sm.isEmpty = false := by simp [hs]
          clear hsm hs
          go_wp2_with fail
          refine (HRt.out _ HBX.out).mono ?_
          rintro e w5 ⟨rfl, hb5⟩
          have C5 := Lib.hid (HBX.out.nxt hb5)
          clear hb5
          go_wp2_with fail
          refine (HO.out _ [97, 110, 111, 116, 104, 101, 114, 32, 114, 111, 111, 116, 32, 116, 104, 97, 116, 32, 110, 111, 116, 104, 105, 110, 103, 32, 99, 97, 110, 32, 104, 97, 118, 101] c2 (by decide) C5.out).mono ?_
          rintro e w6 ⟨rfl, hb6⟩
          have C6 := Lib.hid (C5.out.nxt hb6)
          clear hb6
          go_wp2_with fail
          refine (HO.out _ [] c2 (by decide) C6.out).mono ?_
          rintro e w7 ⟨rfl, hb7⟩
          have C7 := Lib.hid (C6.out.nxt hb7)
          clear hb7
          go_wp2_with fail
          exact HP.out _ (HB13.out.nxt C7.out)
end Go.Proofs.YtefcmigbdfeaiaaDoor
