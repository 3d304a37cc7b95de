import Derived.Test.YtefcmigbdfeaiaaDoorJ43
import Derived.Test.YtefcmigbdfeaiaaDoorJ37
import Derived.Test.YtefcmigbdfeaiaaDoorJ31
import Derived.Test.YtefcmigbdfeaiaaDoorJ01
set_option linter.unusedSimpArgs false
set_option linter.unusedVariables false
namespace Go.Proofs.YtefcmigbdfeaiaaDoor
set_option linter.unusedVariables false
open Go.RowKit Go.Instr
attribute [local go_sem] ba_get ByteArray.mk_append_mk
attribute [local go_sem ↓] Go.wp_at_zero Go.wp_at_succ
theorem Trie.provesF_succ (l : List (Int × List UInt8 × Int)) (i : Nat) : Trie.provesF l (i + 1) = Trie.provesF l i ++ (proveF l (i : Int)).1 := by
  unfold Trie.provesF
  rw [List.range_succ, List.flatMap_append]
  simp
theorem Trie.provesF_len {l : List (Int × List UInt8 × Int)} (h : ∀ i : Nat, (proveF l (i : Int)).1.length ≤ 17) (n : Nat) : (Trie.provesF l n).length ≤ 17 * n := by
  induction n with
  | zero => simp [Trie.provesF]
  | succ n ih =>
    rw [Trie.provesF_succ, List.length_append]
    have := h n
    omega
set_option maxRecDepth 100000 in
set_option maxHeartbeats 2000000 in
theorem sound_loop (w w0 : World) (l : List (Int × List UInt8 × Int)) (hl : l.length ≤ 8) (A : Option Addr) (c : Nat) (HPr : ∀ (i : Nat) W, Below w.heap.size w W → Calls Tryd.prog 46 #[.slice A l.length c, .int .i64 (i : Int)] W (TextsCEnd W (proveF l (i : Int))))
    (h17 : ∀ i : Nat, (proveF l (i : Int)).1.length ≤ 17) (nodes : List (List UInt8)) (hnl : nodes.length ≤ 20) (B : Nat) (hB : w.heap.size ≤ B) (A0 : Option Addr) (n0 c0 : Nat) (hn0 : n0 = nodes.length) (own : w0.ownsRow B 9 1 (.slice A0 n0 c0) n0 (strv nodes)) (hb0 : Below w.heap.size w w0) (hB0 : B ≤ w0.heap.size)
    (Q : Exit → Act → World → Prop) (p6 : Value)
    (hQ : ∀ (A2 : Option Addr) (n2 c2 : Nat) (s1 s2 s3 s4 s5 s7 s8 s9 s10 s11 s13 s14 s15 s16 s17 s18 s19 s20 s21 s22 s23 s24 s25 s26 s27 s28 s29 s30 s31 s32 s33 s34 s35 s36 s37 s38 s39 s40 s41 s42 s43 s44 s45 s46 s47 s48 s49 s50 s51 s52 s53 s54 s55 s56 s57 s58 s59 s60 s61 s62 s63 s64 s65 s66 s67 s68 s69 s70 s71 s72 s73 s74 s75 s76 s77 s78 s79 s80 s81 s82 s83 s84 s85 s86 s87 s88 s89 s90 s91 s92 : Value) (w2 : World), n2 = (nodes ++ Trie.provesF l l.length).length → w2.ownsRow B 9 1 (.slice A2 n2 c2) n2 (strv (nodes ++ Trie.provesF l l.length)) → Below w.heap.size w w2 → Q (.exit 0) { tmps := #[.slice A l.length c, s1, s2, s3, s4, s5, p6, s7, s8, s9, s10, s11, .slice A2 n2 c2, s13, s14, s15, s16, s17, s18, s19, s20, s21, s22, s23, s24, s25, s26, s27, s28, s29, s30, s31, s32, s33, s34, s35, s36, s37, s38, s39, s40, s41, s42, s43, s44, s45, s46, s47, s48, s49, s50, s51, s52, s53, s54, s55, s56, s57, s58, s59, s60, s61, s62, s63, s64, s65, s66, s67, s68, s69, s70, s71, s72, s73, s74, s75, s76, s77, s78, s79, s80, s81, s82, s83, s84, s85, s86, s87, s88, s89, s90, s91, s92], defers := [] } w2)
    (s1 s2 s3 s4 s5 s7 s8 s9 s10 s11 s13 s14 s15 s16 s17 s18 s19 s20 s21 s22 s23 s24 s25 s26 s27 s28 s29 s30 s31 s32 s33 s34 s35 s36 s37 s38 s39 s40 s41 s42 s43 s44 s45 s46 s47 s48 s49 s50 s51 s52 s53 s54 s55 s56 s57 s58 s59 s60 s61 s62 s63 s64 s65 s66 s67 s68 s69 s70 s71 s72 s73 s74 s75 s76 s79 s80 s81 s82 s83 s84 s85 s86 s87 s88 s89 s90 s91 s92 : Value) :
    Code.wp Tryd.prog (.loop (loopAt Tryd.f11 0)) Q { tmps := #[.slice A l.length c, s1, s2, s3, s4, s5, p6, s7, s8, s9, s10, s11, .slice A0 n0 c0, s13, s14, s15, s16, s17, s18, s19, s20, s21, s22, s23, s24, s25, s26, s27, s28, s29, s30, s31, s32, s33, s34, s35, s36, s37, s38, s39, s40, s41, s42, s43, s44, s45, s46, s47, s48, s49, s50, s51, s52, s53, s54, s55, s56, s57, s58, s59, s60, s61, s62, s63, s64, s65, s66, s67, s68, s69, s70, s71, s72, s73, s74, s75, s76, .int .i64 (l.length : Int), .int .i64 0, s79, s80, s81, s82, s83, s84, s85, s86, s87, s88, s89, s90, s91, s92], defers := [] } w0 := by
  have HQ := Lib.hid hQ
  have HPr := Lib.hid HPr
  have H17 := Lib.hid (fun n => Trie.provesF_len h17 n)
  have h17 := Lib.hid h17
  have HOw := Lib.hid (And.intro own (And.intro hb0 hB0))
  clear hQ own hb0 hB0
  refine wp_loop_ghost_k (fun k a wr => ∀ Φ : Act → Prop, (∀ (s1 s2 s3 s4 s5 s7 s8 s9 s10 s11 s13 s14 s15 s16 s17 s18 s19 s20 s21 s22 s23 s24 s25 s26 s27 s28 s29 s30 s31 s32 s33 s34 s35 s36 s37 s38 s39 s40 s41 s42 s43 s44 s45 s46 s47 s48 s49 s50 s51 s52 s53 s54 s55 s56 s57 s58 s59 s60 s61 s62 s63 s64 s65 s66 s67 s68 s69 s70 s71 s72 s73 s74 s75 s76 s79 s80 s81 s82 s83 s84 s85 s86 s87 s88 s89 s90 s91 s92 : Value) (i n ci : Nat) (Ai : Option Addr), (i + k = l.length ∧ n = (nodes ++ Trie.provesF l i).length ∧ wr.ownsRow B 9 1 (.slice Ai n ci) n (strv (nodes ++ Trie.provesF l i)) ∧ Below w.heap.size w wr ∧ B ≤ wr.heap.size) → Φ { tmps := #[.slice A l.length c, s1, s2, s3, s4, s5, p6, s7, s8, s9, s10, s11, .slice Ai n ci, s13, s14, s15, s16, s17, s18, s19, s20, s21, s22, s23, s24, s25, s26, s27, s28, s29, s30, s31, s32, s33, s34, s35, s36, s37, s38, s39, s40, s41, s42, s43, s44, s45, s46, s47, s48, s49, s50, s51, s52, s53, s54, s55, s56, s57, s58, s59, s60, s61, s62, s63, s64, s65, s66, s67, s68, s69, s70, s71, s72, s73, s74, s75, s76, .int .i64 (l.length : Int), .int .i64 (i : Int), s79, s80, s81, s82, s83, s84, s85, s86, s87, s88, s89, s90, s91, s92], defers := [] }) → Φ a) (l.length) ?_ ?_
  · refine fun Φ hΦ => hΦ _ _ _ _ _ _ _ _ _ _ _ _ _ _ _ _ _ _ _ _ _ _ _ _ _ _ _ _ _ _ _ _ _ _ _ _ _ _ _ _ _ _ _ _ _ _ _ _ _ _ _ _ _ _ _ _ _ _ _ _ _ _ _ _ _ _ _ _ _ _ _ _ _ _ _ _ _ _ _ _ _ _ _ _ _ _ _ _ (0) (n0) (c0) (A0) ?_
    exact ⟨by omega, by simp [hn0, Trie.provesF], by simpa [Trie.provesF] using HOw.out.1, HOw.out.2.1, HOw.out.2.2⟩
  · intro k1 a1 wr1 hI1 J1 K1 hJ1 hK1
    refine hI1 (fun a => Code.wp _ _ _ a _) ?_
    clear hI1 a1
    intro s0 s1 s2 s3 s4 s5 s6 s7 s8 s9 s10 s11 s12 s13 s14 s15 s16 s17 s18 s19 s20 s21 s22 s23 s24 s25 s26 s27 s28 s29 s30 s31 s32 s33 s34 s35 s36 s37 s38 s39 s40 s41 s42 s43 s44 s45 s46 s47 s48 s49 s50 s51 s52 s53 s54 s55 s56 s57 s58 s59 s60 s61 s62 s63 s64 s65 s66 s67 s68 s69 s70 s71 s72 s73 s74 s75 s76 s77 s78 s79 s80 s81 s82 s83 s84 s85 s86 s87 i n ci Ai hrel
    show Code.wp _ _ _ _ _
    conv => arg 2; whnf
    obtain ⟨h1, hn, own, hb, hB1⟩ := hrel
    by_cases hi : i < l.length
    · have hi1 : (i : Int) < (l.length : Int) := by omega
      have hi2 : (i : Int) + 1 ≤ 9223372036854775807 := by omega
      have HI := Lib.hid (And.intro h1 (And.intro hn (And.intro own (And.intro hb hB1))))
      have hlen := H17.out i
      have hn2 : n ≤ 1000 := by rw [hn, List.length_append]; omega
      have hp17 := h17.out i
      have HC := Lib.hid (HPr.out i wr1 hb)
      have HSu := Lib.hid (Trie.provesF_succ l i)
      clear h1 hn own hb hB1 hi hlen
      generalize Trie.provesF l i = pi at *
      generalize proveF l (i : Int) = pr at *
      obtain ⟨pf, pc⟩ := pr
      simp only at hp17 HSu
      obtain ⟨i0, hi0', hz0, hz1, hz2⟩ := info_parts info_str
      go_wp2_with fail
      refine HC.out.mono ?_
      rintro e w3 ⟨A3, n3, c3, rfl, hn3, own3, hb3⟩
      simp only at hn3 own3
      subst hn3
      have R3 := Lib.hid (Reads.of_own own3)
      have O3 := Lib.hid (own_below HI.out.2.2.1 hb3)
      have B3 := Lib.hid (HI.out.2.2.2.1.nxt hb3)
      have hS3 := Nat.le_trans HI.out.2.2.2.2 hb3.size
      clear own3 hb3
      go_wp2_with (at_builtin; refine wpList_append_any w3 rfl _ _ 36 rfl B 9 i0 _ 1 16 Tryd.underlying36 hi0' hz0 hz1 hz2 rfl (by decide) (.slice Ai n ci) n (strv (nodes ++ pi)) rfl O3.out w3.heap.size A3 pf.length c3 (strv pf) rfl R3.out (strv_one _) (by simp only [maxLen]; omega) (by omega) hS3 ?_; intro v6 w6 own6 hg6 _; obtain ⟨A6, c6, rfl, _, _, _⟩ := own_form own6; have O6 := Lib.hid own6; have C6 : Hid (Below w.heap.size w w6 ∧ B ≤ w6.heap.size) := Lib.hid ⟨B3.out.grown hg6 B3.out.size (fun k e => Nat.le_trans hB (O3.out.lt k e).1), Nat.le_trans hS3 hg6.size⟩; clear own6 hg6)
      refine Handed.intro (l.length - (i + 1)) ?_ (hJ1 _ _ _ (fun Φ hΦ => hΦ _ _ _ _ _ _ _ _ _ _ _ _ _ _ _ _ _ _ _ _ _ _ _ _ _ _ _ _ _ _ _ _ _ _ _ _ _ _ _ _ _ _ _ _ _ _ _ _ _ _ _ _ _ _ _ _ _ _ _ _ _ _ _ _ _ _ _ _ _ _ _ _ _ _ _ _ _ _ _ _ _ _ _ _ _ _ _ _ (i + 1) (n + pf.length) (c6) (A6) ?_))
      · have := HI.out.1; omega
      have e1 : nodes ++ Trie.provesF l (i + 1) = (nodes ++ pi) ++ pf := by rw [HSu.out, List.append_assoc]
      have hX := HI.out.2.1
      refine ⟨by have := HI.out.1; omega, ?_, ?_, C6.out.1, C6.out.2⟩
      · rw [e1, List.length_append, ← hX]
      · rw [e1]
        have := O6.out
        unfold strv at this ⊢
        rwa [List.map_append]
    · have hi1 : ((i : Int) < (l.length : Int)) = False := by simp; omega
      obtain rfl : i = l.length := by omega
      have HI := Lib.hid (And.intro hn (And.intro own hb))
      clear h1 hn own hb hB1 hi
      go_wp2
      exact HQ.out _ _ _ _ _ _ _ _ _ _ _ _ _ _ _ _ _ _ _ _ _ _ _ _ _ _ _ _ _ _ _ _ _ _ _ _ _ _ _ _ _ _ _ _ _ _ _ _ _ _ _ _ _ _ _ _ _ _ _ _ _ _ _ _ _ _ _ _ _ _ _ _ _ _ _ _ _ _ _ _ _ _ _ _ _ _ _ _ _ _ _ _ _ _ HI.out.1 HI.out.2.1 HI.out.2.2
theorem verifyF_bad {root : List UInt8} {at_ : Int} {nodes : List (List UInt8)} (h : (verifyF root at_ nodes).2.2 ≠ 0 ∨ (verifyF root at_ nodes).2.1 = false) : (verifyF root at_ nodes).1 = (0, [], 0) ∧ (verifyF root at_ nodes).2.1 = false := by
  unfold verifyF at h ⊢
  split
  · exact ⟨rfl, rfl⟩
  · rename_i h0
    rw [if_neg h0] at h
    split
    · exact ⟨rfl, rfl⟩
    · rename_i h1
      rw [if_neg h1] at h
      split
      · exact ⟨rfl, rfl⟩
      · rename_i h2
        rw [if_neg h2] at h
        simp at h
set_option maxRecDepth 100000 in
set_option maxHeartbeats 4000000 in
theorem law_ReceiptSound (w : World) (l : List (Int × List UInt8 × Int)) (hs : ∀ x ∈ l, x.2.1.length ≤ 9223372036854775807) (at_ : Int) (A : Option Addr) (c : Nat) (HR : Reads w w.heap.size 3 A l.length (rcells l)) (A1 : Option Addr) (c1 : Nat) (nodes : List (List UInt8)) (HR1 : Reads w w.heap.size 1 A1 nodes.length (strv nodes)) (hT : Tbl w) :
    Calls Tryd.prog 11 #[.slice A l.length c, .int .i64 at_, .slice A1 nodes.length c1] w fun e w' => e = .returned (.bool true) ∧ Below w.heap.size w w' := by
  have HP : Hid (∀ w', Below w.heap.size w w' → (fun e w' => e = Ending.returned (.bool true) ∧ Below w.heap.size w w') (Ending.returned (.bool true)) w') := Lib.hid (fun W' a2 => ⟨rfl, a2⟩)
  generalize (fun e w' => e = Ending.returned (.bool true) ∧ Below w.heap.size w w') = P at HP ⊢
  have HRd := Lib.hid (fun W (hW : Below w.heap.size w W) => (HR.below hW).more hW.size)
  have HN := Lib.hid (fun W (hW : Below w.heap.size w W) => (HR1.below hW).more hW.size)
  have HTb := Lib.hid (fun W (hW : Below w.heap.size w W) => hT.next hW)
  have HWk := Lib.hid (fun W (hW : Below w.heap.size w W) => law17_works W (hT.next hW))
  have HRo := Lib.hid (fun W (hW : Below w.heap.size w W) => receipt_RootF l hs W (hT.next hW) A c (HRd.out W hW))
  have HPri := Lib.hid (fun (i : Nat) W (hW : Below w.heap.size w W) => receipt_Prove l hs (i : Int) W (hT.next hW) A c (HRd.out W hW))
  have HRw := Lib.hid HR
  clear HR HR1 hT hs
  go_enter Tryd.func11, Tryd.ntmps11
  go_wp2_with fail
  refine (HWk.out _ (Below.refl _ _)).mono ?_
  rintro e w1 ⟨rfl, hb1⟩
  have B1 := Lib.hid hb1
  clear hb1
  go_wp2_with fail
  refine (HRo.out _ B1.out).mono ?_
  rintro e w2 ⟨rfl, hb2⟩
  have B2 := Lib.hid (B1.out.nxt hb2)
  clear hb2
  by_cases he : (treeF l).2 = 0
  rotate_left
  · rw [if_neg he]
    have hc1 : (((treeF l).2 : Int) != 0) = true := by simp; exact he
    generalize (treeF l).2 = cd at *
    clear he
    go_wp2_with fail
    exact HP.out _ B2.out
  rw [if_pos he, he]
  go_wp2_with fail
  refine (book_Few _ A1 c1 nodes 20 700 (HN.out _ B2.out) (by omega) (by omega)).mono ?_
  rintro e w3 ⟨rfl, hb3⟩
  have B3 := Lib.hid (B2.out.nxt hb3)
  clear hb3
  cases hfew : fewW nodes 20 700 with
  | false =>
    clear hfew he
    go_wp2_with fail
    exact HP.out _ B3.out
  | true =>
  have HFw : Hid (nodes.length ≤ 20 ∧ ∀ x ∈ nodes, x.length ≤ 700) := Lib.hid (by
    unfold fewW at hfew
    simp at hfew
    exact hfew)
  clear hfew
  have h8 := (Trie.treeF_look he).1
  have hg := (Trie.treeF_look he).2.1
  have HSd := Lib.hid (Trie.receipt_sound he at_ nodes)
  have HBad := Lib.hid (verifyF_bad (root := Trie.sumT (treeF l).1) (at_ := at_) (nodes := nodes))
  have h17 : Hid (∀ i : Nat, (proveF l (i : Int)).1.length ≤ 17) := Lib.hid (fun i => by
    by_cases hi : i < 256
    · exact (Trie.shown_at he i hi).2.1
    · unfold proveF
      rw [if_neg (by simp [he]), if_pos (.inr (by omega))]
      simp)
  have H900 : Hid (∀ x ∈ nodes ++ Trie.provesF l l.length, x.length ≤ 900000) := Lib.hid (fun x hx => by
    rcases List.mem_append.1 hx with h | h
    · have := HFw.out.2 x h; omega
    · obtain ⟨i, _, h⟩ := List.mem_flatMap.1 h
      have := told_700m hg _ x (Trie.proveF_len _ x h); omega)
  have HUn : Hid ((∃ x ∈ nodes ++ Trie.provesF l l.length, ∃ y ∈ nodes ++ Trie.provesF l l.length, x ≠ y ∧ shaW (1 :: x) = shaW (1 :: y)) → unlikeW (nodes ++ Trie.provesF l l.length) = true) := Lib.hid (fun ⟨x, hx, y, hy, hne, hsum⟩ => unlikeW_of hx hy hne hsum)
  have HVr := Lib.hid (receipt_Verify (Trie.sumT (treeF l).1) at_ w3 (HTb.out _ B3.out) nodes A1 c1 (HN.out _ B3.out) (by have := HFw.out.1; omega) (fun x hx => by have := HFw.out.2 x hx; omega))
  have HOk := Lib.hid (Trie.treeF_look he).2.2.1
  have HK0 : Hid ((verifyF (Trie.sumT (treeF l).1) at_ nodes).2.1 = true → 0 ≤ at_) := Lib.hid (fun h => by
    unfold verifyF at h
    split at h
    · cases h
    · omega)
  clear he hg
  generalize verifyF (Trie.sumT (treeF l).1) at_ nodes = r at *
  generalize Trie.sumT (treeF l).1 = sm at *
  obtain ⟨⟨xn, xt, xq⟩, th, f⟩ := r
  simp only at HSd HBad HK0
  go_wp2_with fail
  refine HVr.out.mono ?_
  rintro e w4 ⟨rfl, hb4⟩
  have B4 := Lib.hid (B3.out.nxt hb4)
  have HAl : Hid (∀ f, Below w.heap.size w (w4.alloc (.cells f 76))) := Lib.hid (fun f => B4.out.nxt (by go_grown))
  have HBk : Hid (∀ f, Blk (w4.alloc (.cells f 76)) w4.heap.size 76 f) := Lib.hid (fun f => Blk.new _ _ _)
  clear hb4 HVr B4 B3 B2 B1 HRo HWk
  unfold rcV
  simp only
  go_upto_region 7 with fail
  have F5 : Hid (Blk (w4.alloc (.cells #[.int .i64 (xn : Int), .string ⟨xt.toArray⟩, .int .i64 (xq : Int)] 76)) w4.heap.size 76 #[.int .i64 (xn : Int), .string ⟨xt.toArray⟩, .int .i64 (xq : Int)] ∧ Below w.heap.size w (w4.alloc (.cells #[.int .i64 (xn : Int), .string ⟨xt.toArray⟩, .int .i64 (xq : Int)] 76))) := Lib.hid ⟨HBk.out _, HAl.out _⟩
  generalize w4.alloc (.cells #[.int .i64 (xn : Int), .string ⟨xt.toArray⟩, .int .i64 (xq : Int)] 76) = W5 at F5 ⊢
  generalize w4.heap.size = X at F5 ⊢
  have k0 : W5.cell? ⟨X, 0, none⟩ = some (.int .i64 (xn : Int)) := F5.out.1.cell 0
  have k1 : W5.cell? ⟨X, 1, none⟩ = some (.string ⟨xt.toArray⟩) := F5.out.1.cell 1
  have k2 : W5.cell? ⟨X, 2, none⟩ = some (.int .i64 (xq : Int)) := F5.out.1.cell 2
  have BZ := Lib.hid F5.out.2
  clear HAl HBk F5
  by_cases h1 : f = 1
  · obtain ⟨z1, z2⟩ := HBad.out (.inl (by omega))
    injection z1 with z3 z4
    injection z4 with z4 z5
    subst h1 z2 z3 z4 z5
    clear HSd HBad HUn
    go_wp2_with fail
    exact HP.out _ BZ.out
  by_cases h2 : f = 130
  · obtain ⟨z1, z2⟩ := HBad.out (.inl (by omega))
    injection z1 with z3 z4
    injection z4 with z4 z5
    subst h2 z2 z3 z4 z5
    clear HSd HBad HUn
    go_wp2_with fail
    exact HP.out _ BZ.out
  have g1 : ((f : Int) == 1) = false := by simp; omega
  have g2 : ((f : Int) == 130) = false := by simp; omega
  by_cases h3 : f = 0
  rotate_left
  · obtain ⟨z1, z2⟩ := HBad.out (.inl h3)
    subst z2
    have hun : Hid (unlikeW (nodes ++ Trie.provesF l l.length) = true) := Lib.hid (by
      rcases HSd.out with ⟨h | h, _⟩ | h | ⟨k, _, h⟩
      · exact absurd h h1
      · exact absurd h h2
      · exact HUn.out h
      · exfalso
        split at h
        · injection h with _ h; injection h with _ h; exact h3 h
        · injection h with _ h; injection h with _ h; exact h3 h)
    have g3 : ((f : Int) == 0) = false := by simp; omega
    clear HSd HBad HUn z1 h1 h2 h3
    go_upto_region 9 with fail
    have HNx : Hid (∀ n, Below w.heap.size w (W5.drewN n)) := Lib.hid (fun n => below_drewN BZ.out n)
    go_quiet (fail)
    rename_i nq
    have BZ := Lib.hid (HNx.out nq)
    clear HNx
    generalize W5.drewN nq = WZ at *
    obtain ⟨i0, hi0', hz0, hz1, hz2⟩ := info_parts info_str
    have B4 : Hid (Below w.heap.size w (WZ.alloc (.cells #[] 9))) := Lib.hid (BZ.out.alloc BZ.out.size _)
    have own0 : (WZ.alloc (.cells #[] 9)).ownsRow WZ.heap.size 9 1 (.slice (some ⟨WZ.heap.size, 0, none⟩) 0 0) 0 [] := World.ownsRow_made WZ #[] 0 (Nat.le_refl _) (by simp only [maxLen]; omega) rfl
    have hsz0 : WZ.heap.size ≤ (WZ.alloc (.cells #[] 9)).heap.size := ((Below.refl WZ.heap.size WZ).alloc (Nat.le_refl _) _).size
    have R4 := HN.out _ B4.out
    have hnl := HFw.out.1
    go_wp2_with (at_builtin; refine wpList_append_any (WZ.alloc (.cells #[] 9)) rfl _ _ 36 rfl WZ.heap.size 9 i0 _ 1 16 Tryd.underlying36 hi0' hz0 hz1 hz2 rfl (by decide) (.slice (some ⟨WZ.heap.size, 0, none⟩) 0 0) 0 [] rfl own0 (WZ.alloc (.cells #[] 9)).heap.size A1 nodes.length c1 (strv nodes) rfl R4 (strv_one _) (by simp only [maxLen]; omega) (by omega) hsz0 ?_; intro v5 w5 own5 hg5 _; rw [Nat.zero_add, List.nil_append] at own5; obtain ⟨A5, c5, rfl, _, _, _⟩ := own_form own5; have O5 := Lib.hid (And.intro own5 hg5); clear own5 hg5)
    have B5 : Hid (Below w.heap.size w w5) := Lib.hid (B4.out.grown O5.out.2 B4.out.size (fun k e => by injection e with e; exact Nat.le_trans BZ.out.size (Nat.le_of_eq e)))
    have S5 := Lib.hid (Nat.le_trans hsz0 O5.out.2.size)
    clear own0 R4 hsz0 B4
    refine sound_loop w w5 l h8 _ c HPri.out h17.out nodes hnl WZ.heap.size BZ.out.size A5 nodes.length c5 rfl O5.out.1 B5.out S5.out _ _ ?_ _ _ _ _ _ _ _ _ _ _ _ _ _ _ _ _ _ _ _ _ _ _ _ _ _ _ _ _ _ _ _ _ _ _ _ _ _ _ _ _ _ _ _ _ _ _ _ _ _ _ _ _ _ _ _ _ _ _ _ _ _ _ _ _ _ _ _ _ _ _ _ _ _ _ _ _ _ _ _ _ _ _ _ _ _ _ _ _
    intro A2 n2 c2 s1 s2 s3 s4 s5 s7 s8 s9 s10 s11 s13 s14 s15 s16 s17 s18 s19 s20 s21 s22 s23 s24 s25 s26 s27 s28 s29 s30 s31 s32 s33 s34 s35 s36 s37 s38 s39 s40 s41 s42 s43 s44 s45 s46 s47 s48 s49 s50 s51 s52 s53 s54 s55 s56 s57 s58 s59 s60 s61 s62 s63 s64 s65 s66 s67 s68 s69 s70 s71 s72 s73 s74 s75 s76 s77 s78 s79 s80 s81 s82 s83 s84 s85 s86 s87 s88 s89 s90 s91 s92 w6 hn6 own6 hb6
    have B6 := Lib.hid hb6
    rw [hn6] at own6
    have HU := Lib.hid (ref04_Unlike w6 (nodes ++ Trie.provesF l l.length) A2 c2 (Reads.of_own own6) (by rw [List.length_append]; have := Trie.provesF_len h17.out l.length; omega) H900.out)
    rw [hun.out, ← hn6] at HU
    clear own6 hb6 O5 B5 S5 hn6
    go_wp2_with fail
    refine HU.out.mono ?_
    rintro e w7 ⟨rfl, hb7⟩
    go_wp2_with fail
    exact HP.out _ (B6.out.nxt hb7)
  subst h3
  cases th with
  | false =>
    obtain ⟨z1, _⟩ := HBad.out (.inr rfl)
    injection z1 with z3 z4
    injection z4 with z4 z5
    subst z3 z4 z5
    by_cases hat : at_ < (l.length : Int)
    · have hun : Hid (unlikeW (nodes ++ Trie.provesF l l.length) = true) := Lib.hid (by
        rcases HSd.out with ⟨h | h, _⟩ | h | ⟨k, rfl, h⟩
        · exact absurd h h1
        · exact absurd h h2
        · exact HUn.out h
        · exfalso
          have hk : k < l.length := by omega
          rw [dif_pos hk] at h
          injection h with _ h; injection h with h _; cases h)
      clear HSd HBad HUn h1 h2 g1 g2
      go_upto_region 9 with fail
      have HNx : Hid (∀ n, Below w.heap.size w (W5.drewN n)) := Lib.hid (fun n => below_drewN BZ.out n)
      go_quiet (fail)
      rename_i nq
      have BZ := Lib.hid (HNx.out nq)
      clear HNx
      generalize W5.drewN nq = WZ at *
      obtain ⟨i0, hi0', hz0, hz1, hz2⟩ := info_parts info_str
      have B4 : Hid (Below w.heap.size w (WZ.alloc (.cells #[] 9))) := Lib.hid (BZ.out.alloc BZ.out.size _)
      have own0 : (WZ.alloc (.cells #[] 9)).ownsRow WZ.heap.size 9 1 (.slice (some ⟨WZ.heap.size, 0, none⟩) 0 0) 0 [] := World.ownsRow_made WZ #[] 0 (Nat.le_refl _) (by simp only [maxLen]; omega) rfl
      have hsz0 : WZ.heap.size ≤ (WZ.alloc (.cells #[] 9)).heap.size := ((Below.refl WZ.heap.size WZ).alloc (Nat.le_refl _) _).size
      have R4 := HN.out _ B4.out
      have hnl := HFw.out.1
      go_wp2_with (at_builtin; refine wpList_append_any (WZ.alloc (.cells #[] 9)) rfl _ _ 36 rfl WZ.heap.size 9 i0 _ 1 16 Tryd.underlying36 hi0' hz0 hz1 hz2 rfl (by decide) (.slice (some ⟨WZ.heap.size, 0, none⟩) 0 0) 0 [] rfl own0 (WZ.alloc (.cells #[] 9)).heap.size A1 nodes.length c1 (strv nodes) rfl R4 (strv_one _) (by simp only [maxLen]; omega) (by omega) hsz0 ?_; intro v5 w5 own5 hg5 _; rw [Nat.zero_add, List.nil_append] at own5; obtain ⟨A5, c5, rfl, _, _, _⟩ := own_form own5; have O5 := Lib.hid (And.intro own5 hg5); clear own5 hg5)
      have B5 : Hid (Below w.heap.size w w5) := Lib.hid (B4.out.grown O5.out.2 B4.out.size (fun k e => by injection e with e; exact Nat.le_trans BZ.out.size (Nat.le_of_eq e)))
      have S5 := Lib.hid (Nat.le_trans hsz0 O5.out.2.size)
      clear own0 R4 hsz0 B4
      refine sound_loop w w5 l h8 _ c HPri.out h17.out nodes hnl WZ.heap.size BZ.out.size A5 nodes.length c5 rfl O5.out.1 B5.out S5.out _ _ ?_ _ _ _ _ _ _ _ _ _ _ _ _ _ _ _ _ _ _ _ _ _ _ _ _ _ _ _ _ _ _ _ _ _ _ _ _ _ _ _ _ _ _ _ _ _ _ _ _ _ _ _ _ _ _ _ _ _ _ _ _ _ _ _ _ _ _ _ _ _ _ _ _ _ _ _ _ _ _ _ _ _ _ _ _ _ _ _ _
      intro A2 n2 c2 s1 s2 s3 s4 s5 s7 s8 s9 s10 s11 s13 s14 s15 s16 s17 s18 s19 s20 s21 s22 s23 s24 s25 s26 s27 s28 s29 s30 s31 s32 s33 s34 s35 s36 s37 s38 s39 s40 s41 s42 s43 s44 s45 s46 s47 s48 s49 s50 s51 s52 s53 s54 s55 s56 s57 s58 s59 s60 s61 s62 s63 s64 s65 s66 s67 s68 s69 s70 s71 s72 s73 s74 s75 s76 s77 s78 s79 s80 s81 s82 s83 s84 s85 s86 s87 s88 s89 s90 s91 s92 w6 hn6 own6 hb6
      have B6 := Lib.hid hb6
      rw [hn6] at own6
      have HU := Lib.hid (ref04_Unlike w6 (nodes ++ Trie.provesF l l.length) A2 c2 (Reads.of_own own6) (by rw [List.length_append]; have := Trie.provesF_len h17.out l.length; omega) H900.out)
      rw [hun.out, ← hn6] at HU
      clear own6 hb6 O5 B5 S5 hn6
      go_wp2_with fail
      refine HU.out.mono ?_
      rintro e w7 ⟨rfl, hb7⟩
      go_wp2_with fail
      exact HP.out _ (B6.out.nxt hb7)
    · have hat2 : (at_ < (l.length : Int)) = False := by simp; omega
      clear HSd HBad HUn h1 h2 g1 g2
      go_upto_region 9 with fail
      have HNx : Hid (∀ n, Below w.heap.size w (W5.drewN n)) := Lib.hid (fun n => below_drewN BZ.out n)
      go_quiet (fail)
      rename_i nq
      have BZ := Lib.hid (HNx.out nq)
      clear HNx
      generalize W5.drewN nq = WZ at *
      go_wp2_with fail
      exact HP.out _ BZ.out
  | true =>
    by_cases hat : at_ < (l.length : Int)
    rotate_left
    · have hun : Hid (unlikeW (nodes ++ Trie.provesF l l.length) = true) := Lib.hid (by
        rcases HSd.out with ⟨h | h, _⟩ | h | ⟨k, rfl, h⟩
        · exact absurd h h1
        · exact absurd h h2
        · exact HUn.out h
        · exfalso
          have hk : ¬ k < l.length := by omega
          rw [dif_neg hk] at h
          injection h with _ h; injection h with h _; cases h)
      have hat2 : (at_ < (l.length : Int)) = False := by simp; omega
      clear HSd HBad HUn h1 h2 g1 g2
      go_upto_region 9 with fail
      have HNx : Hid (∀ n, Below w.heap.size w (W5.drewN n)) := Lib.hid (fun n => below_drewN BZ.out n)
      go_quiet (fail)
      rename_i nq
      have BZ := Lib.hid (HNx.out nq)
      clear HNx
      generalize W5.drewN nq = WZ at *
      obtain ⟨i0, hi0', hz0, hz1, hz2⟩ := info_parts info_str
      have B4 : Hid (Below w.heap.size w (WZ.alloc (.cells #[] 9))) := Lib.hid (BZ.out.alloc BZ.out.size _)
      have own0 : (WZ.alloc (.cells #[] 9)).ownsRow WZ.heap.size 9 1 (.slice (some ⟨WZ.heap.size, 0, none⟩) 0 0) 0 [] := World.ownsRow_made WZ #[] 0 (Nat.le_refl _) (by simp only [maxLen]; omega) rfl
      have hsz0 : WZ.heap.size ≤ (WZ.alloc (.cells #[] 9)).heap.size := ((Below.refl WZ.heap.size WZ).alloc (Nat.le_refl _) _).size
      have R4 := HN.out _ B4.out
      have hnl := HFw.out.1
      go_wp2_with (at_builtin; refine wpList_append_any (WZ.alloc (.cells #[] 9)) rfl _ _ 36 rfl WZ.heap.size 9 i0 _ 1 16 Tryd.underlying36 hi0' hz0 hz1 hz2 rfl (by decide) (.slice (some ⟨WZ.heap.size, 0, none⟩) 0 0) 0 [] rfl own0 (WZ.alloc (.cells #[] 9)).heap.size A1 nodes.length c1 (strv nodes) rfl R4 (strv_one _) (by simp only [maxLen]; omega) (by omega) hsz0 ?_; intro v5 w5 own5 hg5 _; rw [Nat.zero_add, List.nil_append] at own5; obtain ⟨A5, c5, rfl, _, _, _⟩ := own_form own5; have O5 := Lib.hid (And.intro own5 hg5); clear own5 hg5)
      have B5 : Hid (Below w.heap.size w w5) := Lib.hid (B4.out.grown O5.out.2 B4.out.size (fun k e => by injection e with e; exact Nat.le_trans BZ.out.size (Nat.le_of_eq e)))
      have S5 := Lib.hid (Nat.le_trans hsz0 O5.out.2.size)
      clear own0 R4 hsz0 B4
      refine sound_loop w w5 l h8 _ c HPri.out h17.out nodes hnl WZ.heap.size BZ.out.size A5 nodes.length c5 rfl O5.out.1 B5.out S5.out _ _ ?_ _ _ _ _ _ _ _ _ _ _ _ _ _ _ _ _ _ _ _ _ _ _ _ _ _ _ _ _ _ _ _ _ _ _ _ _ _ _ _ _ _ _ _ _ _ _ _ _ _ _ _ _ _ _ _ _ _ _ _ _ _ _ _ _ _ _ _ _ _ _ _ _ _ _ _ _ _ _ _ _ _ _ _ _ _ _ _ _
      intro A2 n2 c2 s1 s2 s3 s4 s5 s7 s8 s9 s10 s11 s13 s14 s15 s16 s17 s18 s19 s20 s21 s22 s23 s24 s25 s26 s27 s28 s29 s30 s31 s32 s33 s34 s35 s36 s37 s38 s39 s40 s41 s42 s43 s44 s45 s46 s47 s48 s49 s50 s51 s52 s53 s54 s55 s56 s57 s58 s59 s60 s61 s62 s63 s64 s65 s66 s67 s68 s69 s70 s71 s72 s73 s74 s75 s76 s77 s78 s79 s80 s81 s82 s83 s84 s85 s86 s87 s88 s89 s90 s91 s92 w6 hn6 own6 hb6
      have B6 := Lib.hid hb6
      rw [hn6] at own6
      have HU := Lib.hid (ref04_Unlike w6 (nodes ++ Trie.provesF l l.length) A2 c2 (Reads.of_own own6) (by rw [List.length_append]; have := Trie.provesF_len h17.out l.length; omega) H900.out)
      rw [hun.out, ← hn6] at HU
      clear own6 hb6 O5 B5 S5 hn6
      go_wp2_with fail
      refine HU.out.mono ?_
      rintro e w7 ⟨rfl, hb7⟩
      go_wp2_with fail
      exact HP.out _ (B6.out.nxt hb7)
    have hk0 : 0 ≤ at_ := HK0.out rfl
    obtain ⟨k, rfl⟩ := Int.eq_ofNat_of_zero_le hk0
    have hi : k < l.length := by omega
    have ic := rcells_at hi
    have hil := rcells_length l
    obtain ⟨ad, off, hAe, hbl, hcell⟩ := HRw.out.form (by omega) (by omega)
    subst hAe
    have e0 : (rcells l)[3 * k]'(by omega) = .int .i64 l[k].1 := by
      have := ic.1; rw [List.getElem?_eq_getElem (by omega)] at this; exact Option.some.inj this
    have e1 : (rcells l)[3 * k + 1]'(by omega) = .string ⟨l[k].2.1.toArray⟩ := by
      have := ic.2.1; rw [List.getElem?_eq_getElem (by omega)] at this; exact Option.some.inj this
    have e2 : (rcells l)[3 * k + 2]'(by omega) = .int .i64 l[k].2.2 := by
      have := ic.2.2; rw [List.getElem?_eq_getElem (by omega)] at this; exact Option.some.inj this
    have q0 := hcell (3 * k) (by omega)
    have q1 := hcell (3 * k + 1) (by omega)
    have q2 := hcell (3 * k + 2) (by omega)
    rw [e0] at q0
    rw [e1] at q1
    rw [e2] at q2
    have r0 : W5.cell? ⟨ad, off + k * 3, none⟩ = some (.int .i64 l[k].1) := by
      rw [show k * 3 = 3 * k by omega]; exact (BZ.out.cell (p := ⟨ad, off + 3 * k, none⟩) hbl).trans q0
    have r1 : W5.cell? ⟨ad, off + k * 3 + 1, none⟩ = some (.string ⟨l[k].2.1.toArray⟩) := by
      rw [show off + k * 3 + 1 = off + (3 * k + 1) by omega]; exact (BZ.out.cell (p := ⟨ad, off + (3 * k + 1), none⟩) hbl).trans q1
    have r2 : W5.cell? ⟨ad, off + k * 3 + 2, none⟩ = some (.int .i64 l[k].2.2) := by
      rw [show off + k * 3 + 2 = off + (3 * k + 2) by omega]; exact (BZ.out.cell (p := ⟨ad, off + (3 * k + 2), none⟩) hbl).trans q2
    have HEq : Hid (unlikeW (nodes ++ Trie.provesF l l.length) = true ∨ (((xn : Int) == l[k].1) && ((xt == l[k].2.1) && ((xq : Int) == l[k].2.2))) = true) := Lib.hid (by
      rcases HSd.out with ⟨h | h, _⟩ | h | ⟨k', hkk, h⟩
      · exact absurd h h1
      · exact absurd h h2
      · exact .inl (HUn.out h)
      · right
        have : k' = k := by omega
        subst this
        rw [dif_pos hi] at h
        injection h with h _
        injection h with z1 h
        injection h with z2 z3
        have hx := HOk.out _ (List.getElem_mem hi)
        obtain ⟨x0, _, _, _, x4, _⟩ := hx
        rw [z1, z2, z3, Int.toNat_of_nonneg x0, Int.toNat_of_nonneg x4]
        simp)
    have g4 : (k : Int) < (l.length : Int) := by omega
    have g5 : (0 : Int) ≤ (k : Int) := by omega
    clear HSd HBad HUn h1 h2 g1 g2 ic hil hcell e0 e1 e2 q0 q1 q2 HRw HOk hk0 HK0
    generalize l[k] = y at *
    obtain ⟨yc, yf, yq⟩ := y
    simp only at r0 r1 r2 HEq
    clear hi
    have hat' := hat
    clear hat
    by_cases hb : (((xn : Int) == yc) && ((xt == yf) && ((xq : Int) == yq))) = true
    · simp only [Bool.and_eq_true] at hb
      obtain ⟨hb1, hb2, hb3⟩ := hb
      clear HEq
      go_upto_region 9 with fail
      have HNx : Hid (∀ n, Below w.heap.size w (W5.drewN n)) := Lib.hid (fun n => below_drewN BZ.out n)
      go_quiet (fail)
      rename_i nq
      have BZ := Lib.hid (HNx.out nq)
      clear HNx
      generalize W5.drewN nq = WZ at *
      go_wp2_with fail
      exact HP.out _ BZ.out
    · have hun : Hid (unlikeW (nodes ++ Trie.provesF l l.length) = true) := Lib.hid (HEq.out.resolve_right hb)
      clear HEq
      cases hb1 : ((xn : Int) == yc) with
      | false =>
        clear hb
        go_upto_region 9 with fail
        have HNx : Hid (∀ n, Below w.heap.size w (W5.drewN n)) := Lib.hid (fun n => below_drewN BZ.out n)
        go_quiet (fail)
        rename_i nq
        have BZ := Lib.hid (HNx.out nq)
        clear HNx
        generalize W5.drewN nq = WZ at *
        obtain ⟨i0, hi0', hz0, hz1, hz2⟩ := info_parts info_str
        have B4 : Hid (Below w.heap.size w (WZ.alloc (.cells #[] 9))) := Lib.hid (BZ.out.alloc BZ.out.size _)
        have own0 : (WZ.alloc (.cells #[] 9)).ownsRow WZ.heap.size 9 1 (.slice (some ⟨WZ.heap.size, 0, none⟩) 0 0) 0 [] := World.ownsRow_made WZ #[] 0 (Nat.le_refl _) (by simp only [maxLen]; omega) rfl
        have hsz0 : WZ.heap.size ≤ (WZ.alloc (.cells #[] 9)).heap.size := ((Below.refl WZ.heap.size WZ).alloc (Nat.le_refl _) _).size
        have R4 := HN.out _ B4.out
        have hnl := HFw.out.1
        go_wp2_with (at_builtin; refine wpList_append_any (WZ.alloc (.cells #[] 9)) rfl _ _ 36 rfl WZ.heap.size 9 i0 _ 1 16 Tryd.underlying36 hi0' hz0 hz1 hz2 rfl (by decide) (.slice (some ⟨WZ.heap.size, 0, none⟩) 0 0) 0 [] rfl own0 (WZ.alloc (.cells #[] 9)).heap.size A1 nodes.length c1 (strv nodes) rfl R4 (strv_one _) (by simp only [maxLen]; omega) (by omega) hsz0 ?_; intro v5 w5 own5 hg5 _; rw [Nat.zero_add, List.nil_append] at own5; obtain ⟨A5, c5, rfl, _, _, _⟩ := own_form own5; have O5 := Lib.hid (And.intro own5 hg5); clear own5 hg5)
        have B5 : Hid (Below w.heap.size w w5) := Lib.hid (B4.out.grown O5.out.2 B4.out.size (fun k e => by injection e with e; exact Nat.le_trans BZ.out.size (Nat.le_of_eq e)))
        have S5 := Lib.hid (Nat.le_trans hsz0 O5.out.2.size)
        clear own0 R4 hsz0 B4
        refine sound_loop w w5 l h8 _ c HPri.out h17.out nodes hnl WZ.heap.size BZ.out.size A5 nodes.length c5 rfl O5.out.1 B5.out S5.out _ _ ?_ _ _ _ _ _ _ _ _ _ _ _ _ _ _ _ _ _ _ _ _ _ _ _ _ _ _ _ _ _ _ _ _ _ _ _ _ _ _ _ _ _ _ _ _ _ _ _ _ _ _ _ _ _ _ _ _ _ _ _ _ _ _ _ _ _ _ _ _ _ _ _ _ _ _ _ _ _ _ _ _ _ _ _ _ _ _ _ _
        intro A2 n2 c2 s1 s2 s3 s4 s5 s7 s8 s9 s10 s11 s13 s14 s15 s16 s17 s18 s19 s20 s21 s22 s23 s24 s25 s26 s27 s28 s29 s30 s31 s32 s33 s34 s35 s36 s37 s38 s39 s40 s41 s42 s43 s44 s45 s46 s47 s48 s49 s50 s51 s52 s53 s54 s55 s56 s57 s58 s59 s60 s61 s62 s63 s64 s65 s66 s67 s68 s69 s70 s71 s72 s73 s74 s75 s76 s77 s78 s79 s80 s81 s82 s83 s84 s85 s86 s87 s88 s89 s90 s91 s92 w6 hn6 own6 hb6
        have B6 := Lib.hid hb6
        rw [hn6] at own6
        have HU := Lib.hid (ref04_Unlike w6 (nodes ++ Trie.provesF l l.length) A2 c2 (Reads.of_own own6) (by rw [List.length_append]; have := Trie.provesF_len h17.out l.length; omega) H900.out)
        rw [hun.out, ← hn6] at HU
        clear own6 hb6 O5 B5 S5 hn6
        go_wp2_with fail
        refine HU.out.mono ?_
        rintro e w7 ⟨rfl, hb7⟩
        go_wp2_with fail
        exact HP.out _ (B6.out.nxt hb7)
      | true =>
      cases hb2 : (xt == yf) with
      | false =>
        clear hb
        go_upto_region 9 with fail
        have HNx : Hid (∀ n, Below w.heap.size w (W5.drewN n)) := Lib.hid (fun n => below_drewN BZ.out n)
        go_quiet (fail)
        rename_i nq
        have BZ := Lib.hid (HNx.out nq)
        clear HNx
        generalize W5.drewN nq = WZ at *
        obtain ⟨i0, hi0', hz0, hz1, hz2⟩ := info_parts info_str
        have B4 : Hid (Below w.heap.size w (WZ.alloc (.cells #[] 9))) := Lib.hid (BZ.out.alloc BZ.out.size _)
        have own0 : (WZ.alloc (.cells #[] 9)).ownsRow WZ.heap.size 9 1 (.slice (some ⟨WZ.heap.size, 0, none⟩) 0 0) 0 [] := World.ownsRow_made WZ #[] 0 (Nat.le_refl _) (by simp only [maxLen]; omega) rfl
        have hsz0 : WZ.heap.size ≤ (WZ.alloc (.cells #[] 9)).heap.size := ((Below.refl WZ.heap.size WZ).alloc (Nat.le_refl _) _).size
        have R4 := HN.out _ B4.out
        have hnl := HFw.out.1
        go_wp2_with (at_builtin; refine wpList_append_any (WZ.alloc (.cells #[] 9)) rfl _ _ 36 rfl WZ.heap.size 9 i0 _ 1 16 Tryd.underlying36 hi0' hz0 hz1 hz2 rfl (by decide) (.slice (some ⟨WZ.heap.size, 0, none⟩) 0 0) 0 [] rfl own0 (WZ.alloc (.cells #[] 9)).heap.size A1 nodes.length c1 (strv nodes) rfl R4 (strv_one _) (by simp only [maxLen]; omega) (by omega) hsz0 ?_; intro v5 w5 own5 hg5 _; rw [Nat.zero_add, List.nil_append] at own5; obtain ⟨A5, c5, rfl, _, _, _⟩ := own_form own5; have O5 := Lib.hid (And.intro own5 hg5); clear own5 hg5)
        have B5 : Hid (Below w.heap.size w w5) := Lib.hid (B4.out.grown O5.out.2 B4.out.size (fun k e => by injection e with e; exact Nat.le_trans BZ.out.size (Nat.le_of_eq e)))
        have S5 := Lib.hid (Nat.le_trans hsz0 O5.out.2.size)
        clear own0 R4 hsz0 B4
        refine sound_loop w w5 l h8 _ c HPri.out h17.out nodes hnl WZ.heap.size BZ.out.size A5 nodes.length c5 rfl O5.out.1 B5.out S5.out _ _ ?_ _ _ _ _ _ _ _ _ _ _ _ _ _ _ _ _ _ _ _ _ _ _ _ _ _ _ _ _ _ _ _ _ _ _ _ _ _ _ _ _ _ _ _ _ _ _ _ _ _ _ _ _ _ _ _ _ _ _ _ _ _ _ _ _ _ _ _ _ _ _ _ _ _ _ _ _ _ _ _ _ _ _ _ _ _ _ _ _
        intro A2 n2 c2 s1 s2 s3 s4 s5 s7 s8 s9 s10 s11 s13 s14 s15 s16 s17 s18 s19 s20 s21 s22 s23 s24 s25 s26 s27 s28 s29 s30 s31 s32 s33 s34 s35 s36 s37 s38 s39 s40 s41 s42 s43 s44 s45 s46 s47 s48 s49 s50 s51 s52 s53 s54 s55 s56 s57 s58 s59 s60 s61 s62 s63 s64 s65 s66 s67 s68 s69 s70 s71 s72 s73 s74 s75 s76 s77 s78 s79 s80 s81 s82 s83 s84 s85 s86 s87 s88 s89 s90 s91 s92 w6 hn6 own6 hb6
        have B6 := Lib.hid hb6
        rw [hn6] at own6
        have HU := Lib.hid (ref04_Unlike w6 (nodes ++ Trie.provesF l l.length) A2 c2 (Reads.of_own own6) (by rw [List.length_append]; have := Trie.provesF_len h17.out l.length; omega) H900.out)
        rw [hun.out, ← hn6] at HU
        clear own6 hb6 O5 B5 S5 hn6
        go_wp2_with fail
        refine HU.out.mono ?_
        rintro e w7 ⟨rfl, hb7⟩
        go_wp2_with fail
        exact HP.out _ (B6.out.nxt hb7)
      | true =>
      cases hb3 : ((xq : Int) == yq) with
      | false =>
        clear hb
        go_upto_region 9 with fail
        have HNx : Hid (∀ n, Below w.heap.size w (W5.drewN n)) := Lib.hid (fun n => below_drewN BZ.out n)
        go_quiet (fail)
        rename_i nq
        have BZ := Lib.hid (HNx.out nq)
        clear HNx
        generalize W5.drewN nq = WZ at *
        obtain ⟨i0, hi0', hz0, hz1, hz2⟩ := info_parts info_str
        have B4 : Hid (Below w.heap.size w (WZ.alloc (.cells #[] 9))) := Lib.hid (BZ.out.alloc BZ.out.size _)
        have own0 : (WZ.alloc (.cells #[] 9)).ownsRow WZ.heap.size 9 1 (.slice (some ⟨WZ.heap.size, 0, none⟩) 0 0) 0 [] := World.ownsRow_made WZ #[] 0 (Nat.le_refl _) (by simp only [maxLen]; omega) rfl
        have hsz0 : WZ.heap.size ≤ (WZ.alloc (.cells #[] 9)).heap.size := ((Below.refl WZ.heap.size WZ).alloc (Nat.le_refl _) _).size
        have R4 := HN.out _ B4.out
        have hnl := HFw.out.1
        go_wp2_with (at_builtin; refine wpList_append_any (WZ.alloc (.cells #[] 9)) rfl _ _ 36 rfl WZ.heap.size 9 i0 _ 1 16 Tryd.underlying36 hi0' hz0 hz1 hz2 rfl (by decide) (.slice (some ⟨WZ.heap.size, 0, none⟩) 0 0) 0 [] rfl own0 (WZ.alloc (.cells #[] 9)).heap.size A1 nodes.length c1 (strv nodes) rfl R4 (strv_one _) (by simp only [maxLen]; omega) (by omega) hsz0 ?_; intro v5 w5 own5 hg5 _; rw [Nat.zero_add, List.nil_append] at own5; obtain ⟨A5, c5, rfl, _, _, _⟩ := own_form own5; have O5 := Lib.hid (And.intro own5 hg5); clear own5 hg5)
        have B5 : Hid (Below w.heap.size w w5) := Lib.hid (B4.out.grown O5.out.2 B4.out.size (fun k e => by injection e with e; exact Nat.le_trans BZ.out.size (Nat.le_of_eq e)))
        have S5 := Lib.hid (Nat.le_trans hsz0 O5.out.2.size)
        clear own0 R4 hsz0 B4
        refine sound_loop w w5 l h8 _ c HPri.out h17.out nodes hnl WZ.heap.size BZ.out.size A5 nodes.length c5 rfl O5.out.1 B5.out S5.out _ _ ?_ _ _ _ _ _ _ _ _ _ _ _ _ _ _ _ _ _ _ _ _ _ _ _ _ _ _ _ _ _ _ _ _ _ _ _ _ _ _ _ _ _ _ _ _ _ _ _ _ _ _ _ _ _ _ _ _ _ _ _ _ _ _ _ _ _ _ _ _ _ _ _ _ _ _ _ _ _ _ _ _ _ _ _ _ _ _ _ _
        intro A2 n2 c2 s1 s2 s3 s4 s5 s7 s8 s9 s10 s11 s13 s14 s15 s16 s17 s18 s19 s20 s21 s22 s23 s24 s25 s26 s27 s28 s29 s30 s31 s32 s33 s34 s35 s36 s37 s38 s39 s40 s41 s42 s43 s44 s45 s46 s47 s48 s49 s50 s51 s52 s53 s54 s55 s56 s57 s58 s59 s60 s61 s62 s63 s64 s65 s66 s67 s68 s69 s70 s71 s72 s73 s74 s75 s76 s77 s78 s79 s80 s81 s82 s83 s84 s85 s86 s87 s88 s89 s90 s91 s92 w6 hn6 own6 hb6
        have B6 := Lib.hid hb6
        rw [hn6] at own6
        have HU := Lib.hid (ref04_Unlike w6 (nodes ++ Trie.provesF l l.length) A2 c2 (Reads.of_own own6) (by rw [List.length_append]; have := Trie.provesF_len h17.out l.length; omega) H900.out)
        rw [hun.out, ← hn6] at HU
        clear own6 hb6 O5 B5 S5 hn6
        go_wp2_with fail
        refine HU.out.mono ?_
        rintro e w7 ⟨rfl, hb7⟩
        go_wp2_with fail
        exact HP.out _ (B6.out.nxt hb7)
      | true => exact absurd (by rw [hb1, hb2, hb3]; rfl) hb
end Go.Proofs.YtefcmigbdfeaiaaDoor
