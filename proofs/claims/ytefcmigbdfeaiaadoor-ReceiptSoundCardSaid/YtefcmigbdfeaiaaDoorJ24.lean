import Derived.Test.YtefcmigbdfeaiaaDoorJ23
set_option linter.unusedSimpArgs false
set_option linter.unusedVariables false
namespace Go.Proofs.YtefcmigbdfeaiaaDoor
set_option linter.unusedVariables false
open Go.RowKit Go.Instr
attribute [local go_sem] ba_get ByteArray.mk_append_mk
attribute [local go_sem ↓] Go.wp_at_zero Go.wp_at_succ
namespace Trie
def nodes : T → Nat
  | .nil => 0
  | .leaf _ _ => 1
  | .ext _ t => 1 + nodes t
  | .branch _ kids => 1 + ((List.finRange 16).map fun i => nodes (kids i)).sum
theorem nodes_kid (v : List UInt8) (kids : Fin 16 → T) (i : Fin 16) : nodes (kids i) < nodes (.branch v kids) := by
  have := sum_one (fun i => nodes (kids i)) i 0 (List.finRange 16) (List.nodup_finRange 16) (List.mem_finRange _)
  simp only [Nat.add_zero] at this
  simp only [nodes]
  omega
end Trie
def GetEnd (w : World) (s : List UInt8) (e : Ending) (w' : World) : Prop := e = .returned (.string ⟨s.toArray⟩) ∧ Below w.heap.size w w'
set_option maxRecDepth 100000 in
set_option maxHeartbeats 4000000 in
theorem trie_get (t : Trie.T) (q0 : List UInt8) (x0 : Value) (w : World) (hw : Trie.wf t) (hs : Trie.small t) (hq : Nib.fit q0 = true) (hl : q0.length ≤ 1000) (hk : KnotP w t x0) :
    Calls Tryd.prog 74 #[x0, .string ⟨q0.toArray⟩] w (GetEnd w (Trie.look t q0)) := by
  have HP : Hid (∀ s w', s = Trie.look t q0 → Below w.heap.size w w' → GetEnd w (Trie.look t q0) (.returned (.string ⟨s.toArray⟩)) w') := Lib.hid (fun s w' h1 h2 => ⟨by rw [h1], h2⟩)
  have HI := Lib.hid (And.intro hw (And.intro hs (And.intro hq (And.intro hl hk))))
  generalize GetEnd w (Trie.look t q0) = P at HP ⊢
  generalize hL : Trie.look t q0 = L at *
  have HL0 := Lib.hid hL
  clear hL hw hs hq hl hk
  go_enter Tryd.func74, Tryd.ntmps74
  go_wp2
  refine wp_loop_ghost_k (fun k a wr => ∀ Φ : Act → Prop, (∀ (s2 s3 s5 s6 s7 s8 s9 s10 s11 s12 s13 s14 s15 s16 s17 s18 s19 s20 s21 s22 s23 s24 s25 s26 s27 s28 s29 s30 s31 s32 s33 s34 s35 s36 s37 s38 s39 s40 s41 s42 s43 s44 s45 s46 s47 s48 s49 s50 s51 s52 s53 s54 : Value) (s : Trie.T) (q : List UInt8) (x : Value), (k = Trie.nodes s ∧ Trie.wf s ∧ Trie.small s ∧ Nib.fit q = true ∧ q.length ≤ 1000 ∧ Trie.look s q = L ∧ KnotP wr s x ∧ Below w.heap.size w wr) → Φ { tmps := #[x, .string ⟨q.toArray⟩, s2, s3, .string ⟨#[]⟩, s5, s6, s7, s8, s9, s10, s11, s12, s13, s14, s15, s16, s17, s18, s19, s20, s21, s22, s23, s24, s25, s26, s27, s28, s29, s30, s31, s32, s33, s34, s35, s36, s37, s38, s39, s40, s41, s42, s43, s44, s45, s46, s47, s48, s49, s50, s51, s52, s53, s54], defers := [] }) → Φ a) (Trie.nodes t) ?_ ?_
  · refine fun Φ hΦ => hΦ _ _ _ _ _ _ _ _ _ _ _ _ _ _ _ _ _ _ _ _ _ _ _ _ _ _ _ _ _ _ _ _ _ _ _ _ _ _ _ _ _ _ _ _ _ _ _ _ _ _ _ _ (t) (q0) (x0) ?_
    exact ⟨rfl, HI.out.1, HI.out.2.1, HI.out.2.2.1, HI.out.2.2.2.1, HL0.out, HI.out.2.2.2.2, Below.refl _ _⟩
  · intro k1 a1 wr1 hI1 J1 K1 hJ1 hK1
    refine hI1 (fun a => Code.wp _ _ _ a _) ?_
    clear hI1 a1
    intro s0 s1 s2 s3 s4 s5 s6 s7 s8 s9 s10 s11 s12 s13 s14 s15 s16 s17 s18 s19 s20 s21 s22 s23 s24 s25 s26 s27 s28 s29 s30 s31 s32 s33 s34 s35 s36 s37 s38 s39 s40 s41 s42 s43 s44 s45 s46 s47 s48 s49 s50 s51 s q x hrel
    show Code.wp _ _ _ _ _
    obtain ⟨hkn, hw, hs, hq, hlen, hlk, hk, hb0⟩ := hrel
    have Hk1 := Lib.hid hkn
    have HW := Lib.hid hw
    have HS := Lib.hid hs
    have Hq := Lib.hid hq
    have HLk := Lib.hid hlk
    clear hkn hw hs hq hlk
    cases s with
    | nil =>
      rcases hk.form with ⟨_, rfl⟩ | ⟨b, ps, h, _⟩
      · have HB0 := Lib.hid hb0
        clear hk hb0
        go_wp2
        exact HP.out _ _ (by rw [← HLk.out]; rfl) HB0.out
      · exact absurd rfl h
    | leaf p v =>
      have hp16 : p.length ≤ 16 := by
        have h1 := HS.out p HW.out.1 (by simp [Trie.look]; exact HW.out.2)
        simp only [Trie.look, if_true] at h1
        exact h1.1
      by_cases hc : Nib.common p q < p.length
      · have hcI : ((Nib.common p q : Nat) : Int) < p.length := by omega
        have HLn : Hid (L = []) := Lib.hid (by
          rw [← HLk.out]
          simp only [Trie.look]
          rw [if_neg]
          intro e; subst e
          have := Trie.common_self_append q []
          rw [List.append_nil] at this
          omega)
        obtain ⟨b, ps, rfl, hps, hbk, hks⟩ := blk_of_knot hk (by simp)
        have hcl := Nib.common_le p q
        have HCom : Hid (∀ W, Calls Tryd.prog 58 #[.string ⟨(p).toArray⟩, .string ⟨(q).toArray⟩] W fun e w' => e = .returned (.int .i64 ((Nib.common p q : Nat) : Int)) ∧ Below W.heap.size W w') := Lib.hid (fun W => nib_Common p q W (by first | omega | simp) (by omega))
        have HTd := run_drop q (Nib.common p q) hcl.2
        have HBK := Lib.hid hbk
        have Hps := Lib.hid hps
        have HKs := Lib.hid hks
        have HB0 := Lib.hid hb0
        have c1 : wr1.cell? ⟨b, 1, none⟩ = some (.string ⟨(p).toArray⟩) := (KnotAt.of (Trie.sumsT_length _) hps hbk).node.c1
        have hcq : ((Nib.common p q : Nat) : Int) ≤ q.length := by omega
        have HLT := Lib.hid hlen
        clear hps hbk hks hb0 hk hlen
        go_upto_region 3 with (go_at_call 58; refine (HCom.out _).mono ?_; rintro e w2 ⟨rfl, hb⟩)
        clear c1
        have HB2 : Hid (Below w.heap.size w w2) := Lib.hid (HB0.out.nxt hb)
        have HBK2 := Lib.hid (HBK.out.below hb HBK.out.lt)
        have HKs2 := Lib.hid (fun i => (HKs.out i).next hb)
        clear hb HB0 HBK HKs
        obtain ⟨⟨c0, c1, c2, _, _⟩, kr, _, _, _, _⟩ := KnotAt.of (Trie.sumsT_length _) Hps.out HBK2.out
        rename_i j1 j2 j4 j5 j6 j7
        replace c0 : w2.cell? ⟨b, 0, none⟩ = some (.int .i64 1) := c0
        replace c1 : w2.cell? ⟨b, 1, none⟩ = some (.string ⟨(p).toArray⟩) := c1
        clear j1 j2 j4 j5 j6 j7
        go_wp2
        exact HP.out _ _ HLn.out.symm HB2.out
      · have hcI : (((Nib.common p q : Nat) : Int) < p.length) = False := by simp; omega
        have hq2 : q = p ++ q.drop (Nib.common p q) := by
          have h := Nib.common_le p q
          have e : Nib.common p q = p.length := by omega
          have := Trie.prefix_common.1 e
          rw [e]; exact this
        have HQP := Lib.hid hq2
        cases hd : q.drop (Nib.common p q) with
        | nil =>
          have HLn : Hid (v = L) := Lib.hid (by
            rw [← HLk.out]
            simp only [Trie.look]
            rw [hd, List.append_nil] at hq2
            rw [if_pos hq2])
          have HD := Lib.hid hd
          clear hd hq2
          obtain ⟨b, ps, rfl, hps, hbk, hks⟩ := blk_of_knot hk (by simp)
          have hcl := Nib.common_le p q
          have HCom : Hid (∀ W, Calls Tryd.prog 58 #[.string ⟨(p).toArray⟩, .string ⟨(q).toArray⟩] W fun e w' => e = .returned (.int .i64 ((Nib.common p q : Nat) : Int)) ∧ Below W.heap.size W w') := Lib.hid (fun W => nib_Common p q W (by first | omega | simp) (by omega))
          have HTd := run_drop q (Nib.common p q) hcl.2
          have HBK := Lib.hid hbk
          have Hps := Lib.hid hps
          have HKs := Lib.hid hks
          have HB0 := Lib.hid hb0
          have c1 : wr1.cell? ⟨b, 1, none⟩ = some (.string ⟨(p).toArray⟩) := (KnotAt.of (Trie.sumsT_length _) hps hbk).node.c1
          rw [HD.out] at HTd; have hcq : ((Nib.common p q : Nat) : Int) ≤ q.length := by omega
          have HLT := Lib.hid hlen
          clear hps hbk hks hb0 hk hlen
          go_upto_region 3 with (go_at_call 58; refine (HCom.out _).mono ?_; rintro e w2 ⟨rfl, hb⟩)
          clear c1
          have HB2 : Hid (Below w.heap.size w w2) := Lib.hid (HB0.out.nxt hb)
          have HBK2 := Lib.hid (HBK.out.below hb HBK.out.lt)
          have HKs2 := Lib.hid (fun i => (HKs.out i).next hb)
          clear hb HB0 HBK HKs
          obtain ⟨⟨c0, c1, c2, _, _⟩, kr, _, _, _, _⟩ := KnotAt.of (Trie.sumsT_length _) Hps.out HBK2.out
          rename_i j1 j2 j4 j5 j6 j7
          replace c0 : w2.cell? ⟨b, 0, none⟩ = some (.int .i64 1) := c0
          replace c1 : w2.cell? ⟨b, 1, none⟩ = some (.string ⟨(p).toArray⟩) := c1
          clear j1 j2 j4 j5 j6 j7
          replace c2 : w2.cell? ⟨b, 2, none⟩ = some (.string ⟨v.toArray⟩) := c2
          clear kr
          go_wp2
          exact HP.out _ _ HLn.out HB2.out
        | cons bb r =>
          have HLn : Hid (L = []) := Lib.hid (by
            rw [← HLk.out]
            simp only [Trie.look]
            rw [if_neg]
            intro e
            have := congrArg List.length hq2
            rw [hd, e] at this
            simp at this)
          have HQ := Lib.hid hd
          clear hd hq2
          obtain ⟨b, ps, rfl, hps, hbk, hks⟩ := blk_of_knot hk (by simp)
          have hcl := Nib.common_le p q
          have HCom : Hid (∀ W, Calls Tryd.prog 58 #[.string ⟨(p).toArray⟩, .string ⟨(q).toArray⟩] W fun e w' => e = .returned (.int .i64 ((Nib.common p q : Nat) : Int)) ∧ Below W.heap.size W w') := Lib.hid (fun W => nib_Common p q W (by first | omega | simp) (by omega))
          have HTd := run_drop q (Nib.common p q) hcl.2
          have HBK := Lib.hid hbk
          have Hps := Lib.hid hps
          have HKs := Lib.hid hks
          have HB0 := Lib.hid hb0
          have c1 : wr1.cell? ⟨b, 1, none⟩ = some (.string ⟨(p).toArray⟩) := (KnotAt.of (Trie.sumsT_length _) hps hbk).node.c1
          rw [HQ.out] at HTd; have hcq : ((Nib.common p q : Nat) : Int) ≤ q.length := by omega
          have HLT := Lib.hid hlen
          clear hps hbk hks hb0 hk hlen
          go_upto_region 3 with (go_at_call 58; refine (HCom.out _).mono ?_; rintro e w2 ⟨rfl, hb⟩)
          clear c1
          have HB2 : Hid (Below w.heap.size w w2) := Lib.hid (HB0.out.nxt hb)
          have HBK2 := Lib.hid (HBK.out.below hb HBK.out.lt)
          have HKs2 := Lib.hid (fun i => (HKs.out i).next hb)
          clear hb HB0 HBK HKs
          obtain ⟨⟨c0, c1, c2, _, _⟩, kr, _, _, _, _⟩ := KnotAt.of (Trie.sumsT_length _) Hps.out HBK2.out
          rename_i j1 j2 j4 j5 j6 j7
          replace c0 : w2.cell? ⟨b, 0, none⟩ = some (.int .i64 1) := c0
          replace c1 : w2.cell? ⟨b, 1, none⟩ = some (.string ⟨(p).toArray⟩) := c1
          clear j1 j2 j4 j5 j6 j7
          have hbb := Trie.fit_cons'.1 (show Nib.fit (bb :: r) = true by rw [← HQ.out]; exact Trie.fit_drop _ Hq.out)
          have hb16 : bb.toNat < 16 := by have := hbb.1; rw [UInt8.le_iff_toNat_le] at this; simp at this; omega
          have hbi : (bb.toNat : Int) < 16 := by omega
          have hbx : 0 ≤ (bb.toNat : Int) := by omega
          have hix : (Trie.ix bb).val = bb.toNat := by simp [Trie.ix]; omega
          have ck : w2.cell? ⟨b, 19 + bb.toNat, none⟩ = some (ps.getD bb.toNat undef) := by
            have := Hps.out
            exact kr _ _ (by rw [List.getD_eq_getElem?_getD, List.getElem?_eq_getElem (show bb.toNat < ps.length by omega)]; rfl)
          have HKb : Hid (KnotP w2 (Trie.kidsT (.leaf p v) (Trie.ix bb)) (ps.getD bb.toNat undef)) := Lib.hid (by
            have := HKs2.out (Trie.ix bb)
            rwa [hix] at this)
          have Hrl : Hid (r.length ≤ 1000) := Lib.hid (by
            have := congrArg List.length HQ.out
            rw [List.length_cons, List.length_drop] at this
            have := HLT.out; omega)
          have Hbb := Lib.hid hbb
          have HTl := run_tail bb r
          clear hbb hix kr c2
          generalize ps.getD bb.toNat undef = y at *
          go_wp2
          go_region_held3 (fun w' => w'.cell? ⟨b, 19 + bb.toNat, none⟩ = some y) (first | go_keep | assumption) (fail)
          go_wp2
          refine Handed.intro (0) ?_ (hJ1 _ _ _ (fun Φ hΦ => hΦ _ _ _ _ _ _ _ _ _ _ _ _ _ _ _ _ _ _ _ _ _ _ _ _ _ _ _ _ _ _ _ _ _ _ _ _ _ _ _ _ _ _ _ _ _ _ _ _ _ _ _ _ (.nil) (r) (y) ?_))
          · rw [Hk1.out]; simp [Trie.nodes]
          · refine ⟨rfl, trivial, Trie.small_nil, Hbb.out.2, Hrl.out, by rw [HLn.out]; rfl, ?_, HB2.out.drew⟩
            have := HKb.out.next (Below.refl _ _).drew
            exact this
    | ext p s =>
      have hp16 := Trie.small_ext_path HW.out HS.out
      by_cases hc : Nib.common p q < p.length
      · have hcI : ((Nib.common p q : Nat) : Int) < p.length := by omega
        have HLn : Hid (L = []) := Lib.hid (by
          rw [← HLk.out]
          simp only [Trie.look]
          rw [if_neg (by omega)])
        obtain ⟨b, ps, rfl, hps, hbk, hks⟩ := blk_of_knot hk (by simp)
        have hcl := Nib.common_le p q
        have HCom : Hid (∀ W, Calls Tryd.prog 58 #[.string ⟨(p).toArray⟩, .string ⟨(q).toArray⟩] W fun e w' => e = .returned (.int .i64 ((Nib.common p q : Nat) : Int)) ∧ Below W.heap.size W w') := Lib.hid (fun W => nib_Common p q W (by first | omega | simp) (by omega))
        have HTd := run_drop q (Nib.common p q) hcl.2
        have HBK := Lib.hid hbk
        have Hps := Lib.hid hps
        have HKs := Lib.hid hks
        have HB0 := Lib.hid hb0
        have c1 : wr1.cell? ⟨b, 1, none⟩ = some (.string ⟨(p).toArray⟩) := (KnotAt.of (Trie.sumsT_length _) hps hbk).node.c1
        have hcq : ((Nib.common p q : Nat) : Int) ≤ q.length := by omega
        have HLT := Lib.hid hlen
        clear hps hbk hks hb0 hk hlen
        go_upto_region 3 with (go_at_call 58; refine (HCom.out _).mono ?_; rintro e w2 ⟨rfl, hb⟩)
        clear c1
        have HB2 : Hid (Below w.heap.size w w2) := Lib.hid (HB0.out.nxt hb)
        have HBK2 := Lib.hid (HBK.out.below hb HBK.out.lt)
        have HKs2 := Lib.hid (fun i => (HKs.out i).next hb)
        clear hb HB0 HBK HKs
        obtain ⟨⟨c0, c1, c2, _, _⟩, kr, _, _, _, _⟩ := KnotAt.of (Trie.sumsT_length _) Hps.out HBK2.out
        rename_i j1 j2 j4 j5 j6 j7
        replace c0 : w2.cell? ⟨b, 0, none⟩ = some (.int .i64 2) := c0
        replace c1 : w2.cell? ⟨b, 1, none⟩ = some (.string ⟨(p).toArray⟩) := c1
        clear j1 j2 j4 j5 j6 j7
        go_wp2
        exact HP.out _ _ HLn.out.symm HB2.out
      · have hcI : (((Nib.common p q : Nat) : Int) < p.length) = False := by simp; omega
        have HLn : Hid (Trie.look s (q.drop (Nib.common p q)) = L) := Lib.hid (by
          have h := Nib.common_le p q
          have e : Nib.common p q = p.length := by omega
          rw [← HLk.out]
          simp only [Trie.look]
          rw [if_pos e, e])
        have HQd : Hid (Nib.fit (q.drop (Nib.common p q)) = true ∧ (q.drop (Nib.common p q)).length ≤ 1000) := Lib.hid ⟨Trie.fit_drop _ Hq.out, by rw [List.length_drop]; omega⟩
        obtain ⟨b, ps, rfl, hps, hbk, hks⟩ := blk_of_knot hk (by simp)
        have hcl := Nib.common_le p q
        have HCom : Hid (∀ W, Calls Tryd.prog 58 #[.string ⟨(p).toArray⟩, .string ⟨(q).toArray⟩] W fun e w' => e = .returned (.int .i64 ((Nib.common p q : Nat) : Int)) ∧ Below W.heap.size W w') := Lib.hid (fun W => nib_Common p q W (by first | omega | simp) (by omega))
        have HTd := run_drop q (Nib.common p q) hcl.2
        have HBK := Lib.hid hbk
        have Hps := Lib.hid hps
        have HKs := Lib.hid hks
        have HB0 := Lib.hid hb0
        have c1 : wr1.cell? ⟨b, 1, none⟩ = some (.string ⟨(p).toArray⟩) := (KnotAt.of (Trie.sumsT_length _) hps hbk).node.c1
        have hcq : ((Nib.common p q : Nat) : Int) ≤ q.length := by omega
        have HLT := Lib.hid hlen
        clear hps hbk hks hb0 hk hlen
        go_upto_region 3 with (go_at_call 58; refine (HCom.out _).mono ?_; rintro e w2 ⟨rfl, hb⟩)
        clear c1
        have HB2 : Hid (Below w.heap.size w w2) := Lib.hid (HB0.out.nxt hb)
        have HBK2 := Lib.hid (HBK.out.below hb HBK.out.lt)
        have HKs2 := Lib.hid (fun i => (HKs.out i).next hb)
        clear hb HB0 HBK HKs
        obtain ⟨⟨c0, c1, c2, _, _⟩, kr, _, _, _, _⟩ := KnotAt.of (Trie.sumsT_length _) Hps.out HBK2.out
        rename_i j1 j2 j4 j5 j6 j7
        replace c0 : w2.cell? ⟨b, 0, none⟩ = some (.int .i64 2) := c0
        replace c1 : w2.cell? ⟨b, 1, none⟩ = some (.string ⟨(p).toArray⟩) := c1
        clear j1 j2 j4 j5 j6 j7
        have ck : w2.cell? ⟨b, 19, none⟩ = some (ps.getD 0 undef) := by
          have := Hps.out
          exact kr 0 _ (by rw [List.getD_eq_getElem?_getD, List.getElem?_eq_getElem (show 0 < ps.length by omega)]; rfl)
        have HKb : Hid (KnotP w2 s (ps.getD 0 undef)) := Lib.hid (HKs2.out 0)
        clear kr c2
        generalize ps.getD 0 undef = y at *
        generalize q.drop (Nib.common p q) = qd at *
        generalize Nib.common p q = c at *
        go_wp2
        refine Handed.intro (Trie.nodes s) ?_ (hJ1 _ _ _ (fun Φ hΦ => hΦ _ _ _ _ _ _ _ _ _ _ _ _ _ _ _ _ _ _ _ _ _ _ _ _ _ _ _ _ _ _ _ _ _ _ _ _ _ _ _ _ _ _ _ _ _ _ _ _ _ _ _ _ (s) (qd) (y) ?_))
        · rw [Hk1.out]; simp only [Trie.nodes]; omega
        · exact ⟨rfl, HW.out.2.2.2, Trie.small_ext HW.out.1 HS.out, HQd.out.1, HQd.out.2, HLn.out, HKb.out, HB2.out⟩
    | branch v kids =>
      have hcI : (0 : Int) = 0 := rfl
      cases q with
      | nil =>
        have HLn : Hid (v = L) := Lib.hid (by rw [← HLk.out]; rfl)
        obtain ⟨b, ps, rfl, hps, hbk, hks⟩ := blk_of_knot hk (by simp)
        have hcl := Nib.common_le [] []
        have HCom : Hid (∀ W, Calls Tryd.prog 58 #[.string ⟨([]).toArray⟩, .string ⟨([]).toArray⟩] W fun e w' => e = .returned (.int .i64 0) ∧ Below W.heap.size W w') := Lib.hid (fun W => nib_Common [] [] W (by first | omega | simp) (by omega))
        have HTd := run_drop [] (Nib.common [] []) hcl.2
        have HBK := Lib.hid hbk
        have Hps := Lib.hid hps
        have HKs := Lib.hid hks
        have HB0 := Lib.hid hb0
        have c1 : wr1.cell? ⟨b, 1, none⟩ = some (.string ⟨([]).toArray⟩) := (KnotAt.of (Trie.sumsT_length _) hps hbk).node.c1
        replace HTd : ∀ w, (Instr.slice 9 (.string ⟨([]).toArray⟩) (some (.int .i64 0)) none none).run Tryd.prog w = .ok (.string ⟨([]).toArray⟩) w := HTd
        have HLT := Lib.hid hlen
        clear hps hbk hks hb0 hk hlen
        go_upto_region 3 with (go_at_call 58; refine (HCom.out _).mono ?_; rintro e w2 ⟨rfl, hb⟩)
        clear c1
        have HB2 : Hid (Below w.heap.size w w2) := Lib.hid (HB0.out.nxt hb)
        have HBK2 := Lib.hid (HBK.out.below hb HBK.out.lt)
        have HKs2 := Lib.hid (fun i => (HKs.out i).next hb)
        clear hb HB0 HBK HKs
        obtain ⟨⟨c0, c1, c2, _, _⟩, kr, _, _, _, _⟩ := KnotAt.of (Trie.sumsT_length _) Hps.out HBK2.out
        rename_i j1 j2 j4 j5 j6 j7
        replace c0 : w2.cell? ⟨b, 0, none⟩ = some (.int .i64 3) := c0
        replace c1 : w2.cell? ⟨b, 1, none⟩ = some (.string ⟨([]).toArray⟩) := c1
        clear j1 j2 j4 j5 j6 j7
        replace c2 : w2.cell? ⟨b, 2, none⟩ = some (.string ⟨v.toArray⟩) := c2
        clear kr
        go_wp2
        exact HP.out _ _ HLn.out HB2.out
      | cons bb r =>
          have HLn : Hid (Trie.look (kids (Trie.ix bb)) r = L) := Lib.hid (by rw [← HLk.out]; rfl)
          have HQ : Hid ((bb :: r).drop (Nib.common [] (bb :: r)) = bb :: r) := Lib.hid rfl
          obtain ⟨b, ps, rfl, hps, hbk, hks⟩ := blk_of_knot hk (by simp)
          have hcl := Nib.common_le [] (bb :: r)
          have HCom : Hid (∀ W, Calls Tryd.prog 58 #[.string ⟨([]).toArray⟩, .string ⟨((bb :: r)).toArray⟩] W fun e w' => e = .returned (.int .i64 0) ∧ Below W.heap.size W w') := Lib.hid (fun W => nib_Common [] (bb :: r) W (by first | omega | simp) (by omega))
          have HTd := run_drop (bb :: r) (Nib.common [] (bb :: r)) hcl.2
          have HBK := Lib.hid hbk
          have Hps := Lib.hid hps
          have HKs := Lib.hid hks
          have HB0 := Lib.hid hb0
          have c1 : wr1.cell? ⟨b, 1, none⟩ = some (.string ⟨([]).toArray⟩) := (KnotAt.of (Trie.sumsT_length _) hps hbk).node.c1
          replace HTd : ∀ w, (Instr.slice 9 (.string ⟨((bb :: r)).toArray⟩) (some (.int .i64 0)) none none).run Tryd.prog w = .ok (.string ⟨((bb :: r)).toArray⟩) w := HTd
          have HLT := Lib.hid hlen
          clear hps hbk hks hb0 hk hlen
          go_upto_region 3 with (go_at_call 58; refine (HCom.out _).mono ?_; rintro e w2 ⟨rfl, hb⟩)
          clear c1
          have HB2 : Hid (Below w.heap.size w w2) := Lib.hid (HB0.out.nxt hb)
          have HBK2 := Lib.hid (HBK.out.below hb HBK.out.lt)
          have HKs2 := Lib.hid (fun i => (HKs.out i).next hb)
          clear hb HB0 HBK HKs
          obtain ⟨⟨c0, c1, c2, _, _⟩, kr, _, _, _, _⟩ := KnotAt.of (Trie.sumsT_length _) Hps.out HBK2.out
          rename_i j1 j2 j4 j5 j6 j7
          replace c0 : w2.cell? ⟨b, 0, none⟩ = some (.int .i64 3) := c0
          replace c1 : w2.cell? ⟨b, 1, none⟩ = some (.string ⟨([]).toArray⟩) := c1
          clear j1 j2 j4 j5 j6 j7
          have hbb := Trie.fit_cons'.1 (show Nib.fit (bb :: r) = true by rw [← HQ.out]; exact Trie.fit_drop _ Hq.out)
          have hb16 : bb.toNat < 16 := by have := hbb.1; rw [UInt8.le_iff_toNat_le] at this; simp at this; omega
          have hbi : (bb.toNat : Int) < 16 := by omega
          have hbx : 0 ≤ (bb.toNat : Int) := by omega
          have hix : (Trie.ix bb).val = bb.toNat := by simp [Trie.ix]; omega
          have ck : w2.cell? ⟨b, 19 + bb.toNat, none⟩ = some (ps.getD bb.toNat undef) := by
            have := Hps.out
            exact kr _ _ (by rw [List.getD_eq_getElem?_getD, List.getElem?_eq_getElem (show bb.toNat < ps.length by omega)]; rfl)
          have HKb : Hid (KnotP w2 (Trie.kidsT (.branch v kids) (Trie.ix bb)) (ps.getD bb.toNat undef)) := Lib.hid (by
            have := HKs2.out (Trie.ix bb)
            rwa [hix] at this)
          have Hrl : Hid (r.length ≤ 1000) := Lib.hid (by
            have := congrArg List.length HQ.out
            rw [List.length_cons, List.length_drop] at this
            have := HLT.out; omega)
          have Hbb := Lib.hid hbb
          have HTl := run_tail bb r
          clear hbb hix kr c2
          generalize ps.getD bb.toNat undef = y at *
          go_wp2
          go_region_held3 (fun w' => w'.cell? ⟨b, 19 + bb.toNat, none⟩ = some y) (first | go_keep | assumption) (fail)
          go_wp2
          refine Handed.intro (Trie.nodes (kids (Trie.ix bb))) ?_ (hJ1 _ _ _ (fun Φ hΦ => hΦ _ _ _ _ _ _ _ _ _ _ _ _ _ _ _ _ _ _ _ _ _ _ _ _ _ _ _ _ _ _ _ _ _ _ _ _ _ _ _ _ _ _ _ _ _ _ _ _ _ _ _ _ (kids (Trie.ix bb)) (r) (y) ?_))
          · rw [Hk1.out]; exact Trie.nodes_kid _ _ _
          · refine ⟨rfl, HW.out.1 _, Trie.small_kid HS.out _, Hbb.out.2, Hrl.out, HLn.out, ?_, HB2.out.drew⟩
            have := HKb.out.next (Below.refl _ _).drew
            exact this
end Go.Proofs.YtefcmigbdfeaiaaDoor

namespace Go.Proofs.YtefcmigbdfeaiaaDoor
set_option linter.unusedVariables false
open Go.RowKit Go.Instr
attribute [local go_sem] ba_get ByteArray.mk_append_mk
attribute [local go_sem ↓] Go.wp_at_zero Go.wp_at_succ
namespace Trie
def keyedW (key : List UInt8) : Bool := !key.isEmpty && decide (key.length ≤ 8)
structure Good (t : T) : Prop where
  wf : wf t
  small : small t
  even : ∀ q, Nib.fit q = true → look t q ≠ [] → q.length % 2 = 0 ∧ q ≠ []
theorem Good.nil : Good .nil := ⟨trivial, small_nil, fun q _ h => absurd rfl h⟩
def putCode (key value : List UInt8) : Nat := if keyedW key then (if value.isEmpty || decide (32 < value.length) then 2 else 0) else 1
end Trie
def TrieP (w : World) (t : Trie.T) (v : Value) : Prop := Trie.Good t ∧ ∃ b x, v = .pointer (some ⟨b, 0, none⟩) ∧ Blk w b 98 #[x] ∧ KnotP w t x
theorem TrieP.next {w w1 : World} {t : Trie.T} {v : Value} (h : TrieP w t v) (hb : Below w.heap.size w w1) : TrieP w1 t v := by
  obtain ⟨h1, b, x, h2, h3, h4⟩ := h
  exact ⟨h1, b, x, h2, h3.below hb h3.lt, h4.next hb⟩
theorem trie_keyed (key : List UInt8) (hl : key.length ≤ 9223372036854775807) (w : World) :
    Calls Tryd.prog 73 #[.string ⟨key.toArray⟩] w fun e w' => e = .returned (.bool (Trie.keyedW key)) ∧ w = w' := by
  have HP : Hid (∀ b w', Trie.keyedW key = b → w = w' → (fun e w' => e = Ending.returned (.bool (Trie.keyedW key)) ∧ w = w') (Ending.returned (.bool b)) w') := Lib.hid (fun b w' h1 h2 => ⟨by rw [h1], h2⟩)
  generalize (fun e w' => e = Ending.returned (.bool (Trie.keyedW key)) ∧ w = w') = P at HP ⊢
  by_cases h0 : key = []
  · subst h0
    go_enter Tryd.func73, Tryd.ntmps73
    go_wp2
    exact HP.out _ _ rfl rfl
  · have ne1 : (key.toArray = #[]) = False := by simp [h0]
    have ne2 : key.isEmpty = false := by cases key <;> simp_all
    by_cases h8 : key.length ≤ 8
    · have h8' : (key.length : Int) ≤ 8 := by omega
      go_enter Tryd.func73, Tryd.ntmps73
      go_wp2
      exact HP.out _ _ (by simp [Trie.keyedW, ne2, h8]) rfl
    · have h8' : ((key.length : Int) ≤ 8) = False := by simp; omega
      go_enter Tryd.func73, Tryd.ntmps73
      go_wp2
      exact HP.out _ _ (by simp [Trie.keyedW, ne2, h8]) rfl
def NewEnd (w : World) (t : Trie.T) (e : Ending) (w' : World) : Prop := ∃ v, e = .returned v ∧ TrieP w' t v ∧ Below w.heap.size w w'
theorem trie_New (w : World) : Calls Tryd.prog 49 #[] w (NewEnd w .nil) := by
  have HP : Hid (∀ b w', Blk w' b 98 #[.pointer none] → Below w.heap.size w w' → NewEnd w .nil (.returned (.pointer (some ⟨b, 0, none⟩))) w') := Lib.hid (fun b w' h1 h2 => ⟨_, rfl, ⟨Trie.Good.nil, b, _, rfl, h1, .nil⟩, h2⟩)
  generalize NewEnd w .nil = P at HP ⊢
  go_enter Tryd.func49, Tryd.ntmps49
  go_wp2
  exact HP.out _ _ (Blk.new _ _ _) (by go_grown)
theorem trie_Len (w : World) (t : Trie.T) (v : Value) (h : TrieP w t v) : Calls Tryd.prog 48 #[v] w fun e w' => e = .returned (.int .i64 (Trie.count t : Int)) ∧ w = w' := by
  obtain ⟨hg, b, x, rfl, hbk, hk⟩ := h
  have HP : Hid (∀ n w', (Trie.count t : Int) = n → w = w' → (fun e w' => e = Ending.returned (.int .i64 (Trie.count t : Int)) ∧ w = w') (Ending.returned (.int .i64 n)) w') := Lib.hid (fun b w' h1 h2 => ⟨by rw [h1], h2⟩)
  have c0 : w.cell? ⟨b, 0, none⟩ = some x := hbk.cell 0
  generalize (fun e w' => e = Ending.returned (.int .i64 (Trie.count t : Int)) ∧ w = w') = P at HP ⊢
  rcases hk.form with ⟨rfl, rfl⟩ | ⟨b2, ps, hn, rfl, hps, hbk2, _⟩
  · clear hbk hk hg
    go_enter Tryd.func48, Tryd.ntmps48
    go_wp2
    exact HP.out _ _ rfl rfl
  · have c37 := (KnotAt.of (Trie.sumsT_length _) hps hbk2).c37
    clear hbk hk hg hbk2
    go_enter Tryd.func48, Tryd.ntmps48
    go_wp2
    exact HP.out _ _ rfl rfl
theorem trie_Root (w : World) (t : Trie.T) (v : Value) (h : TrieP w t v) : Calls Tryd.prog 25 #[v] w fun e w' => e = .returned (.string ⟨(Trie.sumT t).toArray⟩) ∧ w = w' := by
  obtain ⟨hg, b, x, rfl, hbk, hk⟩ := h
  have HP : Hid (∀ n w', Trie.sumT t = n → w = w' → (fun e w' => e = Ending.returned (.string ⟨(Trie.sumT t).toArray⟩) ∧ w = w') (Ending.returned (.string ⟨n.toArray⟩)) w') := Lib.hid (fun b w' h1 h2 => ⟨by rw [h1], h2⟩)
  have c0 : w.cell? ⟨b, 0, none⟩ = some x := hbk.cell 0
  generalize (fun e w' => e = Ending.returned (.string ⟨(Trie.sumT t).toArray⟩) ∧ w = w') = P at HP ⊢
  rcases hk.form with ⟨rfl, rfl⟩ | ⟨b2, ps, hn, rfl, hps, hbk2, _⟩
  · clear hbk hk hg
    go_enter Tryd.func25, Tryd.ntmps25
    go_wp2
    exact HP.out _ _ rfl rfl
  · have c36 := (KnotAt.of (Trie.sumsT_length _) hps hbk2).c36
    clear hbk hk hg hbk2
    go_enter Tryd.func25, Tryd.ntmps25
    go_wp2
    exact HP.out _ _ rfl rfl
end Go.Proofs.YtefcmigbdfeaiaaDoor

namespace Go.Proofs.YtefcmigbdfeaiaaDoor
set_option linter.unusedVariables false
open Go.RowKit Go.Instr
attribute [local go_sem] ba_get ByteArray.mk_append_mk
attribute [local go_sem ↓] Go.wp_at_zero Go.wp_at_succ
namespace Trie
def getW (t : T) (key : List UInt8) : List UInt8 × Nat :=
  if keyedW key then (if (look t (Nib.of key)).isEmpty then ([], 5) else (look t (Nib.of key), 0)) else ([], 1)
theorem keyed_len {key : List UInt8} (h : keyedW key = true) : key.length ≤ 8 ∧ key ≠ [] := by
  simp [keyedW] at h
  exact ⟨h.2, h.1⟩
end Trie
def TGetEnd (w : World) (r : List UInt8 × Nat) (e : Ending) (w' : World) : Prop := e = .returned (.tuple #[.string ⟨r.1.toArray⟩, .int .i64 (r.2 : Int)]) ∧ Below w.heap.size w w'
set_option maxHeartbeats 1000000 in
theorem trie_Get (w : World) (t : Trie.T) (v : Value) (h : TrieP w t v) (key : List UInt8) (hl : key.length ≤ 9223372036854775807) :
    Calls Tryd.prog 43 #[v, .string ⟨key.toArray⟩] w (TGetEnd w (Trie.getW t key)) := by
  obtain ⟨hg, b, x, rfl, hbk, hk⟩ := h
  have HP : Hid (∀ r w', Trie.getW t key = r → Below w.heap.size w w' → TGetEnd w (Trie.getW t key) (.returned (.tuple #[.string ⟨r.1.toArray⟩, .int .i64 (r.2 : Int)])) w') := Lib.hid (fun b w' h1 h2 => ⟨by rw [h1], h2⟩)
  have c0 : w.cell? ⟨b, 0, none⟩ = some x := hbk.cell 0
  have HLt := Lib.hid hbk.lt
  generalize TGetEnd w (Trie.getW t key) = P at HP ⊢
  cases hkey : Trie.keyedW key with
  | false =>
    have HKy : Hid (∀ W, Calls Tryd.prog 73 #[.string ⟨key.toArray⟩] W fun e w' => e = .returned (.bool false) ∧ W = w') := Lib.hid (fun W => by have := trie_keyed key hl W; rwa [hkey] at this)
    have HR : Hid (Trie.getW t key = ([], 1)) := Lib.hid (by simp [Trie.getW, hkey])
    clear hbk hk hg hkey
    go_enter Tryd.func43, Tryd.ntmps43
    go_wp2_with (go_at_call 73; refine (HKy.out _).mono ?_; rintro e w1 ⟨rfl, rfl⟩)
    exact HP.out _ _ HR.out (Below.refl _ _)
  | true =>
    have HKy : Hid (∀ W, Calls Tryd.prog 73 #[.string ⟨key.toArray⟩] W fun e w' => e = .returned (.bool true) ∧ W = w') := Lib.hid (fun W => by have := trie_keyed key hl W; rwa [hkey] at this)
    have hk8 := (Trie.keyed_len hkey).1
    have HOf : Hid (∀ W, Calls Tryd.prog 56 #[.string ⟨key.toArray⟩] W fun e w' => e = .returned (.string ⟨(Nib.of key).toArray⟩) ∧ Below W.heap.size W w') := Lib.hid (fun W => nib_Of key W (by omega))
    obtain ⟨hx⟩ : Nonempty (x = .pointer none ∨ ∃ b2, x = .pointer (some ⟨b2, 0, none⟩)) := ⟨by rcases hk.form with ⟨_, h⟩ | ⟨b2, _, _, h, _⟩; exact .inl h; exact .inr ⟨b2, h⟩⟩
    rcases hx with rfl | ⟨b2, rfl⟩
    · have HGt : Hid (∀ W, Below w.heap.size w W → Calls Tryd.prog 74 #[(.pointer none), .string ⟨(Nib.of key).toArray⟩] W (GetEnd W (Trie.look t (Nib.of key)))) := Lib.hid (fun W hW => trie_get t (Nib.of key) _ W hg.wf hg.small (Nib.fit_of key) (by rw [Nib.of_length]; omega) (hk.next hW))
      clear hk hg hbk
      by_cases h0 : Trie.look t (Nib.of key) = []
      · have HR : Hid (Trie.getW t key = ([], 5)) := Lib.hid (by simp [Trie.getW, hkey, h0])
        rw [h0] at HGt
        clear h0
        go_enter Tryd.func43, Tryd.ntmps43
        go_upto_region 3 with (go_at_call 73; refine (HKy.out _).mono ?_; rintro e w1 ⟨rfl, rfl⟩)
        go_region_held3 (fun w' => w'.cell? ⟨b, 0, none⟩ = some (.pointer none)) (first | go_keep | assumption) (first | (go_at_call 56; refine (HOf.out _).mono ?_; rintro e w2 ⟨rfl, hb⟩; have hb2 : Below w.heap.size w w2 := (by first | exact hb | exact hb.start); clear hb; have d1 := (hb2.cell (p := ⟨b, 0, none⟩) HLt.out).trans c0) | (go_at_call 74; refine (HGt.out _ (by first | exact hb2 | exact hb2.drew)).mono ?_; rintro e w3 ⟨rfl, hb⟩; have hb3 : Below w2.heap.size w2 w3 := (by first | exact hb | exact hb.start); clear hb; have d2 := (hb3.cell (p := ⟨b, 0, none⟩) (Nat.lt_of_lt_of_le HLt.out hb2.size)).trans d1))
        go_wp2
        exact HP.out _ _ HR.out (hb2.nxt hb3)
      · have HR : Hid (Trie.getW t key = (Trie.look t (Nib.of key), 0)) := Lib.hid (by simp [Trie.getW, hkey, h0])
        have ne1 : ((Trie.look t (Nib.of key)).toArray = #[]) = False := by simp [h0]
        have ne2 : (Trie.look t (Nib.of key)).isEmpty = false := by simp [h0]
        generalize Trie.look t (Nib.of key) = val at *
        clear h0
        go_enter Tryd.func43, Tryd.ntmps43
        go_upto_region 3 with (go_at_call 73; refine (HKy.out _).mono ?_; rintro e w1 ⟨rfl, rfl⟩)
        go_region_held3 (fun w' => w'.cell? ⟨b, 0, none⟩ = some (.pointer none)) (first | go_keep | assumption) (first | (go_at_call 56; refine (HOf.out _).mono ?_; rintro e w2 ⟨rfl, hb⟩; have hb2 : Below w.heap.size w w2 := (by first | exact hb | exact hb.start); clear hb; have d1 := (hb2.cell (p := ⟨b, 0, none⟩) HLt.out).trans c0) | (go_at_call 74; refine (HGt.out _ (by first | exact hb2 | exact hb2.drew)).mono ?_; rintro e w3 ⟨rfl, hb⟩; have hb3 : Below w2.heap.size w2 w3 := (by first | exact hb | exact hb.start); clear hb; have d2 := (hb3.cell (p := ⟨b, 0, none⟩) (Nat.lt_of_lt_of_le HLt.out hb2.size)).trans d1))
        go_wp2
        exact HP.out _ _ HR.out (hb2.nxt hb3)
    · have HGt : Hid (∀ W, Below w.heap.size w W → Calls Tryd.prog 74 #[(.pointer (some ⟨b2, 0, none⟩)), .string ⟨(Nib.of key).toArray⟩] W (GetEnd W (Trie.look t (Nib.of key)))) := Lib.hid (fun W hW => trie_get t (Nib.of key) _ W hg.wf hg.small (Nib.fit_of key) (by rw [Nib.of_length]; omega) (hk.next hW))
      clear hk hg hbk
      by_cases h0 : Trie.look t (Nib.of key) = []
      · have HR : Hid (Trie.getW t key = ([], 5)) := Lib.hid (by simp [Trie.getW, hkey, h0])
        rw [h0] at HGt
        clear h0
        go_enter Tryd.func43, Tryd.ntmps43
        go_upto_region 3 with (go_at_call 73; refine (HKy.out _).mono ?_; rintro e w1 ⟨rfl, rfl⟩)
        go_region_held3 (fun w' => w'.cell? ⟨b, 0, none⟩ = some (.pointer (some ⟨b2, 0, none⟩))) (first | go_keep | assumption) (first | (go_at_call 56; refine (HOf.out _).mono ?_; rintro e w2 ⟨rfl, hb⟩; have hb2 : Below w.heap.size w w2 := (by first | exact hb | exact hb.start); clear hb; have d1 := (hb2.cell (p := ⟨b, 0, none⟩) HLt.out).trans c0) | (go_at_call 74; refine (HGt.out _ (by first | exact hb2 | exact hb2.drew)).mono ?_; rintro e w3 ⟨rfl, hb⟩; have hb3 : Below w2.heap.size w2 w3 := (by first | exact hb | exact hb.start); clear hb; have d2 := (hb3.cell (p := ⟨b, 0, none⟩) (Nat.lt_of_lt_of_le HLt.out hb2.size)).trans d1))
        go_wp2
        exact HP.out _ _ HR.out (hb2.nxt hb3)
      · have HR : Hid (Trie.getW t key = (Trie.look t (Nib.of key), 0)) := Lib.hid (by simp [Trie.getW, hkey, h0])
        have ne1 : ((Trie.look t (Nib.of key)).toArray = #[]) = False := by simp [h0]
        have ne2 : (Trie.look t (Nib.of key)).isEmpty = false := by simp [h0]
        generalize Trie.look t (Nib.of key) = val at *
        clear h0
        go_enter Tryd.func43, Tryd.ntmps43
        go_upto_region 3 with (go_at_call 73; refine (HKy.out _).mono ?_; rintro e w1 ⟨rfl, rfl⟩)
        go_region_held3 (fun w' => w'.cell? ⟨b, 0, none⟩ = some (.pointer (some ⟨b2, 0, none⟩))) (first | go_keep | assumption) (first | (go_at_call 56; refine (HOf.out _).mono ?_; rintro e w2 ⟨rfl, hb⟩; have hb2 : Below w.heap.size w w2 := (by first | exact hb | exact hb.start); clear hb; have d1 := (hb2.cell (p := ⟨b, 0, none⟩) HLt.out).trans c0) | (go_at_call 74; refine (HGt.out _ (by first | exact hb2 | exact hb2.drew)).mono ?_; rintro e w3 ⟨rfl, hb⟩; have hb3 : Below w2.heap.size w2 w3 := (by first | exact hb | exact hb.start); clear hb; have d2 := (hb3.cell (p := ⟨b, 0, none⟩) (Nat.lt_of_lt_of_le HLt.out hb2.size)).trans d1))
        go_wp2
        exact HP.out _ _ HR.out (hb2.nxt hb3)
end Go.Proofs.YtefcmigbdfeaiaaDoor
