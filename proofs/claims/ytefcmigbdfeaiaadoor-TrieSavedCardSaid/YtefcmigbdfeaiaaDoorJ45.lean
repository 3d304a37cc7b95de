import Derived.Test.YtefcmigbdfeaiaaDoorJ44
import Derived.Test.YtefcmigbdfeaiaaDoorJ31
import Derived.Test.YtefcmigbdfeaiaaDoorJ01
set_option linter.unusedSimpArgs false
set_option linter.unusedVariables false
namespace Go.Proofs.YtefcmigbdfeaiaaDoor
set_option linter.unusedVariables false
open Go.RowKit Go.Instr
attribute [local go_sem] ba_get ByteArray.mk_append_mk
def nodeOf (D : List Trie.KV) (k : List UInt8) : Nd × Nat := match lookB D k with
  | none => (zeroN, 90)
  | some s => decN s
theorem decN_K (s : List UInt8) : (decN s).1.2.2.2.length = 16 := by
  rcases decN_cases s with h | ⟨n, h, h2, _⟩
  · rw [h]; rfl
  · rw [h]; exact h2
theorem lookB_mem {D : List Trie.KV} {k s : List UInt8} (h : lookB D k = some s) : (k, s) ∈ D := by
  induction D with
  | nil => simp [lookB] at h
  | cons x D ih =>
    simp only [lookB] at h
    by_cases hk : k = x.1
    · rw [if_pos hk] at h
      injection h with h
      subst hk
      subst h
      exact List.mem_cons_self ..
    · rw [if_neg hk] at h
      exact List.mem_cons_of_mem _ (ih h)
set_option maxRecDepth 100000 in
set_option maxHeartbeats 2000000 in
theorem store_Node (w : World) (g b : Nat) (D : List Trie.KV) (h : StoreP w g b D) (key : List UInt8) (hs : ∀ x ∈ D, x.2.length ≤ 900000) :
    Calls Tryd.prog 90 #[.pointer (some ⟨g, 0, none⟩), .string ⟨key.toArray⟩] w (DecNEnd w (nodeOf D key)) := by
  have HP : Hid (∀ w' n (c : Nat), nodeOf D key = (n, c) → Below w.heap.size w w' → DecNEnd w (nodeOf D key) (.returned (.tuple #[.agg (nodeV n.1 n.2.1 n.2.2.1 n.2.2.2).toArray, .int .i64 (c : Int)])) w') := Lib.hid (fun w' n c e h => by rw [e]; exact ⟨rfl, h⟩)
  have HX : Hid (nodeOf D key = match lookB D key with | none => (zeroN, 90) | some s => decN s) := Lib.hid rfl
  generalize DecNEnd w (nodeOf D key) = P at HP ⊢
  have HG := Lib.hid (fun W (hW : Below w.heap.size w W) => store_Get W g b D (h.next hW) key)
  have HL := Lib.hid (fun s (hk : lookB D key = some s) => show s.length ≤ 900000 from hs _ (lookB_mem hk))
  generalize nodeOf D key = X at *
  clear h hs
  go_enter Tryd.func90, Tryd.ntmps90
  go_upto_region 1 with fail
  obtain ⟨rb, hrb⟩ : ∃ rb, w.heap.size = rb := ⟨_, rfl⟩
  have b1 : Hid (Blk (w.alloc (.cells #[.int .i64 0, .string ⟨#[]⟩, .string ⟨#[]⟩, .string ⟨#[]⟩, .string ⟨#[]⟩, .string ⟨#[]⟩, .string ⟨#[]⟩, .string ⟨#[]⟩, .string ⟨#[]⟩, .string ⟨#[]⟩, .string ⟨#[]⟩, .string ⟨#[]⟩, .string ⟨#[]⟩, .string ⟨#[]⟩, .string ⟨#[]⟩, .string ⟨#[]⟩, .string ⟨#[]⟩, .string ⟨#[]⟩, .string ⟨#[]⟩] 91)) rb 91 #[.int .i64 0, .string ⟨#[]⟩, .string ⟨#[]⟩, .string ⟨#[]⟩, .string ⟨#[]⟩, .string ⟨#[]⟩, .string ⟨#[]⟩, .string ⟨#[]⟩, .string ⟨#[]⟩, .string ⟨#[]⟩, .string ⟨#[]⟩, .string ⟨#[]⟩, .string ⟨#[]⟩, .string ⟨#[]⟩, .string ⟨#[]⟩, .string ⟨#[]⟩, .string ⟨#[]⟩, .string ⟨#[]⟩, .string ⟨#[]⟩] ∧ Below w.heap.size w (w.alloc (.cells #[.int .i64 0, .string ⟨#[]⟩, .string ⟨#[]⟩, .string ⟨#[]⟩, .string ⟨#[]⟩, .string ⟨#[]⟩, .string ⟨#[]⟩, .string ⟨#[]⟩, .string ⟨#[]⟩, .string ⟨#[]⟩, .string ⟨#[]⟩, .string ⟨#[]⟩, .string ⟨#[]⟩, .string ⟨#[]⟩, .string ⟨#[]⟩, .string ⟨#[]⟩, .string ⟨#[]⟩, .string ⟨#[]⟩, .string ⟨#[]⟩] 91)) ∧ w.heap.size ≤ rb) := Lib.hid (by subst hrb; exact ⟨Blk.new w _ _, by go_grown, Nat.le_refl _⟩)
  rw [hrb]
  generalize w.alloc (.cells #[.int .i64 0, .string ⟨#[]⟩, .string ⟨#[]⟩, .string ⟨#[]⟩, .string ⟨#[]⟩, .string ⟨#[]⟩, .string ⟨#[]⟩, .string ⟨#[]⟩, .string ⟨#[]⟩, .string ⟨#[]⟩, .string ⟨#[]⟩, .string ⟨#[]⟩, .string ⟨#[]⟩, .string ⟨#[]⟩, .string ⟨#[]⟩, .string ⟨#[]⟩, .string ⟨#[]⟩, .string ⟨#[]⟩, .string ⟨#[]⟩] 91) = W1 at b1 ⊢
  clear hrb
  cases hl : lookB D key with
  | none =>
    rw [hl] at HG HX
    simp only at HX
    clear hl HL
    go_wp2_with fail
    refine (HG.out _ b1.out.2.1).mono ?_
    rintro e w2 ⟨rfl, hb2⟩
    have F5 : Hid (Live w w2 [(rb, 91, #[.int .i64 0, .string ⟨#[]⟩, .string ⟨#[]⟩, .string ⟨#[]⟩, .string ⟨#[]⟩, .string ⟨#[]⟩, .string ⟨#[]⟩, .string ⟨#[]⟩, .string ⟨#[]⟩, .string ⟨#[]⟩, .string ⟨#[]⟩, .string ⟨#[]⟩, .string ⟨#[]⟩, .string ⟨#[]⟩, .string ⟨#[]⟩, .string ⟨#[]⟩, .string ⟨#[]⟩, .string ⟨#[]⟩, .string ⟨#[]⟩])]) := Lib.hid (Live.one (b1.out.2.1.nxt hb2) b1.out.2.2 (b1.out.1.below hb2 b1.out.1.lt))
    have TH := F5.out.there 0 19 rfl (by decide)
    have HON : (#[.int .i64 0, .string ⟨#[]⟩, .string ⟨#[]⟩, .string ⟨#[]⟩, .string ⟨#[]⟩, .string ⟨#[]⟩, .string ⟨#[]⟩, .string ⟨#[]⟩, .string ⟨#[]⟩, .string ⟨#[]⟩, .string ⟨#[]⟩, .string ⟨#[]⟩, .string ⟨#[]⟩, .string ⟨#[]⟩, .string ⟨#[]⟩, .string ⟨#[]⟩, .string ⟨#[]⟩, .string ⟨#[]⟩, .string ⟨#[]⟩] : Array Value).all (·.oneCell') = true := by rw [zeros_eq]; exact nodeV_one _ _ _ _
    clear hb2
    go_wp2_with (first | ((with_reducible refine at_op 16 ?_); refine wpList_build_eq rfl 91 _ rfl #[.int .i64 0, .string ⟨#[]⟩, .string ⟨#[]⟩, .string ⟨#[]⟩, .string ⟨#[]⟩, .string ⟨#[]⟩, .string ⟨#[]⟩, .string ⟨#[]⟩, .string ⟨#[]⟩, .string ⟨#[]⟩, .string ⟨#[]⟩, .string ⟨#[]⟩, .string ⟨#[]⟩, .string ⟨#[]⟩, .string ⟨#[]⟩, .string ⟨#[]⟩, .string ⟨#[]⟩, .string ⟨#[]⟩, .string ⟨#[]⟩] (by simp only [List.map_toArray, List.map_cons, List.map_nil]; kernel_rfl) ?_) | ((with_reducible refine at_put 16 ?_); refine wpList_store_mid rfl 91 _ _ rfl rb 0 #[.int .i64 0, .string ⟨#[]⟩, .string ⟨#[]⟩, .string ⟨#[]⟩, .string ⟨#[]⟩, .string ⟨#[]⟩, .string ⟨#[]⟩, .string ⟨#[]⟩, .string ⟨#[]⟩, .string ⟨#[]⟩, .string ⟨#[]⟩, .string ⟨#[]⟩, .string ⟨#[]⟩, .string ⟨#[]⟩, .string ⟨#[]⟩, .string ⟨#[]⟩, .string ⟨#[]⟩, .string ⟨#[]⟩, .string ⟨#[]⟩] rfl rfl TH info_node HON ?_; have F6 := Live.hall F5 0 (#[.int .i64 0, .string ⟨#[]⟩, .string ⟨#[]⟩, .string ⟨#[]⟩, .string ⟨#[]⟩, .string ⟨#[]⟩, .string ⟨#[]⟩, .string ⟨#[]⟩, .string ⟨#[]⟩, .string ⟨#[]⟩, .string ⟨#[]⟩, .string ⟨#[]⟩, .string ⟨#[]⟩, .string ⟨#[]⟩, .string ⟨#[]⟩, .string ⟨#[]⟩, .string ⟨#[]⟩, .string ⟨#[]⟩, .string ⟨#[]⟩] : Array Value).toList rfl rfl; generalize World.setCells _ rb 0 _ = W6 at F6 ⊢; have ld : (loadVar 91 ⟨rb, 0, none⟩).run Tryd.prog W6 = .ok (.agg #[.int .i64 0, .string ⟨#[]⟩, .string ⟨#[]⟩, .string ⟨#[]⟩, .string ⟨#[]⟩, .string ⟨#[]⟩, .string ⟨#[]⟩, .string ⟨#[]⟩, .string ⟨#[]⟩, .string ⟨#[]⟩, .string ⟨#[]⟩, .string ⟨#[]⟩, .string ⟨#[]⟩, .string ⟨#[]⟩, .string ⟨#[]⟩, .string ⟨#[]⟩, .string ⟨#[]⟩, .string ⟨#[]⟩, .string ⟨#[]⟩]) W6 := run_loadVar_mid (P := Tryd.prog) W6 rb 0 91 (#[.int .i64 0, .string ⟨#[]⟩, .string ⟨#[]⟩, .string ⟨#[]⟩, .string ⟨#[]⟩, .string ⟨#[]⟩, .string ⟨#[]⟩, .string ⟨#[]⟩, .string ⟨#[]⟩, .string ⟨#[]⟩, .string ⟨#[]⟩, .string ⟨#[]⟩, .string ⟨#[]⟩, .string ⟨#[]⟩, .string ⟨#[]⟩, .string ⟨#[]⟩, .string ⟨#[]⟩, .string ⟨#[]⟩, .string ⟨#[]⟩] : Array Value).toList _ (Blk.range0 (F6.out.blk 0 rfl)) Tryd.underlying91 rfl info_node; clear TH))
    have HF : P (.returned (.tuple #[.agg #[.int .i64 0, .string ⟨#[]⟩, .string ⟨#[]⟩, .string ⟨#[]⟩, .string ⟨#[]⟩, .string ⟨#[]⟩, .string ⟨#[]⟩, .string ⟨#[]⟩, .string ⟨#[]⟩, .string ⟨#[]⟩, .string ⟨#[]⟩, .string ⟨#[]⟩, .string ⟨#[]⟩, .string ⟨#[]⟩, .string ⟨#[]⟩, .string ⟨#[]⟩, .string ⟨#[]⟩, .string ⟨#[]⟩, .string ⟨#[]⟩], .int .i64 90])) W6 := HP.out W6 zeroN 90 HX.out F6.out.b
    exact ⟨rfl, _, results_cell2 rfl rfl ld rfl, HF⟩
  | some s =>
    rw [hl] at HG HX
    simp only [Option.getD_some, Option.isSome_some] at HG
    simp only at HX
    have HDc := Lib.hid (fun W => node_Decode W s (by have := HL.out s hl; omega))
    have hK := decN_K s
    clear hl HL
    generalize decN s = dr at *
    obtain ⟨⟨k, p, v, K⟩, cd⟩ := dr
    unfold DecNEnd at HDc
    simp only at HDc HX hK
    have HEq : Hid (∀ w', Below w.heap.size w w' → P (.returned (.tuple #[.agg (nodeV k p v K).toArray, .int .i64 (cd : Int)])) w') := Lib.hid (fun w' h => HP.out w' (k, p, v, K) cd HX.out h)
    have HSz := Lib.hid (nodeV_size (k := k) (p := p) (v := v) hK)
    have SZ : (Tryd.prog.info? 91).map (·.size) = some (nodeV k p v K).length := by rw [HSz.out]; exact info_node
    have HON := nodeV_one k p v K
    generalize nodeV k p v K = NV at *
    clear hK HX HP
    go_wp2_with fail
    refine (HG.out _ b1.out.2.1).mono ?_
    rintro e w2 ⟨rfl, hb2⟩
    have B2 := Lib.hid hb2
    clear hb2
    go_wp2_with fail
    refine (HDc.out _).mono ?_
    rintro e w3 ⟨rfl, hb3⟩
    have F6 : Hid (Live w w3 [(rb, 91, #[.int .i64 0, .string ⟨#[]⟩, .string ⟨#[]⟩, .string ⟨#[]⟩, .string ⟨#[]⟩, .string ⟨#[]⟩, .string ⟨#[]⟩, .string ⟨#[]⟩, .string ⟨#[]⟩, .string ⟨#[]⟩, .string ⟨#[]⟩, .string ⟨#[]⟩, .string ⟨#[]⟩, .string ⟨#[]⟩, .string ⟨#[]⟩, .string ⟨#[]⟩, .string ⟨#[]⟩, .string ⟨#[]⟩, .string ⟨#[]⟩])]) := Lib.hid (Live.one (b1.out.2.1.nxt (B2.out.nxt hb3)) b1.out.2.2 (b1.out.1.below (B2.out.nxt hb3) b1.out.1.lt))
    have TH : w3.there rb 0 NV.toArray.size := by
      rw [show NV.toArray.size = 19 by rw [List.size_toArray]; exact HSz.out]
      exact F6.out.there 0 19 rfl (by decide)
    have SZ2 : (Tryd.prog.info? 91).map (·.size) = some NV.toArray.size := by rw [List.size_toArray]; exact SZ
    clear hb3
    go_wp2_with ((with_reducible refine at_put 19 ?_); refine wpList_store_mid rfl 91 _ _ rfl rb 0 NV.toArray rfl rfl TH SZ2 HON ?_; have F7 := Live.hall F6 0 NV.toArray.toList rfl HSz.out.symm; generalize World.setCells _ rb 0 _ = W7 at F7 ⊢; have ld := run_loadVar_mid (P := Tryd.prog) W7 rb 0 91 NV.toArray.toList _ (Blk.range0 (F7.out.blk 0 rfl)) Tryd.underlying91 rfl SZ; clear TH SZ2)
    have HF := HEq.out W7 F7.out.b
    exact ⟨rfl, _, results_cell2 rfl rfl ld rfl, HF⟩
end Go.Proofs.YtefcmigbdfeaiaaDoor

namespace Go.Proofs.YtefcmigbdfeaiaaDoor
set_option linter.unusedVariables false
open Go.RowKit Go.Instr Go.ChangeMaps
attribute [local go_sem] ba_get ByteArray.mk_append_mk
theorem KnotP.grown {w w1 : World} {k : Nat} {t : Trie.T} {x : Value} (h : KnotP w t x) (hg : w.grownBy w1 (some k)) (hk : ∀ cs, ¬ Blk w k 101 cs) : KnotP w1 t x := by
  induction h with
  | nil => exact .nil
  | knot t b ps h1 h2 h3 _ ih => exact .knot t b ps h1 h2 (h3.grown hg (fun e => by injection e with e; subst e; exact hk _ h3)) ih
theorem BMap.no_blk {w : World} {b : Nat} {D : List Trie.KV} (h : BMap w b D) (t : TypeId) (cs : Array Value) : ¬ Blk w b t cs := by
  obtain ⟨vs, ⟨E, cl, h1, _⟩, _⟩ := h.ex
  intro h2
  unfold Blk at h2
  rw [h2] at h1
  cases h1
theorem TrieP.grown {w w1 : World} {b : Nat} {D : List Trie.KV} {t : Trie.T} {v : Value} (h : TrieP w t v) (hm : BMap w b D) (hg : w.grownBy w1 (some b)) : TrieP w1 t v := by
  obtain ⟨h1, g, x, h2, h3, h4⟩ := h
  exact ⟨h1, g, x, h2, h3.grown hg (fun e => by injection e with e; subst e; exact hm.no_blk _ _ h3), h4.grown hg (fun cs => hm.no_blk _ cs)⟩
theorem BMap.tbl {w w1 : World} {b : Nat} {D : List Trie.KV} (h : BMap w b D) (hT : Tbl w) (hg : w.grownBy w1 (some b)) : Tbl w1 := by
  refine hT.grown hg ?_
  obtain ⟨vs, hm, _⟩ := h.ex
  refine Nat.pos_of_ne_zero fun e => ?_
  subst e
  have := hT 0 (by omega)
  rw [hm.no_cell _ rfl] at this
  cases this
theorem Reads.off {w w1 : World} {b B n : Nat} {D : List Trie.KV} {A : Option Addr} {xs : List Value} (hr : Reads w B 1 A n xs) (hB : B ≤ w.heap.size) (h : BMap w b D) (hg : w.grownBy w1 (some b)) : Reads w1 B 1 A n xs := by
  obtain ⟨vs, hm, _⟩ := h.ex
  exact hr.off_map hm hB hg
def saveD (D : List Trie.KV) (l : List (List UInt8)) : List Trie.KV := l.foldl putS D
theorem saveD_take (D : List Trie.KV) (l : List (List UInt8)) (i : Nat) (h : i < l.length) : saveD D (l.take (i + 1)) = putS (saveD D (l.take i)) l[i] := by
  unfold saveD
  rw [List.take_succ_eq_append_getElem h, List.foldl_append]
  rfl
set_option maxRecDepth 100000 in
set_option maxHeartbeats 1000000 in
theorem trie_Save (w : World) (t : Trie.T) (v : Value) (h : TrieP w t v) (hc : Trie.count t ≤ 20000) (hs : ∀ x ∈ toldW allW t, x.length ≤ 900000) (g b : Nat) (D : List Trie.KV) (HS : StoreP w g b D) (hT : Tbl w) :
    Calls Tryd.prog 31 #[v, .pointer (some ⟨g, 0, none⟩)] w fun e w' => e = .returned (.string ⟨(Trie.sumT t).toArray⟩) ∧ StoreP w' g b (saveD D (toldW allW t)) ∧ w.grownBy w' (some b) := by
  have HP : Hid (∀ w', StoreP w' g b (saveD D (toldW allW t)) → w.grownBy w' (some b) → (fun e w' => e = Ending.returned (.string ⟨(Trie.sumT t).toArray⟩) ∧ StoreP w' g b (saveD D (toldW allW t)) ∧ w.grownBy w' (some b)) (Ending.returned (.string ⟨(Trie.sumT t).toArray⟩)) w') := Lib.hid (fun w' h1 h2 => ⟨rfl, h1, h2⟩)
  generalize (fun e w' => e = Ending.returned (.string ⟨(Trie.sumT t).toArray⟩) ∧ StoreP w' g b (saveD D (toldW allW t)) ∧ w.grownBy w' (some b)) = P at HP ⊢
  have HNo := Lib.hid (trie_Nodes w t v h hc)
  have HTl : Hid ((toldW allW t).length ≤ 100000) := Lib.hid (by
    rw [toldW, textsD, List.length_map]
    exact Trie.goT_short h.1.wf hc _ _)
  have HTr := Lib.hid h
  obtain ⟨_, vb, vx, rfl, _⟩ := id h
  have HSt := Lib.hid HS
  have HTb := Lib.hid hT
  have HRt := Lib.hid (fun W (hW : TrieP W t (.pointer (some ⟨vb, 0, none⟩))) => trie_Root W t _ hW)
  have HSh := Lib.hid hs
  clear h HS hT hc hs
  generalize toldW allW t = l at *
  generalize Trie.sumT t = sm at *
  go_enter Tryd.func31, Tryd.ntmps31
  go_wp2_with fail
  refine HNo.out.mono ?_
  rintro e w1 ⟨A1, n1, c1, rfl, hn1, own1, hb1⟩
  obtain rfl := hn1
  have R1 := Lib.hid (Reads.of_own own1)
  have HB1 := Lib.hid hb1
  have S1 := Lib.hid (HSt.out.next hb1)
  have T1 := Lib.hid (HTr.out.next hb1)
  have Tb1 := Lib.hid (HTb.out.next hb1)
  clear own1 hb1 HNo HTr HTb HSt
  go_wp2_with fail
  refine wp_loop_ghost_k (fun k a wr => ∀ Φ : Act → Prop, (∀ (s2 s3 s4 s5 s6 s7 s11 s12 s13 s14 s15 s16 s17 s18 s19 : Value) (i : Nat), (i + k = l.length ∧ StoreP wr g b (saveD D (l.take i)) ∧ w1.grownBy wr (some b)) → Φ { tmps := #[.pointer (some ⟨vb, 0, none⟩), .pointer (some ⟨g, 0, none⟩), s2, s3, s4, s5, s6, s7, .slice A1 l.length c1, .int .i64 (l.length : Int), .int .i64 (i : Int), s11, s12, s13, s14, s15, s16, s17, s18, s19], defers := [] }) → Φ a) (l.length) ?_ ?_
  · refine fun Φ hΦ => hΦ _ _ _ _ _ _ _ _ _ _ _ _ _ _ _ (0) ?_
    exact ⟨by omega, by simpa [saveD] using S1.out, ⟨rfl, rfl, rfl, Nat.le_refl _, fun _ _ _ => rfl⟩⟩
  · intro k1 a1 wr1 hI1 J1 K1 hJ1 hK1
    refine hI1 (fun a => Code.wp _ _ _ a _) ?_
    clear hI1 a1
    intro s0 s1 s2 s3 s4 s5 s6 s7 s8 s9 s10 s11 s12 s13 s14 i hrel
    show Code.wp _ _ _ _ _
    obtain ⟨h1, hst, hg⟩ := hrel
    by_cases hi : i < l.length
    · have R2 : Reads wr1 wr1.heap.size 1 A1 l.length (strv l) := (R1.out.off (Nat.le_refl _) S1.out.map hg).more hg.size
      obtain ⟨ad, off, rfl, hbl, hcell⟩ := few_cell R2 hi
      have q0 := hcell _ (Below.refl _ _)
      have hi1 : (i : Int) < l.length := by omega
      have hi0 : (0 : Int) ≤ i := by omega
      have hl := HTl.out
      have hi3 : i ≤ 100000 := by omega
      have hx := HSh.out _ (List.getElem_mem hi)
      have htk := saveD_take D l i hi
      have HI := Lib.hid (And.intro h1 (And.intro hg htk))
      have HPu := Lib.hid (store_Put wr1 g b _ hst l[i] hx (S1.out.map.tbl Tb1.out hg))
      clear h1 hst hg hcell R2 hx htk hbl
      generalize saveD D (l.take i) = Di at *
      generalize l[i] = x at *
      go_wp2_with fail
      refine HPu.out.mono ?_
      rintro e w2 ⟨rfl, s2, g2⟩
      have H2 := Lib.hid (And.intro s2 g2)
      clear s2 g2 q0
      go_wp2_with fail
      refine Handed.intro (l.length - (i + 1)) ?_ (hJ1 _ _ _ (fun Φ hΦ => hΦ _ _ _ _ _ _ _ _ _ _ _ _ _ _ _ (i + 1) ?_))
      · have := HI.out.1; omega
      · exact ⟨by have := HI.out.1; omega, by rw [HI.out.2.2]; exact H2.out.1, HI.out.2.1.trans H2.out.2⟩
    · have hi1 : ((i : Int) < l.length) = False := by simp; omega
      rw [List.take_of_length_le (by omega)] at hst
      have HE := Lib.hid (And.intro hst hg)
      clear h1 hst hg hi
      go_wp2_with fail
      refine (HRt.out _ (T1.out.grown S1.out.map HE.out.2)).mono ?_
      rintro e w3 ⟨rfl, rfl⟩
      go_wp2_with fail
      exact HP.out _ HE.out.1 ((grown_of_below _ HB1.out).trans HE.out.2)
end Go.Proofs.YtefcmigbdfeaiaaDoor

namespace Go.Proofs.YtefcmigbdfeaiaaDoor
set_option linter.unusedVariables false
namespace Trie
abbrev Ld := T × Nat × Nat
def kidsLd (f : List UInt8 → List UInt8 → Nat → Nat → Ld) (K : List (List UInt8)) (at_ : Nat → List UInt8) : Nat → Nat → Nat → List T × Nat × Nat
  | 0, m, c => ([], m, c)
  | n + 1, m, c =>
    if K.getD (15 - n) [] = [] then (.nil :: (kidsLd f K at_ n m c).1, (kidsLd f K at_ n m c).2)
    else ((f (K.getD (15 - n) []) (at_ (15 - n)) m c).1 :: (kidsLd f K at_ n (f (K.getD (15 - n) []) (at_ (15 - n)) m c).2.1 (f (K.getD (15 - n) []) (at_ (15 - n)) m c).2.2).1, (kidsLd f K at_ n (f (K.getD (15 - n) []) (at_ (15 - n)) m c).2.1 (f (K.getD (15 - n) []) (at_ (15 - n)) m c).2.2).2)
def mkT (n : Nd) (ts : List T) : T := if n.1 = 1 then .leaf n.2.1 n.2.2.1 else if n.1 = 2 then .ext n.2.1 (ts.getD 0 .nil) else .branch n.2.2.1 fun i => ts.getD i.val .nil
def itemLd (long m : Nat) : Nat × Nat := if long = 0 ∨ long % 2 = 1 then (m, 4) else if 1024 < m + 1 then (m + 1, 2) else (m + 1, 0)
def kidAt (n : Nd) (pl : List UInt8) (i : Nat) : List UInt8 := if n.1 = 2 then pl ++ n.2.1 else pl ++ [UInt8.ofNat i]
def oddLd (n : Nd) (pl : List UInt8) (below : Bool) : Bool := (below && !decide (n.1 = 3)) || decide (16 < pl.length + n.2.1.length) || (decide (n.1 = 3) && !decide (n.2.2.2 = zeroK) && decide (16 ≤ pl.length + n.2.1.length))
def manyLd (n : Nd) (pl : List UInt8) (m : Nat) : Nat × Nat := if n.2.2.1 = [] then (m, 0) else itemLd (pl.length + n.2.1.length) m
def endLd (n : Nd) (r : List T × Nat × Nat) : Ld := if r.2.2 = 0 then (mkT n r.1, r.2.1, 0) else (.nil, r.2.1, r.2.2)
def loadW (D : List Trie.KV) : Nat → List UInt8 → List UInt8 → Bool → Nat → Nat → Ld
  | 0, _, _, _, m, _ => (.nil, m, 4)
  | f + 1, sum, pl, below, m, c =>
    if c ≠ 0 then (.nil, m, c)
    else if (nodeOf D sum).2 ≠ 0 then (.nil, m, (nodeOf D sum).2)
    else if oddLd (nodeOf D sum).1 pl below = true then (.nil, m, 4)
    else if (manyLd (nodeOf D sum).1 pl m).2 ≠ 0 then (.nil, (manyLd (nodeOf D sum).1 pl m).1, (manyLd (nodeOf D sum).1 pl m).2)
    else endLd (nodeOf D sum).1 (kidsLd (fun s p m c => loadW D f s p (decide ((nodeOf D sum).1.1 = 2)) m c) (nodeOf D sum).1.2.2.2 (kidAt (nodeOf D sum).1 pl) 16 (manyLd (nodeOf D sum).1 pl m).1 0)
end Trie
end Go.Proofs.YtefcmigbdfeaiaaDoor
