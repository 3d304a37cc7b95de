import Derived.Test.YtefcmigbdfeaiaaDoorJ46
import Derived.Test.YtefcmigbdfeaiaaDoorJ20
import Derived.Deep.DeepCutAuto
set_option linter.unusedSimpArgs false
set_option linter.unusedVariables false
namespace Go.Proofs.YtefcmigbdfeaiaaDoor
set_option linter.unusedVariables false
open Go.RowKit Go.Instr Go.ChangeMaps
attribute [local go_sem] ba_get ByteArray.mk_append_mk
theorem LdrP.below {w w' : World} {lb g m c : Nat} (h : LdrP w lb g m c) (hb : Below w.heap.size w w') : LdrP w' lb g m c := Blk.below h hb (Blk.lt h)
structure Ld0 (w00 w wr : World) (lb g nb : Nat) (n : Nd) (m c : Nat) : Prop where
  ld : LdrP wr lb g m c
  b0 : Below w00.heap.size w00 wr
  l0 : w00.heap.size ≤ lb
  nd : Blk wr nb 91 (nodeV n.1 n.2.1 n.2.2.1 n.2.2.2).toArray
  gr : w.grownBy wr (some lb)
structure Ld1 (w00 w wr : World) (lb g nb kb : Nat) (n : Nd) (ts : List Trie.T) (ps : List Value) (m c : Nat) : Prop extends Ld0 w00 w wr lb g nb n m c where
  kd : Blk wr kb 99 ps.toArray
  k0 : w.heap.size ≤ kb
  k00 : w00.heap.size ≤ kb
  pl : ps.length = 16
  kn : ∀ j, j < 16 → KnotP wr (ts.getD j .nil) (ps.getD j undef)
section
variable {w00 w wr w' : World} {lb g nb kb : Nat} {n : Nd} {m c m' c' : Nat} {ts : List Trie.T} {ps : List Value}
theorem Ld0.call (h : Ld0 w00 w wr lb g nb n m c) (hg : wr.grownBy w' (some lb)) (hl : LdrP w' lb g m' c') : Ld0 w00 w w' lb g nb n m' c' :=
  ⟨hl, h.b0.grown hg h.b0.size (fun k e => by injection e with e; subst e; exact h.l0), h.l0, h.nd.grown hg (fun e => Blk.ne_ h.nd h.ld (by decide) (by injection e)), h.gr.trans hg⟩
theorem Ld1.call (h : Ld1 w00 w wr lb g nb kb n ts ps m c) (hg : wr.grownBy w' (some lb)) (hl : LdrP w' lb g m' c') : Ld1 w00 w w' lb g nb kb n ts ps m' c' :=
  { h.toLd0.call hg hl with kd := h.kd.grown hg (fun e => Blk.ne_ h.kd h.ld (by decide) (by injection e)), k0 := h.k0, k00 := h.k00, pl := h.pl, kn := fun j hj => (h.kn j hj).grown hg (fun cs hc => Blk.ne_ hc h.ld (by decide) rfl) }
theorem Ld1.below (h : Ld1 w00 w wr lb g nb kb n ts ps m c) (hb : Below wr.heap.size wr w') : Ld1 w00 w w' lb g nb kb n ts ps m c := h.call (grown_of_below _ hb) (h.ld.below hb)
theorem getD_set_self {α : Type} {l : List α} {i : Nat} {x d : α} (h : i < l.length) : (l.set i x).getD i d = x := by
  rw [List.getD_eq_getElem?_getD, List.getElem?_set_self h]; rfl
theorem getD_set_ne {α : Type} {l : List α} {i j : Nat} {x d : α} (h : i ≠ j) : (l.set i x).getD j d = l.getD j d := by
  rw [List.getD_eq_getElem?_getD, List.getElem?_set_ne h, List.getD_eq_getElem?_getD]
theorem getD_snoc {α : Type} {l : List α} {j : Nat} {x d : α} : (l ++ [x]).getD j d = if j = l.length then x else l.getD j d := by
  simp only [List.getD_eq_getElem?_getD]
  split
  · rename_i h; subst h; simp
  · rename_i h
    by_cases hj : j < l.length
    · rw [List.getElem?_append_left hj]
    · rw [List.getElem?_eq_none (by simp; omega), List.getElem?_eq_none (by omega)]
theorem Ld1.put (h : Ld1 w00 w wr lb g nb kb n ts ps m c) (t : Trie.T) (x : Value) (hx : KnotP wr t x) (hi : ts.length < 16) : Ld1 w00 w (wr.setCell ⟨kb, ts.length, none⟩ x) lb g nb kb n (ts ++ [t]) (ps.set ts.length x) m c := by
  have hg : wr.grownBy (wr.setCell ⟨kb, ts.length, none⟩ x) (some kb) := grown_cell
  have hk : ∀ cs, ¬ Blk wr kb 101 cs := fun cs hc => Blk.ne_ hc h.kd (by decide) rfl
  have hlt := h.kd.lt
  refine ⟨⟨Blk.grown h.ld hg (fun e => Blk.ne_ h.kd h.ld (by decide) (by injection e with e; exact e.symm)), ?_, h.l0, h.nd.grown hg (fun e => Blk.ne_ h.nd h.kd (by decide) (by injection e)), h.gr.andThen hg (fun j e => by injection e with e; subst e; exact .inl h.k0)⟩, ?_, h.k0, h.k00, by rw [List.length_set]; exact h.pl, fun j hj => ?_⟩
  · exact h.b0.grown hg h.b0.size (fun k e => by
      injection e with e
      subst e
      exact h.k00)
  · have := h.kd.set_ ts.length x
    rwa [List.setIfInBounds_toArray] at this
  · rw [getD_snoc]
    split
    · rename_i e
      subst e
      rw [getD_set_self (by rw [h.pl]; exact hj)]
      exact hx.grown hg hk
    · rename_i e
      rw [getD_set_ne (fun e2 => e e2.symm)]
      exact (h.kn j hj).grown hg hk
end
theorem kidsLd_skip (f : List UInt8 → List UInt8 → Nat → Nat → Trie.Ld) (K : List (List UInt8)) (at_ : Nat → List UInt8) (ts : List Trie.T) (i m c m0 c0 : Nat) (hi : i < 16) (hs : K.getD i [] = []) (h : Trie.kidsLd f K at_ 16 m0 c0 = (ts ++ (Trie.kidsLd f K at_ (16 - i) m c).1, (Trie.kidsLd f K at_ (16 - i) m c).2)) :
    Trie.kidsLd f K at_ 16 m0 c0 = (ts ++ [.nil] ++ (Trie.kidsLd f K at_ (16 - (i + 1)) m c).1, (Trie.kidsLd f K at_ (16 - (i + 1)) m c).2) := by
  rw [h, show 16 - i = (15 - i) + 1 by omega, show 16 - (i + 1) = 15 - i by omega]
  simp only [Trie.kidsLd]
  rw [show 15 - (15 - i) = i by omega, if_pos hs]
  simp
theorem kidsLd_step (f : List UInt8 → List UInt8 → Nat → Nat → Trie.Ld) (K : List (List UInt8)) (at_ : Nat → List UInt8) (ts : List Trie.T) (i m c m0 c0 : Nat) (hi : i < 16) (hs : K.getD i [] ≠ []) (h : Trie.kidsLd f K at_ 16 m0 c0 = (ts ++ (Trie.kidsLd f K at_ (16 - i) m c).1, (Trie.kidsLd f K at_ (16 - i) m c).2)) :
    Trie.kidsLd f K at_ 16 m0 c0 = (ts ++ [(f (K.getD i []) (at_ i) m c).1] ++ (Trie.kidsLd f K at_ (16 - (i + 1)) (f (K.getD i []) (at_ i) m c).2.1 (f (K.getD i []) (at_ i) m c).2.2).1, (Trie.kidsLd f K at_ (16 - (i + 1)) (f (K.getD i []) (at_ i) m c).2.1 (f (K.getD i []) (at_ i) m c).2.2).2) := by
  rw [h, show 16 - i = (15 - i) + 1 by omega, show 16 - (i + 1) = 15 - i by omega]
  simp only [Trie.kidsLd]
  rw [show 15 - (15 - i) = i by omega, if_neg hs]
  simp
def LoadEnd (W : World) (lb g : Nat) (r : Trie.Ld) (e : Ending) (w' : World) : Prop := ∃ x, e = .returned x ∧ KnotP w' r.1 x ∧ LdrP w' lb g r.2.1 r.2.2 ∧ W.grownBy w' (some lb) ∧ (r.2.2 = 0 → r.2.1 ≤ 1024)
set_option maxRecDepth 100000 in
set_option maxHeartbeats 2000000 in
theorem load_loop (w00 w w1 : World) (lb g nb kb : Nat) (kd : Nat) (p v : List UInt8) (K : List (List UInt8)) (hK : K.length = 16) (hp : p.length ≤ 100000) (pl : List UInt8) (hpl : pl.length ≤ 100000) (F : List UInt8 → List UInt8 → Nat → Nat → Trie.Ld)
    (IH : ∀ W i m c, i < 16 → K.getD i [] ≠ [] → LdrP W lb g m c → Below w00.heap.size w00 W → (c = 0 → m ≤ 1024) → Calls Tryd.prog 67 #[.pointer (some ⟨lb, 0, none⟩), .string ⟨(K.getD i []).toArray⟩, .string ⟨(Trie.kidAt (kd, p, v, K) pl i).toArray⟩, .bool (decide (kd = 2))] W (LoadEnd W lb g (F (K.getD i []) (Trie.kidAt (kd, p, v, K) pl i) m c)))
    (m0 : Nat) (hm0 : m0 ≤ 1024) (H0 : Ld1 w00 w w1 lb g nb kb (kd, p, v, K) [] (List.replicate 16 (.pointer none)) m0 0)
    (Q : Exit → Act → World → Prop)
    (hQ : ∀ (s1 s2 s3 s4 s5 s6 s7 s8 s10 s11 s12 s14 s15 s16 s17 s18 s19 s20 s21 s22 s23 s24 s25 s26 s27 s28 s29 s30 s31 s32 s33 s34 s35 s36 s37 s38 s39 s40 s41 s42 s43 s44 s45 s46 s47 s48 s49 s50 s51 s52 s53 s54 s55 s56 s57 s58 s59 s60 s61 s62 s63 s64 s65 s66 s67 s68 s69 s70 s71 s72 s73 s74 s75 s76 s77 s78 s79 s80 s81 s82 s83 s84 s85 s86 s87 s88 s89 s90 s91 s92 s93 s94 s95 s96 s97 s98 s99 s100 s101 s102 s103 s104 s105 s106 s107 s108 s109 s110 s111 s112 s113 s114 s115 s116 s117 : Value) (w2 : World) ts ps m c, Trie.kidsLd F K (Trie.kidAt (kd, p, v, K) pl) 16 m0 0 = (ts, m, c) → Ld1 w00 w w2 lb g nb kb (kd, p, v, K) ts ps m c → (c = 0 → m ≤ 1024) → Q (.exit 0) { tmps := #[.pointer (some ⟨lb, 0, none⟩), s1, s2, s3, s4, s5, s6, s7, s8, .pointer (some ⟨nb, 0, none⟩), s10, s11, s12, .pointer (some ⟨kb, 0, none⟩), s14, s15, s16, s17, s18, s19, s20, s21, s22, s23, s24, s25, s26, s27, s28, s29, s30, s31, s32, s33, s34, s35, s36, s37, s38, s39, s40, s41, s42, s43, s44, s45, s46, s47, s48, s49, s50, s51, s52, s53, s54, s55, s56, s57, s58, s59, s60, s61, s62, s63, s64, s65, s66, s67, s68, s69, s70, s71, s72, s73, s74, s75, s76, s77, s78, s79, s80, s81, s82, s83, s84, s85, s86, s87, s88, s89, s90, s91, s92, s93, s94, s95, s96, s97, s98, s99, s100, s101, s102, s103, s104, s105, s106, s107, s108, s109, s110, s111, s112, s113, s114, s115, s116, s117], defers := [] } w2)
    (s1 s3 s4 s5 s6 s7 s8 s10 s11 s12 s14 s15 s16 s17 s18 s19 s20 s21 s22 s23 s24 s25 s26 s27 s28 s29 s30 s31 s32 s33 s34 s35 s36 s37 s38 s39 s40 s41 s42 s43 s44 s45 s46 s47 s48 s49 s50 s51 s52 s53 s54 s55 s56 s57 s58 s59 s60 s61 s62 s63 s64 s65 s66 s67 s68 s69 s70 s71 s72 s73 s74 s75 s76 s77 s78 s79 s82 s83 s84 s85 s86 s87 s88 s89 s90 s91 s92 s93 s94 s95 s96 s97 s98 s99 s100 s101 s102 s103 s104 s105 s106 s107 s108 s109 s110 s111 s112 s113 s114 s115 s116 s117 : Value) :
    Code.wp Tryd.prog (.loop (loopAt Tryd.f67 0)) Q { tmps := #[.pointer (some ⟨lb, 0, none⟩), s1, .string ⟨pl.toArray⟩, s3, s4, s5, s6, s7, s8, .pointer (some ⟨nb, 0, none⟩), s10, s11, s12, .pointer (some ⟨kb, 0, none⟩), s14, s15, s16, s17, s18, s19, s20, s21, s22, s23, s24, s25, s26, s27, s28, s29, s30, s31, s32, s33, s34, s35, s36, s37, s38, s39, s40, s41, s42, s43, s44, s45, s46, s47, s48, s49, s50, s51, s52, s53, s54, s55, s56, s57, s58, s59, s60, s61, s62, s63, s64, s65, s66, s67, s68, s69, s70, s71, s72, s73, s74, s75, s76, s77, s78, s79, .agg (strv K).toArray, .int .i64 0, s82, s83, s84, s85, s86, s87, s88, s89, s90, s91, s92, s93, s94, s95, s96, s97, s98, s99, s100, s101, s102, s103, s104, s105, s106, s107, s108, s109, s110, s111, s112, s113, s114, s115, s116, s117], defers := [] } w1 := by
  have HQ := Lib.hid hQ
  have HIH := Lib.hid IH
  have HS := Lib.hid H0
  clear hQ IH H0
  refine wp_loop_ghost_k (fun k a wr => ∀ Φ : Act → Prop, (∀ (s1 s3 s4 s5 s6 s7 s8 s10 s11 s12 s14 s15 s16 s17 s18 s19 s20 s21 s22 s23 s24 s25 s26 s27 s28 s29 s30 s31 s32 s33 s34 s35 s36 s37 s38 s39 s40 s41 s42 s43 s44 s45 s46 s47 s48 s49 s50 s51 s52 s53 s54 s55 s56 s57 s58 s59 s60 s61 s62 s63 s64 s65 s66 s67 s68 s69 s70 s71 s72 s73 s74 s75 s76 s77 s78 s79 s82 s83 s84 s85 s86 s87 s88 s89 s90 s91 s92 s93 s94 s95 s96 s97 s98 s99 s100 s101 s102 s103 s104 s105 s106 s107 s108 s109 s110 s111 s112 s113 s114 s115 s116 s117 : Value) (i m c : Nat) (ts : List Trie.T) (ps : List Value), (i + k = 16 ∧ ts.length = i ∧ (c = 0 → m ≤ 1024) ∧ Ld1 w00 w wr lb g nb kb (kd, p, v, K) ts ps m c ∧ Trie.kidsLd F K (Trie.kidAt (kd, p, v, K) pl) 16 m0 0 = (ts ++ (Trie.kidsLd F K (Trie.kidAt (kd, p, v, K) pl) (16 - i) m c).1, (Trie.kidsLd F K (Trie.kidAt (kd, p, v, K) pl) (16 - i) m c).2)) → Φ { tmps := #[.pointer (some ⟨lb, 0, none⟩), s1, .string ⟨pl.toArray⟩, s3, s4, s5, s6, s7, s8, .pointer (some ⟨nb, 0, none⟩), s10, s11, s12, .pointer (some ⟨kb, 0, none⟩), s14, s15, s16, s17, s18, s19, s20, s21, s22, s23, s24, s25, s26, s27, s28, s29, s30, s31, s32, s33, s34, s35, s36, s37, s38, s39, s40, s41, s42, s43, s44, s45, s46, s47, s48, s49, s50, s51, s52, s53, s54, s55, s56, s57, s58, s59, s60, s61, s62, s63, s64, s65, s66, s67, s68, s69, s70, s71, s72, s73, s74, s75, s76, s77, s78, s79, .agg (strv K).toArray, .int .i64 (i : Int), s82, s83, s84, s85, s86, s87, s88, s89, s90, s91, s92, s93, s94, s95, s96, s97, s98, s99, s100, s101, s102, s103, s104, s105, s106, s107, s108, s109, s110, s111, s112, s113, s114, s115, s116, s117], defers := [] }) → Φ a) (16) ?_ ?_
  · refine fun Φ hΦ => hΦ _ _ _ _ _ _ _ _ _ _ _ _ _ _ _ _ _ _ _ _ _ _ _ _ _ _ _ _ _ _ _ _ _ _ _ _ _ _ _ _ _ _ _ _ _ _ _ _ _ _ _ _ _ _ _ _ _ _ _ _ _ _ _ _ _ _ _ _ _ _ _ _ _ _ _ _ _ _ _ _ _ _ _ _ _ _ _ _ _ _ _ _ _ _ _ _ _ _ _ _ _ _ _ _ _ _ _ _ _ _ _ _ (0) (m0) (0) ([]) ((List.replicate 16 (.pointer none))) ?_
    exact ⟨rfl, rfl, fun _ => hm0, HS.out, by simp⟩
  · intro k1 a1 wr1 hI1 J1 K1 hJ1 hK1
    refine hI1 (fun a => Code.wp _ _ _ a _) ?_
    clear hI1 a1
    intro s0 s1 s2 s3 s4 s5 s6 s7 s8 s9 s10 s11 s12 s13 s14 s15 s16 s17 s18 s19 s20 s21 s22 s23 s24 s25 s26 s27 s28 s29 s30 s31 s32 s33 s34 s35 s36 s37 s38 s39 s40 s41 s42 s43 s44 s45 s46 s47 s48 s49 s50 s51 s52 s53 s54 s55 s56 s57 s58 s59 s60 s61 s62 s63 s64 s65 s66 s67 s68 s69 s70 s71 s72 s73 s74 s75 s76 s77 s78 s79 s80 s81 s82 s83 s84 s85 s86 s87 s88 s89 s90 s91 s92 s93 s94 s95 s96 s97 s98 s99 s100 s101 s102 s103 s104 s105 s106 s107 s108 s109 s110 s111 i m c ts ps hrel
    show Code.wp _ _ _ _ _
    clear HS
    conv => arg 2; whnf
    obtain ⟨h1, h2, h3, h4, h5⟩ := hrel
    by_cases hi : i < 16
    · have hi1 : (i : Int) < 16 := by omega
      have hix : (0 : Int) ≤ i := by omega
      have HX := fun w => run_index_k K hK i hi w
      by_cases hs : K.getD i [] = []
      · have h6 := kidsLd_skip F K _ ts i m c m0 0 hi hs h5
        rw [hs] at HX
        have HI := Lib.hid (And.intro h1 (And.intro h2 (And.intro h3 (And.intro h4 h6))))
        clear h1 h2 h3 h4 h5 h6 hs
        go_wp2
        refine Handed.intro (16 - (i + 1)) ?_ (hJ1 _ _ _ (fun Φ hΦ => hΦ _ _ _ _ _ _ _ _ _ _ _ _ _ _ _ _ _ _ _ _ _ _ _ _ _ _ _ _ _ _ _ _ _ _ _ _ _ _ _ _ _ _ _ _ _ _ _ _ _ _ _ _ _ _ _ _ _ _ _ _ _ _ _ _ _ _ _ _ _ _ _ _ _ _ _ _ _ _ _ _ _ _ _ _ _ _ _ _ _ _ _ _ _ _ _ _ _ _ _ _ _ _ _ _ _ _ _ _ _ _ _ _ (i + 1) (m) (c) (ts ++ [.nil]) (ps) ?_))
        · have := HI.out.1; omega
        · refine ⟨by have := HI.out.1; omega, by rw [List.length_append, HI.out.2.1]; rfl, HI.out.2.2.1, ?_, HI.out.2.2.2.2⟩
          have h := HI.out.2.2.2.1
          refine { h.toLd0 with kd := h.kd, k0 := h.k0, k00 := h.k00, pl := h.pl, kn := fun j hj => ?_ }
          rw [getD_snoc]
          split
          · rename_i e
            have := h.kn j hj
            rwa [List.getD_eq_getElem?_getD, List.getElem?_eq_none (by omega)] at this
          · exact h.kn j hj
      · have h6 := kidsLd_step F K _ ts i m c m0 0 hi hs h5
        have cv := conv1 wr1 (i : Int) hix (by omega)
        rw [show UInt8.ofNat ((i : Int)).toNat = UInt8.ofNat i by congr 1] at cv
        have hsum : pl.length + 1 ≤ 9223372036854775807 := by omega
        have hsum2 : pl.length + p.length ≤ 9223372036854775807 := by omega
        have L3 : Hid (Ld1 w00 w (wr1.alloc (.cells #[.int .u8 (i : Int)] 5)) lb g nb kb (kd, p, v, K) ts ps m c) := Lib.hid (h4.below ((Below.refl _ _).alloc (Nat.le_refl _) _))
        have HC := Lib.hid (HIH.out (wr1.alloc (.cells #[.int .u8 (i : Int)] 5)) i m c hi hs L3.out.ld L3.out.b0 h3)
        have hkA : Trie.kidAt (kd, p, v, K) pl i = if kd = 2 then pl ++ p else pl ++ [UInt8.ofNat i] := rfl
        have HI := Lib.hid (And.intro h1 (And.intro h2 h6))
        have n0 : (wr1.alloc (.cells #[.int .u8 (i : Int)] 5)).cell? ⟨nb, 0, none⟩ = some (.int .i64 (kd : Int)) := L3.out.nd.cell 0
        have n1 : (wr1.alloc (.cells #[.int .u8 (i : Int)] 5)).cell? ⟨nb, 1, none⟩ = some (.string ⟨p.toArray⟩) := L3.out.nd.cell 1
        clear h1 h2 h3 h4 h5 h6
        generalize Trie.kidAt (kd, p, v, K) pl i = at_ at *
        generalize hsi : K.getD i [] = s at *
        clear hsi
        have ne1 : (s.toArray = #[]) = False := by simp [hs]
        have ne2 : s.isEmpty = false := by simp [hs]
        have CE : Hid (∀ e w', LoadEnd (wr1.alloc (.cells #[.int .u8 (i : Int)] 5)) lb g (F s at_ m c) e w' → ∃ x, e = .returned x ∧ KnotP w' (F s at_ m c).1 x ∧ Ld1 w00 w w' lb g nb kb (kd, p, v, K) ts ps (F s at_ m c).2.1 (F s at_ m c).2.2 ∧ ((F s at_ m c).2.2 = 0 → (F s at_ m c).2.1 ≤ 1024)) := Lib.hid (fun e w' ⟨x, e1, e2, e3, e4, e5⟩ => ⟨x, e1, e2, L3.out.call e4 e3, e5⟩)
        generalize F s at_ m c = r at *
        clear hs
        by_cases hk2 : kd = 2
        · subst hk2
          rw [if_pos rfl] at hkA
          subst hkA
          go_wp2_with fail
          refine HC.out.mono ?_
          intro e w4 hw4
          obtain ⟨xk, rfl, hk4, h4, hm4⟩ := CE.out e w4 hw4
          obtain ⟨xq, rfl⟩ : ∃ xq, xk = .pointer xq := by
            rcases hk4.form with ⟨_, h⟩ | ⟨b2, _, _, h, _⟩
            · exact ⟨_, h⟩
            · exact ⟨_, h⟩
          have L4 := Lib.hid (And.intro hk4 (And.intro h4 hm4))
          have kc : w4.cell? ⟨kb, i, none⟩ = some (ps.getD i undef) := by
            have := h4.kd.cell i
            rw [this, List.getElem?_toArray, List.getElem?_eq_getElem (by rw [h4.pl]; exact hi), List.getD_eq_getElem?_getD, List.getElem?_eq_getElem (by rw [h4.pl]; exact hi)]
            rfl
          have kf : w4.frozen? ⟨kb, i, none⟩ = false := h4.kd.frozen i
          clear hw4 hk4 h4 hm4 n0 n1
          go_wp2_with fail
          refine Handed.intro (16 - (i + 1)) ?_ (hJ1 _ _ _ (fun Φ hΦ => hΦ _ _ _ _ _ _ _ _ _ _ _ _ _ _ _ _ _ _ _ _ _ _ _ _ _ _ _ _ _ _ _ _ _ _ _ _ _ _ _ _ _ _ _ _ _ _ _ _ _ _ _ _ _ _ _ _ _ _ _ _ _ _ _ _ _ _ _ _ _ _ _ _ _ _ _ _ _ _ _ _ _ _ _ _ _ _ _ _ _ _ _ _ _ _ _ _ _ _ _ _ _ _ _ _ _ _ _ _ _ _ _ _ (i + 1) (r.2.1) (r.2.2) (ts ++ [r.1]) (ps.set i (.pointer xq)) ?_))
          · have := HI.out.1; omega
          · refine ⟨by have := HI.out.1; omega, by rw [List.length_append, HI.out.2.1]; rfl, L4.out.2.2, ?_, HI.out.2.2⟩
            have := L4.out.2.1.put r.1 (.pointer xq) L4.out.1 (by rw [HI.out.2.1]; exact hi)
            rwa [HI.out.2.1] at this
        · have hkI : ((kd : Int) == 2) = false := by simp; omega
          rw [if_neg hk2] at hkA
          subst hkA
          rw [decide_eq_false hk2] at HC
          clear hk2
          go_wp2_with fail
          refine HC.out.mono ?_
          intro e w4 hw4
          obtain ⟨xk, rfl, hk4, h4, hm4⟩ := CE.out e w4 hw4
          obtain ⟨xq, rfl⟩ : ∃ xq, xk = .pointer xq := by
            rcases hk4.form with ⟨_, h⟩ | ⟨b2, _, _, h, _⟩
            · exact ⟨_, h⟩
            · exact ⟨_, h⟩
          have L4 := Lib.hid (And.intro hk4 (And.intro h4 hm4))
          have kc : w4.cell? ⟨kb, i, none⟩ = some (ps.getD i undef) := by
            have := h4.kd.cell i
            rw [this, List.getElem?_toArray, List.getElem?_eq_getElem (by rw [h4.pl]; exact hi), List.getD_eq_getElem?_getD, List.getElem?_eq_getElem (by rw [h4.pl]; exact hi)]
            rfl
          have kf : w4.frozen? ⟨kb, i, none⟩ = false := h4.kd.frozen i
          clear hw4 hk4 h4 hm4 n0 n1
          go_wp2_with fail
          refine Handed.intro (16 - (i + 1)) ?_ (hJ1 _ _ _ (fun Φ hΦ => hΦ _ _ _ _ _ _ _ _ _ _ _ _ _ _ _ _ _ _ _ _ _ _ _ _ _ _ _ _ _ _ _ _ _ _ _ _ _ _ _ _ _ _ _ _ _ _ _ _ _ _ _ _ _ _ _ _ _ _ _ _ _ _ _ _ _ _ _ _ _ _ _ _ _ _ _ _ _ _ _ _ _ _ _ _ _ _ _ _ _ _ _ _ _ _ _ _ _ _ _ _ _ _ _ _ _ _ _ _ _ _ _ _ (i + 1) (r.2.1) (r.2.2) (ts ++ [r.1]) (ps.set i (.pointer xq)) ?_))
          · have := HI.out.1; omega
          · refine ⟨by have := HI.out.1; omega, by rw [List.length_append, HI.out.2.1]; rfl, L4.out.2.2, ?_, HI.out.2.2⟩
            have := L4.out.2.1.put r.1 (.pointer xq) L4.out.1 (by rw [HI.out.2.1]; exact hi)
            rwa [HI.out.2.1] at this
    · obtain rfl : i = 16 := by omega
      have e : Trie.kidsLd F K (Trie.kidAt (kd, p, v, K) pl) 16 m0 0 = (ts, m, c) := by rw [h5]; simp [Trie.kidsLd]
      have HE := Lib.hid (And.intro e (And.intro h4 h3))
      clear h1 h2 h3 h4 h5 e hi
      go_wp2
      exact HQ.out _ _ _ _ _ _ _ _ _ _ _ _ _ _ _ _ _ _ _ _ _ _ _ _ _ _ _ _ _ _ _ _ _ _ _ _ _ _ _ _ _ _ _ _ _ _ _ _ _ _ _ _ _ _ _ _ _ _ _ _ _ _ _ _ _ _ _ _ _ _ _ _ _ _ _ _ _ _ _ _ _ _ _ _ _ _ _ _ _ _ _ _ _ _ _ _ _ _ _ _ _ _ _ _ _ _ _ _ _ _ _ _ _ _ _ _ _ _ _ _ HE.out.1 HE.out.2.1 HE.out.2.2
end Go.Proofs.YtefcmigbdfeaiaaDoor

namespace Go.Proofs.YtefcmigbdfeaiaaDoor
set_option linter.unusedVariables false
open Go.RowKit Go.Instr Go.ChangeMaps
attribute [local go_sem] ba_get ByteArray.mk_append_mk
attribute [local go_sem ↓] Go.wp_at_zero Go.wp_at_succ
theorem nodeOf_K (D : List Trie.KV) (k : List UInt8) : (nodeOf D k).1.2.2.2.length = 16 := by
  unfold nodeOf
  split
  · rfl
  · exact decN_K _
theorem nodeOf_short (D : List Trie.KV) (k : List UInt8) : ∀ s ∈ (nodeOf D k).1.2.2.2, s.length ≤ 9223372036854775807 := by
  unfold nodeOf
  split
  · intro s hs
    rw [List.eq_of_mem_replicate (show s ∈ List.replicate 16 [] from hs)]
    simp
  · rename_i s _
    rcases decN_cases s with h | ⟨n, h, _⟩
    · rw [h]
      intro s hs
      rw [List.eq_of_mem_replicate (show s ∈ List.replicate 16 [] from hs)]
      simp
    · have h2 := readN_short 16 (by omega) s
      unfold decN at h ⊢
      split
      · rename_i hc; rw [if_pos hc] at h; cases h
      · intro x hx
        have := h2.2.2.2 x hx
        omega
theorem loadW_eq (D : List Trie.KV) (f : Nat) (sum pl : List UInt8) (below : Bool) (m : Nat) : Trie.loadW D (f + 1) sum pl below m 0 = if (nodeOf D sum).2 ≠ 0 then (.nil, m, (nodeOf D sum).2)
    else if Trie.oddLd (nodeOf D sum).1 pl below = true then (.nil, m, 4)
    else if (Trie.manyLd (nodeOf D sum).1 pl m).2 ≠ 0 then (.nil, (Trie.manyLd (nodeOf D sum).1 pl m).1, (Trie.manyLd (nodeOf D sum).1 pl m).2)
    else Trie.endLd (nodeOf D sum).1 (Trie.kidsLd (fun s p m c => Trie.loadW D f s p (decide ((nodeOf D sum).1.1 = 2)) m c) (nodeOf D sum).1.2.2.2 (Trie.kidAt (nodeOf D sum).1 pl) 16 (Trie.manyLd (nodeOf D sum).1 pl m).1 0) := by
  conv => lhs; unfold Trie.loadW
  rw [if_neg (by simp)]
set_option maxRecDepth 100000 in
set_option maxHeartbeats 4000000 in
theorem ldr_load (w00 : World) (lb g b : Nat) (D : List Trie.KV) (hSt : StoreP w00 g b D) (hD : ∀ x ∈ D, x.2.length ≤ 900000) (hTr : ∀ k s, lookB D k = some s → shaW (1 :: s) = k) (hT : Tbl w00) (hlb : w00.heap.size ≤ lb) :
    ∀ (f : Nat) (sum pl : List UInt8) (below : Bool) (m c : Nat) (W : World), 17 ≤ f + pl.length → pl.length ≤ 16 → LdrP W lb g m c → Below w00.heap.size w00 W → (c = 0 → m ≤ 1024) →
    Calls Tryd.prog 67 #[.pointer (some ⟨lb, 0, none⟩), .string ⟨sum.toArray⟩, .string ⟨pl.toArray⟩, .bool below] W (LoadEnd W lb g (Trie.loadW D f sum pl below m c)) := by
  intro f
  induction f with
  | zero => intro sum pl below m c W h1 h2; omega
  | succ f ih =>
  intro sum pl below m c W hf hpl hL hB hm
  have HIH := Lib.hid ih
  clear ih
  have HP : Hid (∀ x w' T (m' c' : Nat), Trie.loadW D (f + 1) sum pl below m c = (T, m', c') → KnotP w' T x → LdrP w' lb g m' c' → W.grownBy w' (some lb) → (c' = 0 → m' ≤ 1024) → LoadEnd W lb g (Trie.loadW D (f + 1) sum pl below m c) (.returned x) w') := Lib.hid (fun x w' T m' c' e h1 h2 h3 h4 => by rw [e]; exact ⟨x, rfl, h1, h2, h3, h4⟩)
  generalize LoadEnd W lb g (Trie.loadW D (f + 1) sum pl below m c) = P at HP ⊢
  have c2 : W.cell? ⟨lb, 2, none⟩ = some (.int .i64 (c : Int)) := Blk.cell hL 2
  have c0 : W.cell? ⟨lb, 0, none⟩ = some (.pointer (some ⟨g, 0, none⟩)) := Blk.cell hL 0
  have HL := Lib.hid hL
  have HB := Lib.hid hB
  by_cases hc : c = 0
  rotate_left
  · have hX : Hid (Trie.loadW D (f + 1) sum pl below m c = (.nil, m, c)) := Lib.hid (by unfold Trie.loadW; rw [if_pos hc])
    have hcI : ((c : Int) != 0) = true := by simp; exact hc
    clear hm hc hL hB hSt hD hTr hT
    go_enter Tryd.func67, Tryd.ntmps67
    go_wp2_with fail
    exact HP.out _ _ _ _ _ hX.out .nil HL.out ⟨rfl, rfl, rfl, Nat.le_refl _, fun _ _ _ => rfl⟩ (fun h => by simp [h] at hcI)
  subst hc
  have HX := Lib.hid (loadW_eq D f sum pl below m)
  have HNo := Lib.hid (store_Node W g b D (hSt.next hB) sum hD)
  have HOk := Lib.hid (fun h => Trie.nodeOf_ok (D := D) (sum := sum) hTr h)
  have hK := nodeOf_K D sum
  have HM := Lib.hid (hm rfl)
  have HKs := Lib.hid (nodeOf_short D sum)
  generalize Trie.loadW D (f + 1) sum pl below m 0 = X at *
  generalize nodeOf D sum = nd at *
  obtain ⟨⟨k, p, v, K⟩, ec⟩ := nd
  simp only at HX HOk hK HKs
  unfold DecNEnd at HNo
  simp only at HNo
  have HSz := Lib.hid (nodeV_size (k := k) (p := p) (v := v) hK)
  have SZ : (Tryd.prog.info? 91).map (·.size) = some (nodeV k p v K).toArray.size := by rw [List.size_toArray, HSz.out]; exact info_node
  have HON := nodeV_one k p v K
  clear hm hL hB
  go_enter Tryd.func67, Tryd.ntmps67
  go_wp2_with fail
  refine HNo.out.mono ?_
  rintro e w2 ⟨rfl, hb2⟩
  have F6 : Hid (Live W (w2.alloc (.cells #[.int .i64 0, .string ⟨#[]⟩, .string ⟨#[]⟩, .string ⟨#[]⟩, .string ⟨#[]⟩, .string ⟨#[]⟩, .string ⟨#[]⟩, .string ⟨#[]⟩, .string ⟨#[]⟩, .string ⟨#[]⟩, .string ⟨#[]⟩, .string ⟨#[]⟩, .string ⟨#[]⟩, .string ⟨#[]⟩, .string ⟨#[]⟩, .string ⟨#[]⟩, .string ⟨#[]⟩, .string ⟨#[]⟩, .string ⟨#[]⟩] 91)) [(w2.heap.size, 91, #[.int .i64 0, .string ⟨#[]⟩, .string ⟨#[]⟩, .string ⟨#[]⟩, .string ⟨#[]⟩, .string ⟨#[]⟩, .string ⟨#[]⟩, .string ⟨#[]⟩, .string ⟨#[]⟩, .string ⟨#[]⟩, .string ⟨#[]⟩, .string ⟨#[]⟩, .string ⟨#[]⟩, .string ⟨#[]⟩, .string ⟨#[]⟩, .string ⟨#[]⟩, .string ⟨#[]⟩, .string ⟨#[]⟩, .string ⟨#[]⟩])]) := Lib.hid (Live.one (hb2.alloc hb2.size _) hb2.size (Blk.new w2 91 #[.int .i64 0, .string ⟨#[]⟩, .string ⟨#[]⟩, .string ⟨#[]⟩, .string ⟨#[]⟩, .string ⟨#[]⟩, .string ⟨#[]⟩, .string ⟨#[]⟩, .string ⟨#[]⟩, .string ⟨#[]⟩, .string ⟨#[]⟩, .string ⟨#[]⟩, .string ⟨#[]⟩, .string ⟨#[]⟩, .string ⟨#[]⟩, .string ⟨#[]⟩, .string ⟨#[]⟩, .string ⟨#[]⟩, .string ⟨#[]⟩]))
  have TH : (w2.alloc (.cells #[.int .i64 0, .string ⟨#[]⟩, .string ⟨#[]⟩, .string ⟨#[]⟩, .string ⟨#[]⟩, .string ⟨#[]⟩, .string ⟨#[]⟩, .string ⟨#[]⟩, .string ⟨#[]⟩, .string ⟨#[]⟩, .string ⟨#[]⟩, .string ⟨#[]⟩, .string ⟨#[]⟩, .string ⟨#[]⟩, .string ⟨#[]⟩, .string ⟨#[]⟩, .string ⟨#[]⟩, .string ⟨#[]⟩, .string ⟨#[]⟩] 91)).there w2.heap.size 0 (nodeV k p v K).toArray.size := by
    rw [show (nodeV k p v K).toArray.size = 19 by rw [List.size_toArray]; exact HSz.out]
    exact F6.out.there 0 19 rfl (by decide)
  clear hb2 c0 c2
  go_upto_region 4 with ((with_reducible refine at_put 29 ?_); refine wpList_store_mid rfl 91 _ _ rfl w2.heap.size 0 (nodeV k p v K).toArray rfl rfl TH SZ HON ?_)
  have F7 := Live.hall F6 0 (nodeV k p v K).toArray.toList rfl HSz.out.symm
  generalize World.setCells _ w2.heap.size 0 _ = W7 at F7 ⊢
  obtain ⟨nb, hnb⟩ : ∃ nb, w2.heap.size = nb := ⟨_, rfl⟩
  rw [hnb] at F7 ⊢
  have S0 : Hid (Ld0 w00 W W7 lb g nb (k, p, v, K) m 0) := Lib.hid ⟨HL.out.below F7.out.b, HB.out.nxt F7.out.b, hlb, F7.out.blk 0 rfl, grown_of_below _ F7.out.b⟩
  have HNB : Hid (W.heap.size ≤ nb) := Lib.hid (F7.out.own 0 rfl)
  clear F6 F7 TH hnb HON SZ HSz HNo
  by_cases hec : ec = 0
  rotate_left
  · have HW := Lib.hid (ldr_wrong W7 lb g m S0.out.ld ec)
    have hX : Hid (X = (.nil, m, ec)) := Lib.hid (by rw [HX.out, if_pos hec])
    have hcI : ((ec : Int) != 0) = true := by simp; exact hec
    clear HX HOk
    go_wp2_with fail
    refine HW.out.mono ?_
    rintro e w8 ⟨rfl, h1, h2⟩
    have H1 := Lib.hid (And.intro h1 h2)
    clear h1 h2
    go_wp2_with fail
    exact HP.out _ _ _ _ _ hX.out .nil H1.out.1 (S0.out.gr.trans H1.out.2) (fun h => absurd h hec)
  subst hec
  obtain ⟨_, o2, o3, o4⟩ := HOk.out rfl
  obtain ⟨hkk, hfit, hp16, hv32, _⟩ := fineN_parts (show fineN k p v K = true from o2)
  rw [if_neg (by simp)] at HX
  have HO := Lib.hid (And.intro o2 (And.intro hK (And.intro hp16 hv32)))
  have n1 : W7.cell? ⟨nb, 1, none⟩ = some (.string ⟨p.toArray⟩) := S0.out.nd.cell 1
  have hsum : pl.length + p.length ≤ 9223372036854775807 := by omega
  have hw1 : wrap64 ((pl.length : Int) + p.length) = ((pl.length + p.length : Nat) : Int) := IntWalk.wrap64_in _ (by constructor <;> omega)
  clear HOk o2 o3 o4 hkk hfit hv32
  go_upto_region 7 with fail
  go_cut [11, 12] (fun s11 s12 wx => s11 = .int .i64 ((pl.length + p.length : Nat) : Int) ∧ s12 = .bool (decide (k = 3) && !decide (K = zeroK)) ∧ wx = W7)
  case first =>
    have n0 : W7.cell? ⟨nb, 0, none⟩ = some (.int .i64 (k : Int)) := S0.out.nd.cell 0
    clear HP HX HIH HNB hw1 hsum n1
    by_cases hk3 : k = 3
    · subst hk3
      have hKs : ∀ s ∈ K, s.length ≤ 9223372036854775807 := HKs.out
      have EQ := fun w => kids_eql K (List.replicate 16 []) hK rfl hKs (by simp) w
      rw [noKidsV_eq] at EQ
      unfold noKidsV at EQ
      have SZ2 : (Tryd.prog.info? 89).map (·.size) = some (strv K).length := by rw [strv_length, hK]; exact size_arr
      obtain ⟨_, _, _, RK, _⟩ := NodeAt.of (C := []) (by rw [List.append_nil]; exact S0.out.nd)
      have HZ : Hid (decide (K = List.replicate 16 []) = decide (K = zeroK)) := Lib.hid rfl
      generalize decide (K = List.replicate 16 []) = bz at *
      cases bz with
      | true =>
        go_wp2_with ((with_reducible refine at_op 47 ?_); refine wpList_load_want (by rfl) 89 _ rfl nb 3 rfl _ _ RK Tryd.underlying89 rfl SZ2 ?_)
        go_meet
        exact ⟨rfl, by rw [← HZ.out]; rfl, rfl⟩
      | false =>
        go_wp2_with ((with_reducible refine at_op 47 ?_); refine wpList_load_want (by rfl) 89 _ rfl nb 3 rfl _ _ RK Tryd.underlying89 rfl SZ2 ?_)
        go_meet
        exact ⟨rfl, by rw [← HZ.out]; rfl, rfl⟩
    · have hkI : ((k : Int) == 3) = false := by simp; omega
      go_wp2_with fail
      go_meet
      exact ⟨rfl, by rw [decide_eq_false hk3]; rfl, rfl⟩
  case rest =>
  obtain ⟨rfl, rfl, rfl⟩ := hcut
  generalize hbi : (decide (k = 3) && !decide (K = zeroK)) = bi at *
  generalize hLL : pl.length + p.length = LL at *
  have hod : Trie.oddLd (k, p, v, K) pl below = ((below && !decide (k = 3)) || decide (16 < LL) || (bi && decide (16 ≤ LL))) := by rw [← hbi, ← hLL]; rfl
  have HLL := Lib.hid (And.intro hLL (And.intro hbi (show LL ≤ 100000 by omega)))
  have HOd := Lib.hid hod
  clear hLL hbi hod hw1 hsum n1
  go_upto_region 8 with fail
  go_cut [67] (fun s67 wx => s67 = .bool (Trie.oddLd (k, p, v, K) pl below) ∧ wx = wc)
  case first =>
    have n0 : wc.cell? ⟨nb, 0, none⟩ = some (.int .i64 (k : Int)) := S0.out.nd.cell 0
    clear HP HX HIH HNB
    cases below with
    | false =>
      have HKK : True := trivial
      by_cases h16 : 16 < LL
      · have hI : (16 : Int) < LL := by omega
        have HE : Hid (Trie.oddLd (k, p, v, K) pl false = true) := Lib.hid (by rw [HOd.out]; simp [h16])
        clear HOd h16
        go_wp2_with fail
        go_meet
        exact ⟨by rw [HE.out], rfl⟩
      · have hI : ((16 : Int) < LL) = False := by simp; omega
        cases bi with
        | false =>
          have HE : Hid (Trie.oddLd (k, p, v, K) pl false = false) := Lib.hid (by rw [HOd.out]; simp [h16, HKK])
          clear HOd h16
          go_wp2_with fail
          go_meet
          exact ⟨by rw [HE.out], rfl⟩
        | true =>
          by_cases h15 : 16 ≤ LL
          · have hJ : (16 : Int) ≤ LL := by omega
            have HE : Hid (Trie.oddLd (k, p, v, K) pl false = true) := Lib.hid (by rw [HOd.out]; simp [h15])
            clear HOd h16 h15
            go_wp2_with fail
            go_meet
            exact ⟨by rw [HE.out], rfl⟩
          · have hJ : ((16 : Int) ≤ LL) = False := by simp; omega
            have HE : Hid (Trie.oddLd (k, p, v, K) pl false = false) := Lib.hid (by rw [HOd.out]; simp [h15, h16, HKK])
            clear HOd h16 h15
            go_wp2_with fail
            go_meet
            exact ⟨by rw [HE.out], rfl⟩
    | true =>
      by_cases hk3 : k = 3
      · have hkI : ((k : Int) != 3) = false := by simp; omega
        have HKK := hk3
        clear hk3
        by_cases h16 : 16 < LL
        · have hI : (16 : Int) < LL := by omega
          have HE : Hid (Trie.oddLd (k, p, v, K) pl true = true) := Lib.hid (by rw [HOd.out]; simp [h16])
          clear HOd h16
          go_wp2_with fail
          go_meet
          exact ⟨by rw [HE.out], rfl⟩
        · have hI : ((16 : Int) < LL) = False := by simp; omega
          cases bi with
          | false =>
            have HE : Hid (Trie.oddLd (k, p, v, K) pl true = false) := Lib.hid (by rw [HOd.out]; simp [h16, HKK])
            clear HOd h16
            go_wp2_with fail
            go_meet
            exact ⟨by rw [HE.out], rfl⟩
          | true =>
            by_cases h15 : 16 ≤ LL
            · have hJ : (16 : Int) ≤ LL := by omega
              have HE : Hid (Trie.oddLd (k, p, v, K) pl true = true) := Lib.hid (by rw [HOd.out]; simp [h15])
              clear HOd h16 h15
              go_wp2_with fail
              go_meet
              exact ⟨by rw [HE.out], rfl⟩
            · have hJ : ((16 : Int) ≤ LL) = False := by simp; omega
              have HE : Hid (Trie.oddLd (k, p, v, K) pl true = false) := Lib.hid (by rw [HOd.out]; simp [h15, h16, HKK])
              clear HOd h16 h15
              go_wp2_with fail
              go_meet
              exact ⟨by rw [HE.out], rfl⟩
      · have hkI : ((k : Int) != 3) = true := by simp; omega
        have HE : Hid (Trie.oddLd (k, p, v, K) pl true = true) := Lib.hid (by rw [HOd.out]; simp [hk3])
        clear HOd hk3
        go_wp2_with fail
        go_meet
        exact ⟨by rw [HE.out], rfl⟩
  case rest =>
  obtain ⟨rfl, rfl⟩ := hcut
  clear HOd
  cases hod : Trie.oddLd (k, p, v, K) pl below with
  | true =>
    have hX : Hid (X = (.nil, m, 4)) := Lib.hid (by rw [HX.out, if_pos hod])
    have HW := Lib.hid (ldr_wrong wc lb g m S0.out.ld 4)
    clear HX hod
    go_wp2_with fail
    refine HW.out.mono ?_
    rintro e w8 ⟨rfl, h1, h2⟩
    have H1 := Lib.hid (And.intro h1 h2)
    clear h1 h2
    go_wp2_with fail
    exact HP.out _ _ _ _ _ hX.out .nil H1.out.1 (S0.out.gr.trans H1.out.2) (fun h => by cases h)
  | false =>
  rw [if_neg (by simp [hod])] at HX
  have HOdd := Lib.hid hod
  clear hod
  go_upto_region 10 with fail
  go_cut [78] (fun s78 wx => s78 = .bool (!decide ((Trie.manyLd (k, p, v, K) pl m).2 = 0)) ∧ Ld0 w00 W wx lb g nb (k, p, v, K) (Trie.manyLd (k, p, v, K) pl m).1 (Trie.manyLd (k, p, v, K) pl m).2)
  case first =>
    have n2 : wc.cell? ⟨nb, 2, none⟩ = some (.string ⟨v.toArray⟩) := S0.out.nd.cell 2
    clear HP HX HIH HNB
    by_cases hv : v = []
    · subst hv
      have HMn : Hid (Trie.manyLd (k, p, [], K) pl m = (m, 0)) := Lib.hid rfl
      go_wp2_with fail
      go_meet
      exact ⟨by rw [HMn.out]; rfl, by rw [HMn.out]; exact S0.out⟩
    · have ne1 : (v.toArray = #[]) = False := by simp [hv]
      have ne2 : v.isEmpty = false := by simp [hv]
      have HMn : Hid (Trie.manyLd (k, p, v, K) pl m = Trie.itemLd LL m) := Lib.hid (by rw [← HLL.out.1]; simp [Trie.manyLd, hv])
      have HIt := Lib.hid (ldr_item wc lb g m LL S0.out.ld (by have := HM.out; omega) HLL.out.2.2)
      generalize Trie.itemLd LL m = it at *
      clear hv
      go_wp2_with fail
      refine HIt.out.mono ?_
      rintro e w8 ⟨rfl, h1, h2⟩
      have H1 := Lib.hid (And.intro h1 h2)
      clear h1 h2
      go_wp2_with fail
      go_meet
      exact ⟨by rw [HMn.out], by rw [HMn.out]; exact S0.out.call H1.out.2 H1.out.1⟩
  case rest =>
  obtain ⟨rfl, s1⟩ := hcut
  have S1 := Lib.hid s1
  clear S0 s1
  have HMk := Lib.hid (fun (h3 : (Trie.manyLd (k, p, v, K) pl m).2 = 0) (ts : List Trie.T) (m' : Nat) (h : Trie.kidsLd (fun s p m c => Trie.loadW D f s p (decide (k = 2)) m c) K (Trie.kidAt (k, p, v, K) pl) 16 (Trie.manyLd (k, p, v, K) pl m).1 0 = (ts, m', 0)) => Trie.kidsLd_mk hTr (n := (k, p, v, K)) HM.out hK HO.out.1 HOdd.out h3 h)
  have HMl := Lib.hid (fun (h3 : (Trie.manyLd (k, p, v, K) pl m).2 = 0) => Trie.manyLd_le (n := (k, p, v, K)) (pl := pl) HM.out h3)
  generalize Trie.manyLd (k, p, v, K) pl m = mn at *
  obtain ⟨m1, c1⟩ := mn
  simp only at HX HMk HMl S1
  by_cases hc1 : c1 = 0
  rotate_left
  · have hX : Hid (X = (.nil, m1, c1)) := Lib.hid (by rw [HX.out, if_pos hc1])
    have hd : decide (c1 = 0) = false := decide_eq_false hc1
    clear HX HMk HMl
    rw [hd]
    go_wp2_with fail
    exact HP.out _ _ _ _ _ hX.out .nil S1.out.ld S1.out.gr (fun h => absurd h hc1)
  subst hc1
  rw [if_neg (by simp)] at HX
  have HMk0 := Lib.hid (fun ts m' h => HMk.out rfl ts m' h)
  have HMl0 : Hid (m1 ≤ 1024) := Lib.hid (HMl.out rfl)
  clear HMk HMl
  have AL : Below wc.heap.size wc (wc.alloc (.cells #[.pointer none, .pointer none, .pointer none, .pointer none, .pointer none, .pointer none, .pointer none, .pointer none, .pointer none, .pointer none, .pointer none, .pointer none, .pointer none, .pointer none, .pointer none, .pointer none] 99)) := (Below.refl _ _).alloc (Nat.le_refl _) _
  have KN : ∀ (W' : World) j, j < 16 → KnotP W' (([] : List Trie.T).getD j .nil) ((List.replicate 16 (Value.pointer none)).getD j undef) := fun W' j hj => by
    rw [List.getD_eq_getElem?_getD (l := List.replicate 16 (Value.pointer none)), List.getElem?_replicate, if_pos hj]
    exact .nil
  have L1 : Hid (Ld1 w00 W (wc.alloc (.cells #[.pointer none, .pointer none, .pointer none, .pointer none, .pointer none, .pointer none, .pointer none, .pointer none, .pointer none, .pointer none, .pointer none, .pointer none, .pointer none, .pointer none, .pointer none, .pointer none] 99)) lb g nb wc.heap.size (k, p, v, K) [] (List.replicate 16 (.pointer none)) m1 0) := Lib.hid
    { S1.out.call (grown_of_below _ AL) (S1.out.ld.below AL) with kd := Blk.new _ _ _, k0 := S1.out.gr.size, k00 := S1.out.b0.size, pl := by simp, kn := KN _ }
  obtain ⟨_, _, _, RK, _⟩ := NodeAt.of (C := []) (by rw [List.append_nil]; exact L1.out.nd)
  have SZ2 : (Tryd.prog.info? 89).map (·.size) = some (strv K).length := by rw [strv_length, hK]; exact size_arr
  have IHK : ∀ W' i m' c', i < 16 → K.getD i [] ≠ [] → LdrP W' lb g m' c' → Below w00.heap.size w00 W' → (c' = 0 → m' ≤ 1024) → Calls Tryd.prog 67 #[.pointer (some ⟨lb, 0, none⟩), .string ⟨(K.getD i []).toArray⟩, .string ⟨(Trie.kidAt (k, p, v, K) pl i).toArray⟩, .bool (decide (k = 2))] W' (LoadEnd W' lb g ((fun s p m c => Trie.loadW D f s p (decide (k = 2)) m c) (K.getD i []) (Trie.kidAt (k, p, v, K) pl i) m' c')) := fun W' i m' c' hi hne hl hb hm' => by
    have := Trie.kidAt_len (n := (k, p, v, K)) HO.out.1 HOdd.out hne
    exact HIH.out _ _ _ m' c' W' (by omega) this.2 hl hb hm'
  have HLoop := Lib.hid (load_loop w00 W (wc.alloc (.cells #[.pointer none, .pointer none, .pointer none, .pointer none, .pointer none, .pointer none, .pointer none, .pointer none, .pointer none, .pointer none, .pointer none, .pointer none, .pointer none, .pointer none, .pointer none, .pointer none] 99)) lb g nb wc.heap.size k p v K hK (by omega) pl (by omega) (fun s p m c => Trie.loadW D f s p (decide (k = 2)) m c) IHK m1 HMl0.out L1.out)
  have HTb := Lib.hid hT
  clear IHK AL HIH
  go_wp2_with ((with_reducible refine at_load 80 ?_); refine wpList_load_mid rfl 89 _ rfl nb 3 rfl _ _ RK Tryd.underlying89 rfl SZ2 ?_)
  refine HLoop.out _ ?_ _ _ _ _ _ _ _ _ _ _ _ _ _ _ _ _ _ _ _ _ _ _ _ _ _ _ _ _ _ _ _ _ _ _ _ _ _ _ _ _ _ _ _ _ _ _ _ _ _ _ _ _ _ _ _ _ _ _ _ _ _ _ _ _ _ _ _ _ _ _ _ _ _ _ _ _ _ _ _ _ _ _ _ _ _ _ _ _ _ _ _ _ _ _ _ _ _ _ _ _ _ _ _ _ _ _ _ _ _ _ _ _
  clear RK SZ2
  intro s1 s2 s3 s4 s5 s6 s7 s8 s10 s11 s12 s14 s15 s16 s17 s18 s19 s20 s21 s22 s23 s24 s25 s26 s27 s28 s29 s30 s31 s32 s33 s34 s35 s36 s37 s38 s39 s40 s41 s42 s43 s44 s45 s46 s47 s48 s49 s50 s51 s52 s53 s54 s55 s56 s57 s58 s59 s60 s61 s62 s63 s64 s65 s66 s67 s68 s69 s70 s71 s72 s73 s74 s75 s76 s77 s78 s79 s80 s81 s82 s83 s84 s85 s86 s87 s88 s89 s90 s91 s92 s93 s94 s95 s96 s97 s98 s99 s100 s101 s102 s103 s104 s105 s106 s107 s108 s109 s110 s111 s112 s113 s114 s115 s116 s117 w9 ts ps m9 c9 hkl hl1 hm9
  rw [hkl] at HX
  have HL9 := Lib.hid hl1
  have HM9 := Lib.hid hm9
  have d2 : w9.cell? ⟨lb, 2, none⟩ = some (.int .i64 (c9 : Int)) := Blk.cell hl1.ld 2
  generalize wc.heap.size = kb at *
  clear hl1 hm9 HLoop L1 S1
  by_cases hc9 : c9 = 0
  rotate_left
  · have hX : Hid (X = (.nil, m9, c9)) := Lib.hid (by rw [HX.out]; unfold Trie.endLd; rw [if_neg hc9])
    have hcI : ((c9 : Int) != 0) = true := by simp; exact hc9
    clear HX HMk0 hkl
    go_wp2_with fail
    exact HP.out _ _ _ _ _ hX.out .nil HL9.out.ld HL9.out.gr (fun h => absurd h hc9)
  subst hc9
  obtain ⟨t1, t2, t3, t4, t5, t6, t7⟩ := HMk0.out ts m9 hkl
  have hX : Hid (X = (Trie.mkT (k, p, v, K) ts, m9, 0)) := Lib.hid (by rw [HX.out]; unfold Trie.endLd; rw [if_pos rfl])
  have HTi := Lib.hid (trie_tied (Trie.mkT (k, p, v, K) ts) t1.nn t1.wf t1.small (by omega) K hK t6 ps HL9.out.pl w9 (HTb.out.next HL9.out.b0) (fun i => by rw [t5]; exact HL9.out.kn i.val i.isLt))
  rw [t2, t3, t4] at HTi
  have RN := Blk.range0 HL9.out.nd
  have RP := Blk.range0 HL9.out.kd
  have SZN : (Tryd.prog.info? 91).map (·.size) = some (nodeV k p v K).length := by rw [nodeV_size hK]; exact info_node
  have SZP : (Tryd.prog.info? 99).map (·.size) = some ps.length := by rw [HL9.out.pl]; exact info_ptrs
  clear HX HMk0 hkl t1 t2 t3 t4 t5 t6 t7
  generalize Trie.mkT (k, p, v, K) ts = T at *
  generalize nodeV k p v K = NV at *
  go_wp2_with (first | ((with_reducible refine at_load 115 ?_); refine wpList_load_mid rfl 91 _ rfl nb 0 rfl _ _ RN Tryd.underlying91 rfl SZN ?_) | ((with_reducible refine at_load 116 ?_); refine wpList_load_mid rfl 99 _ rfl kb 0 rfl _ _ RP Tryd.underlying99 rfl SZP ?_))
  refine HTi.out.mono ?_
  rintro e w10 ⟨x, rfl, hk10, hb10⟩
  have H10 := Lib.hid (And.intro hk10 hb10)
  clear hk10 hb10 RN RP
  go_wp2_with fail
  exact HP.out _ _ _ _ _ hX.out H10.out.1 (HL9.out.ld.below H10.out.2) (HL9.out.gr.trans (grown_of_below _ H10.out.2)) (fun _ => HM9.out (by trivial))
end Go.Proofs.YtefcmigbdfeaiaaDoor

namespace Go.Proofs.YtefcmigbdfeaiaaDoor
set_option linter.unusedVariables false
open Go.RowKit Go.Instr Go.ChangeMaps
attribute [local go_sem] ba_get ByteArray.mk_append_mk
attribute [local go_sem ↓] Go.wp_at_zero Go.wp_at_succ
def loadR (D : List Trie.KV) (root : List UInt8) : Trie.T × Nat := if root = [] then (.nil, 0) else ((Trie.loadW D 17 root [] false 0 0).1, (Trie.loadW D 17 root [] false 0 0).2.2)
def LoadREnd (w : World) (r : Trie.T × Nat) (e : Ending) (w' : World) : Prop := ∃ v, e = .returned (.tuple #[v, .int .i64 (r.2 : Int)]) ∧ Below w.heap.size w w' ∧ (r.2 = 0 → TrieP w' r.1 v ∧ Trie.count r.1 ≤ 1024)
set_option maxRecDepth 100000 in
set_option maxHeartbeats 1000000 in
theorem trie_Load (w : World) (g b : Nat) (D : List Trie.KV) (HS : StoreP w g b D) (hD : ∀ x ∈ D, x.2.length ≤ 900000) (hTr : ∀ k s, lookB D k = some s → shaW (1 :: s) = k) (hT : Tbl w) (root : List UInt8) :
    Calls Tryd.prog 32 #[.pointer (some ⟨g, 0, none⟩), .string ⟨root.toArray⟩] w (LoadREnd w (loadR D root)) := by
  have HP : Hid (∀ v w' T (c : Nat), loadR D root = (T, c) → Below w.heap.size w w' → (c = 0 → TrieP w' T v ∧ Trie.count T ≤ 1024) → LoadREnd w (loadR D root) (.returned (.tuple #[v, .int .i64 (c : Int)])) w') := Lib.hid (fun v w' T c e h1 h2 => by rw [e]; exact ⟨v, rfl, h1, h2⟩)
  generalize LoadREnd w (loadR D root) = P at HP ⊢
  by_cases hr : root = []
  · subst hr
    have hX : Hid (loadR D [] = (.nil, 0)) := Lib.hid rfl
    clear HS hD hTr hT
    go_enter Tryd.func32, Tryd.ntmps32
    go_wp2_with fail
    refine (trie_New _).mono ?_
    rintro e w1 ⟨v0, rfl, hk0, hb0⟩
    have H0 := Lib.hid (And.intro hk0 hb0)
    clear hk0 hb0
    go_wp2_with fail
    exact HP.out _ _ _ 0 hX.out H0.out.2 (fun _ => ⟨H0.out.1, by simp [Trie.count]⟩)
  · have ne1 : (root.toArray = #[]) = False := by simp [hr]
    have ne2 : root.isEmpty = false := by simp [hr]
    have HX : Hid (loadR D root = ((Trie.loadW D 17 root [] false 0 0).1, (Trie.loadW D 17 root [] false 0 0).2.2)) := Lib.hid (by unfold loadR; rw [if_neg hr])
    have HOk := Lib.hid (fun h => Trie.loadW_ok hTr 17 root [] false 0 0 (by omega) h)
    have HLd := Lib.hid (ldr_load w w.heap.size g b D HS hD hTr hT (Nat.le_refl _) 17 root [] false 0 0 (w.alloc (.cells #[.pointer (some ⟨g, 0, none⟩), .int .i64 0, .int .i64 0] 112)) (by simp) (by simp) (Blk.new _ _ _) ((Below.refl _ _).alloc (Nat.le_refl _) _) (fun _ => by omega))
    generalize Trie.loadW D 17 root [] false 0 0 = r at *
    obtain ⟨T, m, c⟩ := r
    unfold LoadEnd at HLd
    simp only at HX HOk HLd
    clear HS hD hTr hT hr
    go_enter Tryd.func32, Tryd.ntmps32
    go_wp2_with fail
    refine HLd.out.mono ?_
    rintro e w1 ⟨x, rfl, hk, hl, hg, hm⟩
    obtain ⟨xq, rfl⟩ : ∃ xq, x = .pointer xq := by
      rcases hk.form with ⟨_, h⟩ | ⟨b2, _, _, h, _⟩
      · exact ⟨_, h⟩
      · exact ⟨_, h⟩
    have d2 : w1.cell? ⟨w.heap.size, 2, none⟩ = some (.int .i64 (c : Int)) := Blk.cell hl 2
    have HB : Hid (Below w.heap.size w w1) := Lib.hid (((Below.refl _ _).alloc (Nat.le_refl _) _ : Below w.heap.size w (w.alloc _)).grown hg (by simp) (fun k e => by injection e with e; exact Nat.le_of_eq e))
    have HK := Lib.hid hk
    clear hl hg hm hk
    by_cases hc : c = 0
    · subst hc
      obtain ⟨_, o1, o2, _, o4, o5⟩ := HOk.out rfl
      have HGd := Lib.hid (And.intro o1.good (show Trie.count T ≤ 1024 by omega))
      clear HOk o1 o2 o4 o5
      go_wp2_with fail
      refine HP.out _ _ T 0 HX.out (HB.out.alloc HB.out.size _) (fun _ => ⟨⟨HGd.out.1, _, .pointer xq, rfl, Blk.new _ _ _, HK.out.next ((Below.refl _ _).alloc (Nat.le_refl _) _)⟩, HGd.out.2⟩)
    · have hcI : ((c : Int) != 0) = true := by simp; exact hc
      go_wp2_with fail
      go_quiet (fail)
      go_wp2_with fail
      exact HP.out _ _ T c HX.out (below_drewN HB.out _) (fun h => absurd h hc)
end Go.Proofs.YtefcmigbdfeaiaaDoor
