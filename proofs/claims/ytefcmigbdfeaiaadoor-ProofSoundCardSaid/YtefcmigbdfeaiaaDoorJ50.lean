import Derived.Test.YtefcmigbdfeaiaaDoorJ26
import Derived.Test.YtefcmigbdfeaiaaDoorJ34
import Derived.Test.YtefcmigbdfeaiaaDoorJ49
set_option linter.unusedSimpArgs false
set_option linter.unusedVariables false
/- The document's Unlike (package pharosref04), walked: texts of one sum. No conditions. -/
namespace Go.Proofs.YtefcmigbdfeaiaaDoor
set_option linter.unusedVariables false
open Go.RowKit Go.Instr
attribute [local go_sem] ba_get ByteArray.mk_append_mk
/-- the sums of texts of nodes -/
def sums1 (l : List (List UInt8)) : List (List UInt8) := l.map fun s => shaW (1 :: s)
/-- two unlike texts of one sum, the later one ahead -/
def oddAt (l : List (List UInt8)) (i : Nat) (k : Nat) : Bool := decide ((sums1 l).getD i [] = (sums1 l).getD k []) && !decide (l.getD i [] = l.getD k [])
def oddTo (l : List (List UInt8)) (i k : Nat) : Bool := (List.range k).any fun j => oddAt l i j
def unlikeTo (l : List (List UInt8)) (n : Nat) : Bool := (List.range n).any fun i => oddTo l i i
def unlikeW (l : List (List UInt8)) : Bool := unlikeTo l l.length
theorem oddTo_succ (l : List (List UInt8)) (i k : Nat) : oddTo l i (k + 1) = (oddTo l i k || oddAt l i k) := by simp [oddTo, List.range_succ]
theorem unlikeTo_succ (l : List (List UInt8)) (n : Nat) : unlikeTo l (n + 1) = (unlikeTo l n || oddTo l n n) := by simp [unlikeTo, List.range_succ]
theorem oddTo_mono {l : List (List UInt8)} {i k m : Nat} (h : oddTo l i k = true) (hm : k ≤ m) : oddTo l i m = true := by
  unfold oddTo at h ⊢
  rw [List.any_eq_true] at h ⊢
  obtain ⟨x, hx, h⟩ := h
  exact ⟨x, by rw [List.mem_range] at hx ⊢; omega, h⟩
theorem unlikeTo_mono {l : List (List UInt8)} {k m : Nat} (h : unlikeTo l k = true) (hm : k ≤ m) : unlikeTo l m = true := by
  unfold unlikeTo at h ⊢
  rw [List.any_eq_true] at h ⊢
  obtain ⟨x, hx, h⟩ := h
  exact ⟨x, by rw [List.mem_range] at hx ⊢; omega, h⟩
theorem sums1_at {l : List (List UInt8)} {i : Nat} (h : i < l.length) : (sums1 l).getD i [] = shaW (1 :: l[i]) := by
  unfold sums1
  rw [List.getD_eq_getElem?_getD, List.getElem?_map, List.getElem?_eq_getElem h, Option.map_some, Option.getD_some]
theorem getD_at {l : List (List UInt8)} {i : Nat} (h : i < l.length) : l.getD i [] = l[i] := by
  rw [List.getD_eq_getElem?_getD, List.getElem?_eq_getElem h]; rfl
/-- two unlike texts of one sum are found -/
theorem unlikeW_of {l : List (List UInt8)} {x y : List UInt8} (hx : x ∈ l) (hy : y ∈ l) (hne : x ≠ y) (hs : shaW (1 :: x) = shaW (1 :: y)) : unlikeW l = true := by
  obtain ⟨i, hi, rfl⟩ := List.getElem_of_mem hx
  obtain ⟨j, hj, rfl⟩ := List.getElem_of_mem hy
  have key : ∀ i j (hi : i < l.length) (hj : j < l.length), l[i] ≠ l[j] → shaW (1 :: l[i]) = shaW (1 :: l[j]) → j < i → unlikeW l = true := by
    intro i j hi hj hne hs hlt
    unfold unlikeW unlikeTo
    rw [List.any_eq_true]
    refine ⟨i, List.mem_range.2 hi, ?_⟩
    unfold oddTo
    rw [List.any_eq_true]
    refine ⟨j, List.mem_range.2 hlt, ?_⟩
    unfold oddAt
    rw [sums1_at hi, sums1_at hj, getD_at hi, getD_at hj, decide_eq_true hs, decide_eq_false hne]
    rfl
  rcases Nat.lt_trichotomy i j with h | h | h
  · exact key j i hj hi (Ne.symm hne) hs.symm h
  · subst h; exact absurd rfl hne
  · exact key i j hi hj hne hs h
end Go.Proofs.YtefcmigbdfeaiaaDoor

/- The document's Unlike (package pharosref04), walked. No conditions. -/
namespace Go.Proofs.YtefcmigbdfeaiaaDoor
set_option linter.unusedVariables false
open Go.RowKit Go.Instr
attribute [local go_sem] ba_get ByteArray.mk_append_mk
theorem sums1_take (l : List (List UInt8)) (i : Nat) (h : i < l.length) : sums1 (l.take (i + 1)) = sums1 (l.take i) ++ [shaW (1 :: l[i])] := by
  unfold sums1
  rw [List.take_succ_eq_append_getElem h, List.map_append]
  rfl
theorem sums1_len (l : List (List UInt8)) : (sums1 l).length = l.length := by unfold sums1; rw [List.length_map]
theorem oddAt_eq {l : List (List UInt8)} {i k : Nat} (hi : i < l.length) (hk : k < l.length) : oddAt l i k = (((sums1 l)[i]'(by rw [sums1_len]; exact hi) == (sums1 l)[k]'(by rw [sums1_len]; exact hk)) && !(l[i] == l[k])) := by
  unfold oddAt
  rw [getD_at hi, getD_at hk, getD_at (l := sums1 l) (by rw [sums1_len]; exact hi), getD_at (l := sums1 l) (by rw [sums1_len]; exact hk)]
  congr 1
  · generalize (sums1 l)[i]'(by rw [sums1_len]; exact hi) = a
    generalize (sums1 l)[k]'(by rw [sums1_len]; exact hk) = b
    by_cases h : a = b <;> simp [h]
  · generalize l[i] = a
    generalize l[k] = b
    by_cases h : a = b <;> simp [h]
set_option maxRecDepth 100000 in
set_option maxHeartbeats 2000000 in
theorem ref04_Unlike (w : World) (l : List (List UInt8)) (A : Option Addr) (c : Nat) (HR : Reads w w.heap.size 1 A l.length (strv l)) (hn : l.length ≤ 200000) (hs : ∀ x ∈ l, x.length ≤ 900000) :
    Calls Tryd.prog 33 #[.int .i64 1, .slice A l.length c] w (Ret w (.bool (unlikeW l))) := by
  have HP : Hid (∀ b w', unlikeW l = b → Below w.heap.size w w' → Ret w (.bool (unlikeW l)) (.returned (.bool b)) w') := Lib.hid (fun b w' e h => ⟨by rw [e], h⟩)
  generalize Ret w (.bool (unlikeW l)) = P at HP ⊢
  have HRR := Lib.hid HR
  have HS := Lib.hid hs
  have HL := Lib.hid hn
  clear HR hs hn
  go_enter Tryd.func33, Tryd.ntmps33
  go_wp2_with fail
  refine wp_loop_ghost_k (fun k a wr => ∀ Φ : Act → Prop, (∀ (s2 s3 s4 s7 s8 s9 s10 s11 s12 s13 s14 s15 s16 s17 s18 s19 s20 s21 s22 s23 s24 s25 s26 s27 s28 s29 s30 s31 s32 s33 s34 s35 s36 s37 s38 s39 s40 s41 s42 s43 s44 s45 s46 s47 s48 s49 s50 s51 s52 s53 s54 : Value) (i n c2 : Nat) (O : Option Addr), (i + k = l.length ∧ n = i ∧ wr.ownsRow w.heap.size 9 1 (.slice O n c2) n (strv (sums1 (l.take i))) ∧ Below w.heap.size w wr) → Φ { tmps := #[.int .i64 1, .slice A l.length c, s2, s3, s4, .slice O n c2, .int .i64 (i : Int), s7, s8, s9, s10, s11, s12, s13, s14, s15, s16, s17, s18, s19, s20, s21, s22, s23, s24, s25, s26, s27, s28, s29, s30, s31, s32, s33, s34, s35, s36, s37, s38, s39, s40, s41, s42, s43, s44, s45, s46, s47, s48, s49, s50, s51, s52, s53, s54], defers := [] }) → Φ a) (l.length) ?_ ?_
  · refine fun Φ hΦ => hΦ _ _ _ _ _ _ _ _ _ _ _ _ _ _ _ _ _ _ _ _ _ _ _ _ _ _ _ _ _ _ _ _ _ _ _ _ _ _ _ _ _ _ _ _ _ _ _ _ _ _ _ (0) (0) (0) (none) ?_
    exact ⟨by omega, rfl, World.ownsRow_nil _ _ _ _, Below.refl _ _⟩
  · intro k1 a1 wr1 hI1 J1 K1 hJ1 hK1
    refine hI1 (fun a => Code.wp _ _ _ a _) ?_
    clear hI1 a1
    intro s0 s1 s2 s3 s4 s5 s6 s7 s8 s9 s10 s11 s12 s13 s14 s15 s16 s17 s18 s19 s20 s21 s22 s23 s24 s25 s26 s27 s28 s29 s30 s31 s32 s33 s34 s35 s36 s37 s38 s39 s40 s41 s42 s43 s44 s45 s46 s47 s48 s49 s50 i n c2 O hrel
    show Code.wp _ _ _ _ _
    obtain ⟨h1, rfl, own, hb⟩ := hrel
    by_cases hi : n < l.length
    · obtain ⟨ad, off, rfl, hbl, hcell⟩ := few_cell HRR.out hi
      have q0 := hcell _ hb
      have HSn : Hid (strv (sums1 (l.take (n + 1))) = strv (sums1 (l.take n)) ++ [.string ⟨(shaW (1 :: l[n])).toArray⟩]) := Lib.hid (by rw [sums1_take l n hi]; simp [strv])
      have hxl := HS.out _ (List.getElem_mem hi)
      have hi1 : (n : Int) < l.length := by omega
      have hi0 : (0 : Int) ≤ n := by omega
      have hl := HL.out
      have hn3 : n ≤ 200000 := by omega
      have HI := Lib.hid h1
      have OW := Lib.hid (And.intro own hb)
      clear hcell h1 own hb
      generalize l[n] = x at *
      have HTag : Hid (∀ W, Calls Tryd.prog 68 #[.int .i64 1, .string ⟨x.toArray⟩] W fun e w' => e = .returned (.string ⟨(shaW (1 :: x)).toArray⟩) ∧ Below W.heap.size W w') := Lib.hid (fun W => ref04_Tagged W 1 (by omega) x (by omega))
      generalize shaW (1 :: x) = s at *
      have hone : ∀ u ∈ [Value.string ⟨s.toArray⟩], u.oneCell' = true := by intro u hu; rw [List.mem_singleton] at hu; subst hu; rfl
      generalize strv (sums1 (l.take n)) = SV at *
      go_wp2_with fail
      refine (HTag.out _).mono ?_
      rintro e w2 ⟨rfl, hb2⟩
      have OW2 := Lib.hid (And.intro (own_below OW.out.1 hb2) (OW.out.2.nxt hb2))
      clear hb2 q0
      go_wp2_with (at_builtin; refine wpList_append_new w2 9 [.string ⟨s.toArray⟩] rfl _ _ 36 rfl w.heap.size 1 16 _ info_str Tryd.underlying36 rfl (by decide) (.slice O n c2) n SV rfl OW2.out.1 1 1 rfl rfl hone (by simp only [maxLen]; omega) (by omega) w.heap.size w OW2.out.2 (Nat.le_refl _) OW2.out.2.size ?_; intro v3 w3 own3 hb3 hg3 _ _; obtain ⟨A3, c3, rfl, _, _, _⟩ := own_form own3; have O3 := Lib.hid (And.intro own3 hb3); clear own3 hb3 hg3)
      refine Handed.intro (l.length - (n + 1)) ?_ (hJ1 _ _ _ (fun Φ hΦ => hΦ _ _ _ _ _ _ _ _ _ _ _ _ _ _ _ _ _ _ _ _ _ _ _ _ _ _ _ _ _ _ _ _ _ _ _ _ _ _ _ _ _ _ _ _ _ _ _ _ _ _ _ (n + 1) (n + 1) (c3) (A3) ?_))
      · have := HI.out; omega
      · refine ⟨by have := HI.out; omega, rfl, ?_, O3.out.2⟩
        rw [HSn.out]
        exact O3.out.1
    · have hi2 : ((n : Int) < l.length) = False := by simp; omega
      obtain rfl : n = l.length := by omega
      rw [List.take_of_length_le (Nat.le_refl _)] at own
      have RS := Lib.hid (Reads.of_own own)
      have HB := Lib.hid hb
      clear own hb h1 hi
      go_wp2_with fail
      refine wp_loop_ghost_k (fun k a wr => ∀ Φ : Act → Prop, (∀ (s2 s3 s4 s6 s8 s9 s10 s11 s12 s13 s14 s15 s16 s17 s18 s19 s20 s21 s22 s23 s24 s25 s26 s27 s28 s29 s30 s31 s32 s33 s34 s35 s36 s37 s38 s39 s40 s41 s42 s43 s44 s45 s46 s47 s48 s49 s50 s51 s52 s53 s54 : Value) (i : Nat), (i + k = l.length ∧ unlikeTo l i = false ∧ Below wr1.heap.size wr1 wr) → Φ { tmps := #[.int .i64 1, .slice A l.length c, s2, s3, s4, .slice O l.length c2, s6, .int .i64 (i : Int), s8, s9, s10, s11, s12, s13, s14, s15, s16, s17, s18, s19, s20, s21, s22, s23, s24, s25, s26, s27, s28, s29, s30, s31, s32, s33, s34, s35, s36, s37, s38, s39, s40, s41, s42, s43, s44, s45, s46, s47, s48, s49, s50, s51, s52, s53, s54], defers := [] }) → Φ a) (l.length) ?_ ?_
      · refine fun Φ hΦ => hΦ _ _ _ _ _ _ _ _ _ _ _ _ _ _ _ _ _ _ _ _ _ _ _ _ _ _ _ _ _ _ _ _ _ _ _ _ _ _ _ _ _ _ _ _ _ _ _ _ _ _ _ (0) ?_
        exact ⟨by omega, rfl, Below.refl _ _⟩
      · intro k2 a2 wr2 hI2 J2 K2 hJ2 hK2
        refine hI2 (fun a => Code.wp _ _ _ a _) ?_
        clear hI2 a2
        intro s0 s1 s2 s3 s4 s5 s6 s7 s8 s9 s10 s11 s12 s13 s14 s15 s16 s17 s18 s19 s20 s21 s22 s23 s24 s25 s26 s27 s28 s29 s30 s31 s32 s33 s34 s35 s36 s37 s38 s39 s40 s41 s42 s43 s44 s45 s46 s47 s48 s49 s50 i hrel
        show Code.wp _ _ _ _ _
        obtain ⟨h1, h2, hb⟩ := hrel
        by_cases hi : i < l.length
        · have hi1 : (i : Int) < l.length := by omega
          have hi0 : (0 : Int) ≤ i := by omega
          have hl := HL.out
          have HI := Lib.hid (And.intro h1 (And.intro h2 hb))
          clear h1 h2 hb
          go_wp2_with fail
          refine wp_loop_ghost_k (fun k a wr => ∀ Φ : Act → Prop, (∀ (s2 s3 s4 s6 s9 s10 s11 s12 s13 s14 s15 s16 s17 s18 s19 s20 s21 s22 s23 s24 s25 s26 s27 s28 s29 s30 s31 s32 s33 s34 s35 s36 s37 s38 s39 s40 s41 s42 s43 s44 s45 s46 s47 s48 s49 s50 s51 s52 s53 s54 : Value) (j : Nat), (j + k = i ∧ oddTo l i j = false ∧ Below wr1.heap.size wr1 wr) → Φ { tmps := #[.int .i64 1, .slice A l.length c, s2, s3, s4, .slice O l.length c2, s6, .int .i64 (i : Int), .int .i64 (j : Int), s9, s10, s11, s12, s13, s14, s15, s16, s17, s18, s19, s20, s21, s22, s23, s24, s25, s26, s27, s28, s29, s30, s31, s32, s33, s34, s35, s36, s37, s38, s39, s40, s41, s42, s43, s44, s45, s46, s47, s48, s49, s50, s51, s52, s53, s54], defers := [] }) → Φ a) (i) ?_ ?_
          · refine fun Φ hΦ => hΦ _ _ _ _ _ _ _ _ _ _ _ _ _ _ _ _ _ _ _ _ _ _ _ _ _ _ _ _ _ _ _ _ _ _ _ _ _ _ _ _ _ _ _ _ _ _ _ _ _ _ (0) ?_
            exact ⟨by omega, rfl, HI.out.2.2⟩
          · intro k3 a3 wr3 hI3 J3 K3 hJ3 hK3
            refine hI3 (fun a => Code.wp _ _ _ a _) ?_
            clear hI3 a3
            intro s0 s1 s2 s3 s4 s5 s6 s7 s8 s9 s10 s11 s12 s13 s14 s15 s16 s17 s18 s19 s20 s21 s22 s23 s24 s25 s26 s27 s28 s29 s30 s31 s32 s33 s34 s35 s36 s37 s38 s39 s40 s41 s42 s43 s44 s45 s46 s47 s48 s49 j hrel
            show Code.wp _ _ _ _ _
            obtain ⟨g1, g2, gb⟩ := hrel
            by_cases hj : j < i
            · have hjl : j < l.length := by omega
              have hsl := sums1_len l
              have hj1 : (j : Int) < i := by omega
              have hj2 : (j : Int) < l.length := by omega
              have hj0 : (0 : Int) ≤ j := by omega
              obtain ⟨ad, off, rfl, hbl, hcell⟩ := few_cell HRR.out hi
              obtain ⟨ad', off', hA', _, hcell'⟩ := few_cell HRR.out hjl
              injection hA' with hA'
              injection hA' with ha1 ha2
              subst ha1 ha2
              have RS2 := RS.out
              rw [← hsl] at RS2
              obtain ⟨bd, bff, rfl, hbb, scell⟩ := few_cell RS2 (i := i) (by rw [sums1_len]; exact hi)
              obtain ⟨bd', bff', hB', _, scell'⟩ := few_cell RS2 (i := j) (by rw [sums1_len]; exact hjl)
              injection hB' with hB'
              injection hB' with hb1 hb2
              subst hb1 hb2
              have GB := Lib.hid gb
              have q1 := hcell _ (HB.out.nxt gb)
              have q2 := hcell' _ (HB.out.nxt gb)
              have q3 := scell _ gb
              have q4 := scell' _ gb
              have hodd := oddAt_eq hi hjl
              have hos := oddTo_succ l i j
              rw [g2, Bool.false_or, hodd] at hos
              have HJ := Lib.hid g1
              have HO := Lib.hid hos
              clear hodd hos g1 g2 gb hcell hcell' scell scell' RS2
              generalize (sums1 l)[i]'(by rw [sums1_len]; exact hi) = si at *
              generalize (sums1 l)[j]'(by rw [sums1_len]; exact hjl) = sj at *
              generalize l[i] = li at *
              generalize l[j] = lj at *
              cases e1 : (si == sj) with
              | false =>
                rw [e1, Bool.false_and] at HO
                clear q1 q2
                go_wp2_with fail
                go_quiet (fail)
                go_wp2_with fail
                refine Handed.intro (i - (j + 1)) ?_ (hJ3 _ _ _ (fun Φ hΦ => hΦ _ _ _ _ _ _ _ _ _ _ _ _ _ _ _ _ _ _ _ _ _ _ _ _ _ _ _ _ _ _ _ _ _ _ _ _ _ _ _ _ _ _ _ _ _ _ _ _ _ _ (j + 1) ?_))
                · have := HJ.out; omega
                · exact ⟨by have := HJ.out; omega, HO.out, below_drewN GB.out _⟩
              | true =>
                rw [e1, Bool.true_and] at HO
                cases e2 : (li == lj) with
                | true =>
                  rw [e2] at HO
                  go_wp2_with fail
                  go_quiet (fail)
                  go_wp2_with fail
                  refine Handed.intro (i - (j + 1)) ?_ (hJ3 _ _ _ (fun Φ hΦ => hΦ _ _ _ _ _ _ _ _ _ _ _ _ _ _ _ _ _ _ _ _ _ _ _ _ _ _ _ _ _ _ _ _ _ _ _ _ _ _ _ _ _ _ _ _ _ _ _ _ _ _ (j + 1) ?_))
                  · have := HJ.out; omega
                  · exact ⟨by have := HJ.out; omega, HO.out, below_drewN GB.out _⟩
                | false =>
                  rw [e2] at HO
                  go_wp2_with fail
                  go_quiet (fail)
                  go_wp2_with fail
                  refine HP.out true _ ?_ (below_drewN (HB.out.nxt GB.out) _)
                  have a1 := oddTo_mono (m := i) HO.out (by omega)
                  have a2 : unlikeTo l (i + 1) = true := by rw [unlikeTo_succ, a1, Bool.or_true]
                  exact unlikeTo_mono a2 (by omega)
            · have hj1 : ((j : Int) < i) = False := by simp; omega
              obtain rfl : j = i := by omega
              have HG := Lib.hid (And.intro g2 gb)
              clear g1 g2 gb hj
              go_wp2_with fail
              refine Handed.intro (l.length - (j + 1)) ?_ (hJ2 _ _ _ (fun Φ hΦ => hΦ _ _ _ _ _ _ _ _ _ _ _ _ _ _ _ _ _ _ _ _ _ _ _ _ _ _ _ _ _ _ _ _ _ _ _ _ _ _ _ _ _ _ _ _ _ _ _ _ _ _ _ (j + 1) ?_))
              · have := HI.out.1; omega
              · exact ⟨by have := HI.out.1; omega, by rw [unlikeTo_succ, HI.out.2.1, HG.out.1]; rfl, HG.out.2⟩
        · have hi1 : ((i : Int) < l.length) = False := by simp; omega
          obtain rfl : i = l.length := by omega
          have HE := Lib.hid (And.intro h2 hb)
          clear h1 h2 hb hi
          go_wp2_with fail
          exact HP.out false _ HE.out.1 (HB.out.nxt HE.out.2)
end Go.Proofs.YtefcmigbdfeaiaaDoor

/- Layer 13's laws: ProofWhole. No conditions. -/
namespace Go.Proofs.YtefcmigbdfeaiaaDoor
set_option linter.unusedVariables false
open Go.RowKit Go.Instr
attribute [local go_sem] ba_get ByteArray.mk_append_mk
attribute [local go_sem ↓] Go.wp_at_zero Go.wp_at_succ
theorem told_700 {t : Trie.T} (h : Trie.Good t) (may : List UInt8 → Bool) : ∀ x ∈ toldW may t, x.length ≤ 700 := by
  have key : ∀ (t : Trie.T) (pl : List UInt8), Trie.At pl t → ∀ x ∈ Trie.goT may t pl, (Trie.textT x.2).length ≤ 700 := by
    have one : ∀ (t : Trie.T) (pl : List UInt8), Trie.At pl t → t ≠ .nil → (Trie.textT t).length ≤ 700 := fun t pl ha hn => nodeText_len (Trie.sumsT_length t) (Trie.fineT hn ha.wf ha.small)
    intro t
    induction t with
    | nil => intro pl _ x hx; cases hx
    | leaf p v =>
      intro pl ha x hx
      simp only [Trie.goT] at hx
      split at hx
      · rw [List.mem_singleton] at hx
        subst hx
        exact one _ _ ha (by simp)
      · cases hx
    | ext p t ih =>
      intro pl ha x hx
      simp only [Trie.goT] at hx
      split at hx
      · rcases List.mem_cons.1 hx with rfl | hx
        · exact one _ _ ha (by simp)
        · exact ih _ ha.below x hx
      · cases hx
    | branch v kids ih =>
      intro pl ha x hx
      simp only [Trie.goT] at hx
      split at hx
      · rcases List.mem_cons.1 hx with rfl | hx
        · exact one _ _ ha (by simp)
        · obtain ⟨i, _, hx⟩ := List.mem_flatMap.1 hx
          exact ih i _ (ha.kid i) x hx
      · cases hx
  intro x hx
  unfold toldW textsD at hx
  obtain ⟨y, hy, rfl⟩ := List.mem_map.1 hx
  exact key t [] (Trie.At.top h) y hy
theorem Trie.trail_len (t : Trie.T) : ∀ q, Trie.wf t → (Trie.trailT t q).length ≤ q.length + 1 := by
  induction t with
  | nil => intro q _; exact Nat.zero_le _
  | leaf p v => intro q _; simp [Trie.trailT]
  | ext p t ih =>
    intro q hw
    simp only [Trie.trailT, List.length_cons]
    split
    · rename_i hc
      have h1 := ih (q.drop p.length) hw.2.2.2
      have h2 : 0 < p.length := List.length_pos_iff.2 hw.2.1
      have h3 := (Nib.common_le p q).2
      rw [List.length_drop] at h1
      omega
    · simp
  | branch v kids ih =>
    intro q hw
    cases q with
    | nil => simp [Trie.trailT]
    | cons b r =>
      have := ih (Trie.ix b) r (hw.1 _)
      simp only [Trie.trailT, List.length_cons]
      omega
theorem told_trail_len {t : Trie.T} (h : Trie.wf t) (key : List UInt8) (hk : Trie.keyedW key = true) : (toldW (trailW (Nib.of key)) t).length ≤ 17 := by
  rw [Trie.told_trail h (Nib.fit_of key), List.length_map]
  have h1 := Trie.trail_len t (Nib.of key) h
  have h2 := keyed_short hk
  rw [Nib.of_length] at h1
  omega
set_option maxRecDepth 100000 in
set_option maxHeartbeats 2000000 in
theorem law_ProofWhole (w : World) (A0 : Option Addr) (c0 : Nat) (L : List Trie.KV) (key : List UInt8) (HR0 : Reads w w.heap.size 2 A0 L.length (icells L)) (hL : ∀ x ∈ L, x.1.length ≤ 9223372036854775807 ∧ x.2.length ≤ 9223372036854775807) (hk : key.length ≤ 9223372036854775807) (hT : Tbl w) :
    Calls Tryd.prog 8 #[.slice A0 L.length c0, .string ⟨key.toArray⟩] w fun e w' => e = .returned (.bool true) ∧ Below w.heap.size w w' := by
  have HP : Hid (∀ w', Below w.heap.size w w' → (fun e w' => e = Ending.returned (.bool true) ∧ Below w.heap.size w w') (Ending.returned (.bool true)) w') := Lib.hid (fun W' a2 => ⟨rfl, a2⟩)
  generalize (fun e w' => e = Ending.returned (.bool true) ∧ Below w.heap.size w w') = P at HP ⊢
  have HTb := Lib.hid hT
  have HSo := Lib.hid (fun W (hW : Below w.heap.size w W) => law13_some W L hL A0 c0 ((HR0.below hW).more hW.size) (hT.next hW))
  have HGd := Lib.hid (fewT_good L)
  have HKl := Lib.hid hk
  generalize fewT L = t at *
  clear hT HR0 hL
  go_enter Tryd.func8, Tryd.ntmps8
  go_wp2_with fail
  refine (law13_works _ HTb.out).mono ?_
  rintro e w0 ⟨rfl, hb0⟩
  have HB0 := Lib.hid hb0
  clear hb0
  go_wp2_with fail
  refine (HSo.out _ HB0.out).mono ?_
  rintro e w1 ⟨v1, A1, n1, c1, rfl, hk1, _, _, _, hb1⟩
  obtain ⟨_, b1, x1, rfl, _⟩ := id hk1
  have HK1 := Lib.hid hk1
  have HB1 := Lib.hid (HB0.out.nxt hb1)
  clear hk1 hb1 HSo
  have HPr := Lib.hid (proof_Prove w1 t _ HK1.out (by have := HGd.out.2; omega) key hk)
  cases hkey : Trie.keyedW key with
  | false =>
    have e : proveW t key = ([], 1) := by unfold proveW; rw [if_neg (by simp [hkey])]
    rw [e] at HPr
    clear hkey e
    go_wp2_with fail
    refine HPr.out.mono ?_
    rintro e w2 ⟨A2, n2, c2, rfl, hn2, own2, hb2⟩
    obtain rfl : n2 = 0 := hn2
    have HB2 := Lib.hid (HB1.out.nxt hb2)
    clear own2 hb2
    go_wp2_with fail
    exact HP.out _ HB2.out
  | true =>
    have e : proveW t key = (toldW (trailW (Nib.of key)) t, 0) := by unfold proveW; rw [if_pos hkey]
    rw [e] at HPr
    have HVw := Lib.hid (Trie.verify_whole HGd.out.1 hkey)
    have H17 := told_trail_len HGd.out.1.wf key hkey
    have H700 := Lib.hid (told_700 HGd.out.1 (trailW (Nib.of key)))
    have HGt : Hid (Trie.getW t key = (Trie.look t (Nib.of key), if Trie.look t (Nib.of key) = [] then 5 else 0)) := Lib.hid (by
      unfold Trie.getW
      rw [if_pos hkey]
      cases h : Trie.look t (Nib.of key) with
      | nil => simp
      | cons a r => simp)
    have HGe := Lib.hid (fun W (hW : Below w1.heap.size w1 W) => trie_Get W t _ (HK1.out.next hW) key hk)
    rw [HGt.out] at HGe
    clear hkey e HGt
    generalize toldW (trailW (Nib.of key)) t = l at *
    generalize Trie.look t (Nib.of key) = v at *
    have HV : Hid (∀ W A c, Below w1.heap.size w1 W → Reads W W.heap.size 1 A l.length (strv l) → Calls Tryd.prog 40 #[.string ⟨(Trie.sumT t).toArray⟩, .string ⟨key.toArray⟩, .slice A l.length c] W (VerEnd W (v, decide (v ≠ []), 0))) := Lib.hid (fun W A c hW hr => by
      have := proof_Verify W (Trie.sumT t) key HKl.out l A c hr (by omega) (fun x hx => by have := H700.out x hx; omega) (HTb.out.next (HB1.out.nxt hW))
      rwa [HVw.out] at this)
    have HRt := Lib.hid (fun W (hW : Below w1.heap.size w1 W) => trie_Root W t _ (HK1.out.next hW))
    clear HVw
    generalize Trie.sumT t = sm at *
    have h2 : (((if v = [] then 5 else 0 : Nat) : Int) == 0) = decide (v ≠ []) := by
      by_cases h : v = []
      · simp [h]
      · simp [h]
    have hvv : (v == v) = true := by simp
    generalize (if v = [] then 5 else 0 : Nat) = gc at *
    generalize decide (v ≠ []) = d at *
    have hl17 : (l.length : Int) ≤ 17 := by omega
    clear H17
    go_wp2_with fail
    refine HPr.out.mono ?_
    rintro e w2 ⟨A2, n2, c2, rfl, hn2, own2, hb2⟩
    obtain rfl := hn2
    have C2 := Lib.hid hb2
    have R2 := Lib.hid (Reads.of_own own2)
    clear own2 hb2
    go_wp2_with fail
    refine (HRt.out _ C2.out).mono ?_
    rintro e w3 ⟨rfl, rfl⟩
    go_wp2_with fail
    refine (HV.out _ A2 c2 C2.out R2.out).mono ?_
    rintro e w4 ⟨rfl, hb4⟩
    have C4 := Lib.hid (C2.out.nxt hb4)
    clear hb4
    go_wp2_with fail
    refine (HGe.out _ C4.out).mono ?_
    rintro e w5 ⟨rfl, hb5⟩
    have C5 := Lib.hid (C4.out.nxt hb5)
    clear hb5
    cases d
    · go_wp2_with fail
      exact HP.out _ (HB1.out.nxt C5.out)
    · go_wp2_with fail
      exact HP.out _ (HB1.out.nxt C5.out)
set_option maxRecDepth 100000 in
set_option maxHeartbeats 2000000 in
theorem law_ProofSound (w : World) (A0 : Option Addr) (c0 : Nat) (L : List Trie.KV) (key : List UInt8) (A1 : Option Addr) (c1 : Nat) (nodes : List (List UInt8)) (HR0 : Reads w w.heap.size 2 A0 L.length (icells L)) (hL : ∀ x ∈ L, x.1.length ≤ 9223372036854775807 ∧ x.2.length ≤ 9223372036854775807) (hk : key.length ≤ 9223372036854775807) (HR1 : Reads w w.heap.size 1 A1 nodes.length (strv nodes)) (hT : Tbl w) :
    Calls Tryd.prog 9 #[.slice A0 L.length c0, .string ⟨key.toArray⟩, .slice A1 nodes.length c1] w fun e w' => e = .returned (.bool true) ∧ Below w.heap.size w w' := by
  have HP : Hid (∀ w', Below w.heap.size w w' → (fun e w' => e = Ending.returned (.bool true) ∧ Below w.heap.size w w') (Ending.returned (.bool true)) w') := Lib.hid (fun W' a2 => ⟨rfl, a2⟩)
  generalize (fun e w' => e = Ending.returned (.bool true) ∧ Below w.heap.size w w') = P at HP ⊢
  have HTb := Lib.hid hT
  have HSo := Lib.hid (fun W (hW : Below w.heap.size w W) => law13_some W L hL A0 c0 ((HR0.below hW).more hW.size) (hT.next hW))
  have HN := Lib.hid (fun W (hW : Below w.heap.size w W) => (HR1.below hW).more hW.size)
  have HGd := Lib.hid (fewT_good L)
  have HKl := Lib.hid hk
  generalize fewT L = t at *
  clear hT HR0 HR1 hL
  go_enter Tryd.func9, Tryd.ntmps9
  go_wp2_with fail
  refine (law13_works _ HTb.out).mono ?_
  rintro e w0 ⟨rfl, hb0⟩
  have HB0 := Lib.hid hb0
  clear hb0
  go_wp2_with fail
  refine (book_Few _ A1 c1 nodes 30 700 (HN.out _ HB0.out) (by omega) (by omega)).mono ?_
  rintro e w9 ⟨rfl, hb9⟩
  have HB9 := Lib.hid (HB0.out.nxt hb9)
  clear hb9
  cases hfew : fewW nodes 30 700 with
  | false =>
    clear hfew
    go_wp2_with fail
    exact HP.out _ HB9.out
  | true =>
  have HFw : Hid (nodes.length ≤ 30 ∧ ∀ x ∈ nodes, x.length ≤ 700) := Lib.hid (by
    unfold fewW at hfew
    simp at hfew
    exact hfew)
  clear hfew
  go_wp2_with fail
  refine (HSo.out _ HB9.out).mono ?_
  rintro e w1 ⟨v1, A2, n2, c2, rfl, hk1, _, _, _, hb1⟩
  obtain ⟨_, b1, x1, rfl, _⟩ := id hk1
  have HK1 := Lib.hid hk1
  have HB1 := Lib.hid (HB9.out.nxt hb1)
  clear hk1 hb1 HSo
  go_wp2_with fail
  refine (trie_Root w1 t _ HK1.out).mono ?_
  rintro e w2 ⟨rfl, rfl⟩
  have HV := Lib.hid (proof_Verify w1 (Trie.sumT t) key HKl.out nodes A1 c1 (HN.out _ HB1.out) (by have := HFw.out.1; omega) (fun x hx => by have := HFw.out.2 x hx; omega) (HTb.out.next HB1.out))
  have HBad := Lib.hid (fun (h : (verifyW (Trie.sumT t) key nodes).2.2 ≠ 0) => Trie.verify_bad h)
  have HSd := Lib.hid (fun (h : (verifyW (Trie.sumT t) key nodes).2.2 = 0) => Trie.verify_sound HGd.out.1 nodes h)
  have HGe := Lib.hid (fun W (hW : Below w1.heap.size w1 W) => trie_Get W t _ (HK1.out.next hW) key hk)
  have HGt := Lib.hid (fun (h : Trie.keyedW key = true) => (show Trie.getW t key = (Trie.look t (Nib.of key), if Trie.look t (Nib.of key) = [] then 5 else 0) by
      unfold Trie.getW
      rw [if_pos h]
      cases h : Trie.look t (Nib.of key) with
      | nil => simp
      | cons a r => simp))
  have HNo := Lib.hid (fun W (hW : Below w1.heap.size w1 W) => trie_Nodes W t _ (HK1.out.next hW) (by have := HGd.out.2; omega))
  have H700 := Lib.hid (told_700 HGd.out.1 allW)
  have HTl : Hid ((toldW allW t).length ≤ 100000) := Lib.hid (by
    rw [toldW, textsD, List.length_map]
    exact Trie.goT_short HGd.out.1.wf (by have := HGd.out.2; omega) _ _)
  generalize verifyW (Trie.sumT t) key nodes = r at *
  generalize Trie.sumT t = sm at *
  generalize toldW allW t = tl at *
  obtain ⟨v, is, cd⟩ := r
  simp only at HBad HSd
  generalize Trie.getW t key = gw at *
  generalize Trie.look t (Nib.of key) = lk at *
  obtain ⟨gv, gc⟩ := gw
  go_wp2_with fail
  refine HV.out.mono ?_
  rintro e w3 ⟨rfl, hb3⟩
  have C3 := Lib.hid hb3
  clear hb3 HV
  by_cases hcd : cd = 0
  rotate_left
  · obtain ⟨e1, e2⟩ := HBad.out hcd
    subst e1
    subst e2
    have hcI : ((cd : Int) != 0) = true := by simp; exact hcd
    clear hcd HBad HSd
    go_wp2_with fail
    exact HP.out _ (HB1.out.nxt C3.out)
  subst hcd
  obtain ⟨hky, hs⟩ := HSd.out rfl
  have hge := HGt.out hky
  injection hge with e1 e2
  subst e1
  have HSs := Lib.hid hs
  have h2 : ((gc : Int) == 0) = decide (gv ≠ []) := by
    rw [e2]
    by_cases h : gv = []
    · simp [h]
    · simp [h]
  have HZ : Hid (unlikeW (tl ++ nodes) = true ∨ (v = gv ∧ is = decide (gv ≠ []))) := Lib.hid (by
    rcases hs with h | ⟨x, hx, y, hy, hne, hsum⟩
    · exact .inr h
    · exact .inl (unlikeW_of hx hy hne hsum))
  clear hky hs HSd HBad HGt e2
  generalize hd : decide (gv ≠ []) = d at *
  clear hd
  go_wp2_with fail
  refine (HGe.out _ C3.out).mono ?_
  rintro e w4 ⟨rfl, hb4⟩
  have C4 := Lib.hid (C3.out.nxt hb4)
  clear hb4
  cases e1 : (v == gv) with
  | false =>
    have hun : Hid (unlikeW (tl ++ nodes) = true) := Lib.hid (by
      rcases HZ.out with h | ⟨h, _⟩
      · exact h
      · rw [h] at e1; simp at e1)
    clear HZ
    go_wp2_with fail
    refine (HNo.out _ C4.out).mono ?_
    rintro e w5 ⟨A5, n5, c5, rfl, hn5, own5, hb5⟩
    obtain rfl := hn5
    have C5 := Lib.hid (C4.out.nxt hb5)
    have hb5s := hb5.size
    have O5 := Lib.hid own5
    have htl := HTl.out
    have hnl := HFw.out.1
    clear own5 hb5 e1 h2
    obtain ⟨i0, hi0, hz0, hz1, hz2⟩ := info_parts info_str
    go_wp2_with (at_builtin; refine wpList_append_any w5 rfl _ _ 36 rfl w4.heap.size 9 i0 _ 1 16 Tryd.underlying36 hi0 hz0 hz1 hz2 rfl (by decide) (.slice A5 tl.length c5) tl.length (strv tl) rfl O5.out w5.heap.size A1 nodes.length c1 (strv nodes) rfl (HN.out _ (HB1.out.nxt C5.out)) (strv_one _) (by simp only [maxLen]; omega) (by omega) hb5s ?_; intro v6 w6 own6 hg6 _; obtain ⟨A6, c6, rfl, _, _, _⟩ := own_form own6; have O6 := Lib.hid (And.intro own6 hg6); clear own6 hg6)
    have C6 : Hid (Below w1.heap.size w1 w6) := Lib.hid (C5.out.grown O6.out.2 C5.out.size (fun k hk => Nat.le_trans C4.out.size (O5.out.lt k hk).1))
    have R6 : Hid (Reads w6 w6.heap.size 1 A6 (tl ++ nodes).length (strv (tl ++ nodes))) := Lib.hid (by
      have := Reads.of_own O6.out.1
      rw [List.length_append]
      unfold strv at this ⊢
      rwa [List.map_append])
    have HU := Lib.hid (ref04_Unlike w6 (tl ++ nodes) A6 c6 R6.out (by rw [List.length_append]; omega) (fun x hx => by
      rcases List.mem_append.1 hx with h | h
      · have := H700.out x h; omega
      · have := HFw.out.2 x h; omega))
    rw [hun.out, List.length_append] at HU
    clear htl hnl
    go_wp2_with fail
    refine HU.out.mono ?_
    rintro e w7 ⟨rfl, hb7⟩
    go_wp2_with fail
    exact HP.out _ (HB1.out.nxt (C6.out.nxt hb7))
  | true =>
    cases is <;> cases d
    · clear HZ
      go_wp2_with fail
      exact HP.out _ (HB1.out.nxt C4.out)
    · have hun : Hid (unlikeW (tl ++ nodes) = true) := Lib.hid (by
        rcases HZ.out with h | ⟨_, h⟩
        · exact h
        · cases h)
      clear HZ
      go_wp2_with fail
      refine (HNo.out _ C4.out).mono ?_
      rintro e w5 ⟨A5, n5, c5, rfl, hn5, own5, hb5⟩
      obtain rfl := hn5
      have C5 := Lib.hid (C4.out.nxt hb5)
      have hb5s := hb5.size
      have O5 := Lib.hid own5
      have htl := HTl.out
      have hnl := HFw.out.1
      clear own5 hb5 e1 h2
      obtain ⟨i0, hi0, hz0, hz1, hz2⟩ := info_parts info_str
      go_wp2_with (at_builtin; refine wpList_append_any w5 rfl _ _ 36 rfl w4.heap.size 9 i0 _ 1 16 Tryd.underlying36 hi0 hz0 hz1 hz2 rfl (by decide) (.slice A5 tl.length c5) tl.length (strv tl) rfl O5.out w5.heap.size A1 nodes.length c1 (strv nodes) rfl (HN.out _ (HB1.out.nxt C5.out)) (strv_one _) (by simp only [maxLen]; omega) (by omega) hb5s ?_; intro v6 w6 own6 hg6 _; obtain ⟨A6, c6, rfl, _, _, _⟩ := own_form own6; have O6 := Lib.hid (And.intro own6 hg6); clear own6 hg6)
      have C6 : Hid (Below w1.heap.size w1 w6) := Lib.hid (C5.out.grown O6.out.2 C5.out.size (fun k hk => Nat.le_trans C4.out.size (O5.out.lt k hk).1))
      have R6 : Hid (Reads w6 w6.heap.size 1 A6 (tl ++ nodes).length (strv (tl ++ nodes))) := Lib.hid (by
        have := Reads.of_own O6.out.1
        rw [List.length_append]
        unfold strv at this ⊢
        rwa [List.map_append])
      have HU := Lib.hid (ref04_Unlike w6 (tl ++ nodes) A6 c6 R6.out (by rw [List.length_append]; omega) (fun x hx => by
        rcases List.mem_append.1 hx with h | h
        · have := H700.out x h; omega
        · have := HFw.out.2 x h; omega))
      rw [hun.out, List.length_append] at HU
      clear htl hnl
      go_wp2_with fail
      refine HU.out.mono ?_
      rintro e w7 ⟨rfl, hb7⟩
      go_wp2_with fail
      exact HP.out _ (HB1.out.nxt (C6.out.nxt hb7))
    · have hun : Hid (unlikeW (tl ++ nodes) = true) := Lib.hid (by
        rcases HZ.out with h | ⟨_, h⟩
        · exact h
        · cases h)
      clear HZ
      go_wp2_with fail
      refine (HNo.out _ C4.out).mono ?_
      rintro e w5 ⟨A5, n5, c5, rfl, hn5, own5, hb5⟩
      obtain rfl := hn5
      have C5 := Lib.hid (C4.out.nxt hb5)
      have hb5s := hb5.size
      have O5 := Lib.hid own5
      have htl := HTl.out
      have hnl := HFw.out.1
      clear own5 hb5 e1 h2
      obtain ⟨i0, hi0, hz0, hz1, hz2⟩ := info_parts info_str
      go_wp2_with (at_builtin; refine wpList_append_any w5 rfl _ _ 36 rfl w4.heap.size 9 i0 _ 1 16 Tryd.underlying36 hi0 hz0 hz1 hz2 rfl (by decide) (.slice A5 tl.length c5) tl.length (strv tl) rfl O5.out w5.heap.size A1 nodes.length c1 (strv nodes) rfl (HN.out _ (HB1.out.nxt C5.out)) (strv_one _) (by simp only [maxLen]; omega) (by omega) hb5s ?_; intro v6 w6 own6 hg6 _; obtain ⟨A6, c6, rfl, _, _, _⟩ := own_form own6; have O6 := Lib.hid (And.intro own6 hg6); clear own6 hg6)
      have C6 : Hid (Below w1.heap.size w1 w6) := Lib.hid (C5.out.grown O6.out.2 C5.out.size (fun k hk => Nat.le_trans C4.out.size (O5.out.lt k hk).1))
      have R6 : Hid (Reads w6 w6.heap.size 1 A6 (tl ++ nodes).length (strv (tl ++ nodes))) := Lib.hid (by
        have := Reads.of_own O6.out.1
        rw [List.length_append]
        unfold strv at this ⊢
        rwa [List.map_append])
      have HU := Lib.hid (ref04_Unlike w6 (tl ++ nodes) A6 c6 R6.out (by rw [List.length_append]; omega) (fun x hx => by
        rcases List.mem_append.1 hx with h | h
        · have := H700.out x h; omega
        · have := HFw.out.2 x h; omega))
      rw [hun.out, List.length_append] at HU
      clear htl hnl
      go_wp2_with fail
      refine HU.out.mono ?_
      rintro e w7 ⟨rfl, hb7⟩
      go_wp2_with fail
      exact HP.out _ (HB1.out.nxt (C6.out.nxt hb7))
    · clear HZ
      go_wp2_with fail
      exact HP.out _ (HB1.out.nxt C4.out)
end Go.Proofs.YtefcmigbdfeaiaaDoor
