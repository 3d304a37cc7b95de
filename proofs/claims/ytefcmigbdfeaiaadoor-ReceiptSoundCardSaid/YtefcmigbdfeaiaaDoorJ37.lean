import Derived.Test.YtefcmigbdfeaiaaDoorJ31
import Derived.Test.YtefcmigbdfeaiaaDoorJ36
set_option linter.unusedSimpArgs false
set_option linter.unusedVariables false
namespace Go.Proofs.YtefcmigbdfeaiaaDoor
set_option linter.unusedVariables false
open Go.RowKit Go.Instr
attribute [local go_sem] ba_get ByteArray.mk_append_mk
def sums1 (l : List (List UInt8)) : List (List UInt8) := l.map fun s => shaW (1 :: s)
def oddAt (l : List (List UInt8)) (i : Nat) (k : Nat) : Bool := decide ((sums1 l).getD i [] = (sums1 l).getD k []) && !decide (l.getD i [] = l.getD k [])
def oddTo (l : List (List UInt8)) (i k : Nat) : Bool := (List.range k).any fun j => oddAt l i j
def unlikeTo (l : List (List UInt8)) (n : Nat) : Bool := (List.range n).any fun i => oddTo l i i
def unlikeW (l : List (List UInt8)) : Bool := unlikeTo l l.length
theorem oddTo_succ (l : List (List UInt8)) (i k : Nat) : oddTo l i (k + 1) = (oddTo l i k || oddAt l i k) := by simp [oddTo, List.range_succ]
theorem unlikeTo_succ (l : List (List UInt8)) (n : Nat) : unlikeTo l (n + 1) = (unlikeTo l n || oddTo l n n) := by simp [unlikeTo, List.range_succ]
theorem oddTo_mono {l : List (List UInt8)} {i k m : Nat} (h : oddTo l i k = true) (hm : k ≤ m) : oddTo l i m = true := by
  unfold oddTo at h ⊢
  rw [List.any_eq_true] at h ⊢
  obtain ⟨x, hx, h⟩ := h
  exact ⟨x, by rw [List.mem_range] at hx ⊢; omega, h⟩
theorem unlikeTo_mono {l : List (List UInt8)} {k m : Nat} (h : unlikeTo l k = true) (hm : k ≤ m) : unlikeTo l m = true := by
  unfold unlikeTo at h ⊢
  rw [List.any_eq_true] at h ⊢
  obtain ⟨x, hx, h⟩ := h
  exact ⟨x, by rw [List.mem_range] at hx ⊢; omega, h⟩
theorem sums1_at {l : List (List UInt8)} {i : Nat} (h : i < l.length) : (sums1 l).getD i [] = shaW (1 :: l[i]) := by
  unfold sums1
  rw [List.getD_eq_getElem?_getD, List.getElem?_map, List.getElem?_eq_getElem h, Option.map_some, Option.getD_some]
theorem getD_at {l : List (List UInt8)} {i : Nat} (h : i < l.length) : l.getD i [] = l[i] := by
  rw [List.getD_eq_getElem?_getD, List.getElem?_eq_getElem h]; rfl
theorem unlikeW_of {l : List (List UInt8)} {x y : List UInt8} (hx : x ∈ l) (hy : y ∈ l) (hne : x ≠ y) (hs : shaW (1 :: x) = shaW (1 :: y)) : unlikeW l = true := by
  obtain ⟨i, hi, rfl⟩ := List.getElem_of_mem hx
  obtain ⟨j, hj, rfl⟩ := List.getElem_of_mem hy
  have key : ∀ i j (hi : i < l.length) (hj : j < l.length), l[i] ≠ l[j] → shaW (1 :: l[i]) = shaW (1 :: l[j]) → j < i → unlikeW l = true := by
    intro i j hi hj hne hs hlt
    unfold unlikeW unlikeTo
    rw [List.any_eq_true]
    refine ⟨i, List.mem_range.2 hi, ?_⟩
    unfold oddTo
    rw [List.any_eq_true]
    refine ⟨j, List.mem_range.2 hlt, ?_⟩
    unfold oddAt
    rw [sums1_at hi, sums1_at hj, getD_at hi, getD_at hj, decide_eq_true hs, decide_eq_false hne]
    rfl
  rcases Nat.lt_trichotomy i j with h | h | h
  · exact key j i hj hi (Ne.symm hne) hs.symm h
  · subst h; exact absurd rfl hne
  · exact key i j hi hj hne hs h
end Go.Proofs.YtefcmigbdfeaiaaDoor

namespace Go.Proofs.YtefcmigbdfeaiaaDoor
set_option linter.unusedVariables false
open Go.RowKit Go.Instr
attribute [local go_sem] ba_get ByteArray.mk_append_mk
theorem sums1_take (l : List (List UInt8)) (i : Nat) (h : i < l.length) : sums1 (l.take (i + 1)) = sums1 (l.take i) ++ [shaW (1 :: l[i])] := by
  unfold sums1
  rw [List.take_succ_eq_append_getElem h, List.map_append]
  rfl
theorem sums1_len (l : List (List UInt8)) : (sums1 l).length = l.length := by unfold sums1; rw [List.length_map]
theorem oddAt_eq {l : List (List UInt8)} {i k : Nat} (hi : i < l.length) (hk : k < l.length) : oddAt l i k = (((sums1 l)[i]'(by rw [sums1_len]; exact hi) == (sums1 l)[k]'(by rw [sums1_len]; exact hk)) && !(l[i] == l[k])) := by
  unfold oddAt
  rw [getD_at hi, getD_at hk, getD_at (l := sums1 l) (by rw [sums1_len]; exact hi), getD_at (l := sums1 l) (by rw [sums1_len]; exact hk)]
  congr 1
  · generalize (sums1 l)[i]'(by rw [sums1_len]; exact hi) = a
    generalize (sums1 l)[k]'(by rw [sums1_len]; exact hk) = b
    by_cases h : a = b <;> simp [h]
  · generalize l[i] = a
    generalize l[k] = b
    by_cases h : a = b <;> simp [h]
set_option maxRecDepth 100000 in
set_option maxHeartbeats 2000000 in
theorem ref04_Unlike (w : World) (l : List (List UInt8)) (A : Option Addr) (c : Nat) (HR : Reads w w.heap.size 1 A l.length (strv l)) (hn : l.length ≤ 200000) (hs : ∀ x ∈ l, x.length ≤ 900000) :
    Calls Tryd.prog 33 #[.int .i64 1, .slice A l.length c] w (Ret w (.bool (unlikeW l))) := by
  have HP : Hid (∀ b w', unlikeW l = b → Below w.heap.size w w' → Ret w (.bool (unlikeW l)) (.returned (.bool b)) w') := Lib.hid (fun b w' e h => ⟨by rw [e], h⟩)
  generalize Ret w (.bool (unlikeW l)) = P at HP ⊢
  have HRR := Lib.hid HR
  have HS := Lib.hid hs
  have HL := Lib.hid hn
  clear HR hs hn
  go_enter Tryd.func33, Tryd.ntmps33
  go_wp2_with fail
  refine wp_loop_ghost_k (fun k a wr => ∀ Φ : Act → Prop, (∀ (s2 s3 s4 s7 s8 s9 s10 s11 s12 s13 s14 s15 s16 s17 s18 s19 s20 s21 s22 s23 s24 s25 s26 s27 s28 s29 s30 s31 s32 s33 s34 s35 s36 s37 s38 s39 s40 s41 s42 s43 s44 s45 s46 s47 s48 s49 s50 s51 s52 s53 s54 : Value) (i n c2 : Nat) (O : Option Addr), (i + k = l.length ∧ n = i ∧ wr.ownsRow w.heap.size 9 1 (.slice O n c2) n (strv (sums1 (l.take i))) ∧ Below w.heap.size w wr) → Φ { tmps := #[.int .i64 1, .slice A l.length c, s2, s3, s4, .slice O n c2, .int .i64 (i : Int), s7, s8, s9, s10, s11, s12, s13, s14, s15, s16, s17, s18, s19, s20, s21, s22, s23, s24, s25, s26, s27, s28, s29, s30, s31, s32, s33, s34, s35, s36, s37, s38, s39, s40, s41, s42, s43, s44, s45, s46, s47, s48, s49, s50, s51, s52, s53, s54], defers := [] }) → Φ a) (l.length) ?_ ?_
  · refine fun Φ hΦ => hΦ _ _ _ _ _ _ _ _ _ _ _ _ _ _ _ _ _ _ _ _ _ _ _ _ _ _ _ _ _ _ _ _ _ _ _ _ _ _ _ _ _ _ _ _ _ _ _ _ _ _ _ (0) (0) (0) (none) ?_
    exact ⟨by omega, rfl, World.ownsRow_nil _ _ _ _, Below.refl _ _⟩
  · intro k1 a1 wr1 hI1 J1 K1 hJ1 hK1
    refine hI1 (fun a => Code.wp _ _ _ a _) ?_
    clear hI1 a1
    intro s0 s1 s2 s3 s4 s5 s6 s7 s8 s9 s10 s11 s12 s13 s14 s15 s16 s17 s18 s19 s20 s21 s22 s23 s24 s25 s26 s27 s28 s29 s30 s31 s32 s33 s34 s35 s36 s37 s38 s39 s40 s41 s42 s43 s44 s45 s46 s47 s48 s49 s50 i n c2 O hrel
    show Code.wp _ _ _ _ _
    obtain ⟨h1, rfl, own, hb⟩ := hrel
    by_cases hi : n < l.length
    · obtain ⟨ad, off, rfl, hbl, hcell⟩ := few_cell HRR.out hi
      have q0 := hcell _ hb
      have HSn : Hid (strv (sums1 (l.take (n + 1))) = strv (sums1 (l.take n)) ++ [.string ⟨(shaW (1 :: l[n])).toArray⟩]) := Lib.hid (by rw [sums1_take l n hi]; simp [strv])
      have hxl := HS.out _ (List.getElem_mem hi)
      have hi1 : (n : Int) < l.length := by omega
      have hi0 : (0 : Int) ≤ n := by omega
      have hl := HL.out
      have hn3 : n ≤ 200000 := by omega
      have HI := Lib.hid h1
      have OW := Lib.hid (And.intro own hb)
      clear hcell h1 own hb
      generalize l[n] = x at *
      have HTag : Hid (∀ W, Calls Tryd.prog 68 #[.int .i64 1, .string ⟨x.toArray⟩] W fun e w' => e = .returned (.string ⟨(shaW (1 :: x)).toArray⟩) ∧ Below W.heap.size W w') := Lib.hid (fun W => ref04_Tagged W 1 (by omega) x (by omega))
      generalize shaW (1 :: x) = s at *
      have hone : ∀ u ∈ [Value.string ⟨s.toArray⟩], u.oneCell' = true := by intro u hu; rw [List.mem_singleton] at hu; subst hu; rfl
      generalize strv (sums1 (l.take n)) = SV at *
      go_wp2_with fail
      refine (HTag.out _).mono ?_
      rintro e w2 ⟨rfl, hb2⟩
      have OW2 := Lib.hid (And.intro (own_below OW.out.1 hb2) (OW.out.2.nxt hb2))
      clear hb2 q0
      go_wp2_with (at_builtin; refine wpList_append_new w2 9 [.string ⟨s.toArray⟩] rfl _ _ 36 rfl w.heap.size 1 16 _ info_str Tryd.underlying36 rfl (by decide) (.slice O n c2) n SV rfl OW2.out.1 1 1 rfl rfl hone (by simp only [maxLen]; omega) (by omega) w.heap.size w OW2.out.2 (Nat.le_refl _) OW2.out.2.size ?_; intro v3 w3 own3 hb3 hg3 _ _; obtain ⟨A3, c3, rfl, _, _, _⟩ := own_form own3; have O3 := Lib.hid (And.intro own3 hb3); clear own3 hb3 hg3)
      refine Handed.intro (l.length - (n + 1)) ?_ (hJ1 _ _ _ (fun Φ hΦ => hΦ _ _ _ _ _ _ _ _ _ _ _ _ _ _ _ _ _ _ _ _ _ _ _ _ _ _ _ _ _ _ _ _ _ _ _ _ _ _ _ _ _ _ _ _ _ _ _ _ _ _ _ (n + 1) (n + 1) (c3) (A3) ?_))
      · have := HI.out; omega
      · refine ⟨by have := HI.out; omega, rfl, ?_, O3.out.2⟩
        rw [HSn.out]
        exact O3.out.1
    · have hi2 : ((n : Int) < l.length) = False := by simp; omega
      obtain rfl : n = l.length := by omega
      rw [List.take_of_length_le (Nat.le_refl _)] at own
      have RS := Lib.hid (Reads.of_own own)
      have HB := Lib.hid hb
      clear own hb h1 hi
      go_wp2_with fail
      refine wp_loop_ghost_k (fun k a wr => ∀ Φ : Act → Prop, (∀ (s2 s3 s4 s6 s8 s9 s10 s11 s12 s13 s14 s15 s16 s17 s18 s19 s20 s21 s22 s23 s24 s25 s26 s27 s28 s29 s30 s31 s32 s33 s34 s35 s36 s37 s38 s39 s40 s41 s42 s43 s44 s45 s46 s47 s48 s49 s50 s51 s52 s53 s54 : Value) (i : Nat), (i + k = l.length ∧ unlikeTo l i = false ∧ Below wr1.heap.size wr1 wr) → Φ { tmps := #[.int .i64 1, .slice A l.length c, s2, s3, s4, .slice O l.length c2, s6, .int .i64 (i : Int), s8, s9, s10, s11, s12, s13, s14, s15, s16, s17, s18, s19, s20, s21, s22, s23, s24, s25, s26, s27, s28, s29, s30, s31, s32, s33, s34, s35, s36, s37, s38, s39, s40, s41, s42, s43, s44, s45, s46, s47, s48, s49, s50, s51, s52, s53, s54], defers := [] }) → Φ a) (l.length) ?_ ?_
      · refine fun Φ hΦ => hΦ _ _ _ _ _ _ _ _ _ _ _ _ _ _ _ _ _ _ _ _ _ _ _ _ _ _ _ _ _ _ _ _ _ _ _ _ _ _ _ _ _ _ _ _ _ _ _ _ _ _ _ (0) ?_
        exact ⟨by omega, rfl, Below.refl _ _⟩
      · intro k2 a2 wr2 hI2 J2 K2 hJ2 hK2
        refine hI2 (fun a => Code.wp _ _ _ a _) ?_
        clear hI2 a2
        intro s0 s1 s2 s3 s4 s5 s6 s7 s8 s9 s10 s11 s12 s13 s14 s15 s16 s17 s18 s19 s20 s21 s22 s23 s24 s25 s26 s27 s28 s29 s30 s31 s32 s33 s34 s35 s36 s37 s38 s39 s40 s41 s42 s43 s44 s45 s46 s47 s48 s49 s50 i hrel
        show Code.wp _ _ _ _ _
        obtain ⟨h1, h2, hb⟩ := hrel
        by_cases hi : i < l.length
        · have hi1 : (i : Int) < l.length := by omega
          have hi0 : (0 : Int) ≤ i := by omega
          have hl := HL.out
          have HI := Lib.hid (And.intro h1 (And.intro h2 hb))
          clear h1 h2 hb
          go_wp2_with fail
          refine wp_loop_ghost_k (fun k a wr => ∀ Φ : Act → Prop, (∀ (s2 s3 s4 s6 s9 s10 s11 s12 s13 s14 s15 s16 s17 s18 s19 s20 s21 s22 s23 s24 s25 s26 s27 s28 s29 s30 s31 s32 s33 s34 s35 s36 s37 s38 s39 s40 s41 s42 s43 s44 s45 s46 s47 s48 s49 s50 s51 s52 s53 s54 : Value) (j : Nat), (j + k = i ∧ oddTo l i j = false ∧ Below wr1.heap.size wr1 wr) → Φ { tmps := #[.int .i64 1, .slice A l.length c, s2, s3, s4, .slice O l.length c2, s6, .int .i64 (i : Int), .int .i64 (j : Int), s9, s10, s11, s12, s13, s14, s15, s16, s17, s18, s19, s20, s21, s22, s23, s24, s25, s26, s27, s28, s29, s30, s31, s32, s33, s34, s35, s36, s37, s38, s39, s40, s41, s42, s43, s44, s45, s46, s47, s48, s49, s50, s51, s52, s53, s54], defers := [] }) → Φ a) (i) ?_ ?_
          · refine fun Φ hΦ => hΦ _ _ _ _ _ _ _ _ _ _ _ _ _ _ _ _ _ _ _ _ _ _ _ _ _ _ _ _ _ _ _ _ _ _ _ _ _ _ _ _ _ _ _ _ _ _ _ _ _ _ (0) ?_
            exact ⟨by omega, rfl, HI.out.2.2⟩
          · intro k3 a3 wr3 hI3 J3 K3 hJ3 hK3
            refine hI3 (fun a => Code.wp _ _ _ a _) ?_
            clear hI3 a3
            intro s0 s1 s2 s3 s4 s5 s6 s7 s8 s9 s10 s11 s12 s13 s14 s15 s16 s17 s18 s19 s20 s21 s22 s23 s24 s25 s26 s27 s28 s29 s30 s31 s32 s33 s34 s35 s36 s37 s38 s39 s40 s41 s42 s43 s44 s45 s46 s47 s48 s49 j hrel
            show Code.wp _ _ _ _ _
            obtain ⟨g1, g2, gb⟩ := hrel
            by_cases hj : j < i
            · have hjl : j < l.length := by omega
              have hsl := sums1_len l
              have hj1 : (j : Int) < i := by omega
              have hj2 : (j : Int) < l.length := by omega
              have hj0 : (0 : Int) ≤ j := by omega
              obtain ⟨ad, off, rfl, hbl, hcell⟩ := few_cell HRR.out hi
              obtain ⟨ad', off', hA', _, hcell'⟩ := few_cell HRR.out hjl
              injection hA' with hA'
              injection hA' with ha1 ha2
              subst ha1 ha2
              have RS2 := RS.out
              rw [← hsl] at RS2
              obtain ⟨bd, bff, rfl, hbb, scell⟩ := few_cell RS2 (i := i) (by rw [sums1_len]; exact hi)
              obtain ⟨bd', bff', hB', _, scell'⟩ := few_cell RS2 (i := j) (by rw [sums1_len]; exact hjl)
              injection hB' with hB'
              injection hB' with hb1 hb2
              subst hb1 hb2
              have GB := Lib.hid gb
              have q1 := hcell _ (HB.out.nxt gb)
              have q2 := hcell' _ (HB.out.nxt gb)
              have q3 := scell _ gb
              have q4 := scell' _ gb
              have hodd := oddAt_eq hi hjl
              have hos := oddTo_succ l i j
              rw [g2, Bool.false_or, hodd] at hos
              have HJ := Lib.hid g1
              have HO := Lib.hid hos
              clear hodd hos g1 g2 gb hcell hcell' scell scell' RS2
              generalize (sums1 l)[i]'(by rw [sums1_len]; exact hi) = si at *
              generalize (sums1 l)[j]'(by rw [sums1_len]; exact hjl) = sj at *
              generalize l[i] = li at *
              generalize l[j] = lj at *
              cases e1 : (si == sj) with
              | false =>
                rw [e1, Bool.false_and] at HO
                clear q1 q2
                go_wp2_with fail
                go_quiet (fail)
                go_wp2_with fail
                refine Handed.intro (i - (j + 1)) ?_ (hJ3 _ _ _ (fun Φ hΦ => hΦ _ _ _ _ _ _ _ _ _ _ _ _ _ _ _ _ _ _ _ _ _ _ _ _ _ _ _ _ _ _ _ _ _ _ _ _ _ _ _ _ _ _ _ _ _ _ _ _ _ _ (j + 1) ?_))
                · have := HJ.out; omega
                · exact ⟨by have := HJ.out; omega, HO.out, below_drewN GB.out _⟩
              | true =>
                rw [e1, Bool.true_and] at HO
                cases e2 : (li == lj) with
                | true =>
                  rw [e2] at HO
                  go_wp2_with fail
                  go_quiet (fail)
                  go_wp2_with fail
                  refine Handed.intro (i - (j + 1)) ?_ (hJ3 _ _ _ (fun Φ hΦ => hΦ _ _ _ _ _ _ _ _ _ _ _ _ _ _ _ _ _ _ _ _ _ _ _ _ _ _ _ _ _ _ _ _ _ _ _ _ _ _ _ _ _ _ _ _ _ _ _ _ _ _ (j + 1) ?_))
                  · have := HJ.out; omega
                  · exact ⟨by have := HJ.out; omega, HO.out, below_drewN GB.out _⟩
                | false =>
                  rw [e2] at HO
                  go_wp2_with fail
                  go_quiet (fail)
                  go_wp2_with fail
                  refine HP.out true _ ?_ (below_drewN (HB.out.nxt GB.out) _)
                  have a1 := oddTo_mono (m := i) HO.out (by omega)
                  have a2 : unlikeTo l (i + 1) = true := by rw [unlikeTo_succ, a1, Bool.or_true]
                  exact unlikeTo_mono a2 (by omega)
            · have hj1 : ((j : Int) < i) = False := by simp; omega
              obtain rfl : j = i := by omega
              have HG := Lib.hid (And.intro g2 gb)
              clear g1 g2 gb hj
              go_wp2_with fail
              refine Handed.intro (l.length - (j + 1)) ?_ (hJ2 _ _ _ (fun Φ hΦ => hΦ _ _ _ _ _ _ _ _ _ _ _ _ _ _ _ _ _ _ _ _ _ _ _ _ _ _ _ _ _ _ _ _ _ _ _ _ _ _ _ _ _ _ _ _ _ _ _ _ _ _ _ (j + 1) ?_))
              · have := HI.out.1; omega
              · exact ⟨by have := HI.out.1; omega, by rw [unlikeTo_succ, HI.out.2.1, HG.out.1]; rfl, HG.out.2⟩
        · have hi1 : ((i : Int) < l.length) = False := by simp; omega
          obtain rfl : i = l.length := by omega
          have HE := Lib.hid (And.intro h2 hb)
          clear h1 h2 hb hi
          go_wp2_with fail
          exact HP.out false _ HE.out.1 (HB.out.nxt HE.out.2)
end Go.Proofs.YtefcmigbdfeaiaaDoor
