import Derived.Test.YtcjafcbekegmlaaDoorJ26
import Derived.Test.YtcjafcbekegmlaaDoorJ30
import Derived.Test.YtcjafcbekegmlaaDoorJ23
import Derived.Test.YtcjafcbekegmlaaDoorJ22
set_option linter.unusedSimpArgs false
set_option linter.unusedVariables false
namespace Go.Proofs.YtcjafcbekegmlaaDoor
set_option linter.unusedVariables false
open Go.RowKit Go.Instr
attribute [local go_sem] ba_get ByteArray.mk_append_mk
theorem grown_set1 {w w' : World} {g : Nat} (h : w.grownBy w' (some g)) (i : Nat) (v : Value) : w.grownBy (w'.setCell ⟨g, i, none⟩ v) (some g) :=
  ⟨h.os, h.tape, h.output, by rw [World.size_setCell]; exact h.size, fun k hk hne => (Below.heap_setCell w' ⟨g, i, none⟩ v k (fun e => hne (by rw [e]))).trans (h.block k hk hne)⟩
end Go.Proofs.YtcjafcbekegmlaaDoor

namespace Go.Proofs.YtcjafcbekegmlaaDoor
set_option linter.unusedVariables false
open Go.RowKit Go.Instr
attribute [local go_sem] ba_get ByteArray.mk_append_mk
def PutIEnd (w : World) (r : List Trie.KV × Nat) (e : Ending) (w' : World) : Prop :=
  ∃ A n c, e = .returned (.tuple #[.slice A n c, .int .i64 (r.2 : Int)]) ∧ n = r.1.length ∧ n ≤ c ∧ w'.ownsRow w.heap.size 50 2 (.slice A n c) n (icells r.1) ∧ Below w.heap.size w w'
set_option maxRecDepth 100000 in
set_option maxHeartbeats 2000000 in
theorem ref10_Put (w : World) (A : Option Addr) (c : Nat) (l : List Trie.KV) (HR : Reads w w.heap.size 2 A l.length (icells l)) (hc : l.length ≤ c) (hl : l.length ≤ 1000) (key value : List UInt8) (hk : key.length ≤ 9223372036854775807) (hv : value.length ≤ 9223372036854775807) :
    Calls Tryd.prog 20 #[.slice A l.length c, .string ⟨key.toArray⟩, .string ⟨value.toArray⟩] w (PutIEnd w (Trie.rput l key value)) := by
  have HP : Hid (∀ l2 c2, Trie.rput l key value = (l2, c2) → ∀ A n c w', n = l2.length → n ≤ c → w'.ownsRow w.heap.size 50 2 (.slice A n c) n (icells l2) → Below w.heap.size w w' → PutIEnd w (Trie.rput l key value) (.returned (.tuple #[.slice A n c, .int .i64 (c2 : Nat)])) w') := Lib.hid (by
    intro l2 c2 e A n c w' h1 h2 h3 h4
    unfold PutIEnd
    rw [e]
    exact ⟨A, n, c, rfl, h1, h2, h3, h4⟩)
  generalize PutIEnd w (Trie.rput l key value) = P at HP ⊢
  have HKy := Lib.hid (ref10_Keyed key hk w)
  have HA := Lib.hid (ref10_At w A c l HR (by omega) key)
  have hat := Trie.atI_le key l
  have HRR := Lib.hid HR
  obtain ⟨i0, hi0, hz0, hz1, hz2⟩ := info_parts info_item
  have e9 : ((1024 : Int) ≤ l.length) = False := by simp; omega
  have HNil : Hid (∀ W : World, W.ownsRow w.heap.size 50 2 (.slice none 0 0) 0 (icells [])) := Lib.hid (fun W => World.ownsRow_nil _ _ _ _)
  clear HR
  cases hkey : Trie.keyedW key with
  | false =>
    have T := Lib.hid (HP.out [] 1 (by simp [Trie.rput, hkey]) none 0 0 w rfl (Nat.le_refl _) (HNil.out _) (Below.refl _ _))
    rw [hkey] at HKy
    clear HP HA hat hkey
    go_enter Tryd.func20, Tryd.ntmps20
    go_wp2_with (go_at_call 35; refine HKy.out.mono ?_; rintro e w1 ⟨rfl, rfl⟩)
    exact T.out
  | true =>
    rw [hkey] at HKy
    by_cases h0 : value = []
    · subst h0
      have T := Lib.hid (HP.out [] 2 (by simp [Trie.rput, hkey]) none 0 0)
      unfold AtIEnd at HA
      clear HP hat hkey
      generalize (Trie.atI key l).1 = i at *
      generalize (Trie.atI key l).2 = b at *
      go_enter Tryd.func20, Tryd.ntmps20
      go_wp2_with (first | (go_at_call 35; refine HKy.out.mono ?_; rintro e w1 ⟨rfl, rfl⟩) | (go_at_call 36; refine HA.out.mono ?_; rintro e w2 ⟨rfl, hb⟩))
      exact T.out _ rfl (Nat.le_refl _) (HNil.out _) hb
    · have hv1 : ((value.length : Int) < 1) = False := by have := List.length_pos_iff.2 h0; simp; omega
      by_cases h32 : 32 < value.length
      · have e6 : ((32 : Int) < value.length) = True := by simp; omega
        have T := Lib.hid (HP.out [] 2 (by simp [Trie.rput, hkey, h32]) none 0 0)
        unfold AtIEnd at HA
        clear HP hat hkey h0 h32
        generalize (Trie.atI key l).1 = i at *
        generalize (Trie.atI key l).2 = b at *
        go_enter Tryd.func20, Tryd.ntmps20
        go_wp2_with (first | (go_at_call 35; refine HKy.out.mono ?_; rintro e w1 ⟨rfl, rfl⟩) | (go_at_call 36; refine HA.out.mono ?_; rintro e w2 ⟨rfl, hb⟩))
        exact T.out _ rfl (Nat.le_refl _) (HNil.out _) hb
      · have e6 : ((32 : Int) < value.length) = False := by simp; omega
        have hvb : (value.isEmpty || decide (32 < value.length)) = false := by simp [h0]; omega
        cases hb : (Trie.atI key l).2 with
        | false =>
          have HE := Lib.hid (HP.out (l.take (Trie.atI key l).1 ++ [(key, value)] ++ l.drop (Trie.atI key l).1) 0 (by simp [Trie.rput, hkey, hvb, hb]))
          unfold AtIEnd at HA
          rw [hb] at HA
          have hii := hat.1
          clear HP hkey h0 h32 hat hb hvb
          generalize (Trie.atI key l).1 = i at *
          have hic : (i : Int) ≤ c := by omega
          have hil : (i : Int) ≤ l.length := by omega
          have hi00 : (0 : Int) ≤ i := by omega
          obtain ⟨A1, c1, SL1, RD1⟩ := it_cut_to A l l.length c i rfl (by omega) hc
          obtain ⟨A2, c2, SL2, RD2⟩ := it_cut_from A l l.length c i rfl (by omega) hc
          have HSR : Hid (icells (l.take i) ++ [.string ⟨key.toArray⟩, .string ⟨value.toArray⟩] ++ icells (l.drop i) = icells (l.take i ++ [(key, value)] ++ l.drop i)) := Lib.hid (by rw [icells_append, icells_append]; rfl)
          have HSUM : Hid (i + 1 + (l.length - i) = (l.take i ++ [(key, value)] ++ l.drop i).length) := Lib.hid (by simp only [List.length_append, List.length_take, List.length_drop, List.length_cons, List.length_nil]; omega)
          have hlm : i + 1 + (l.length - i) ≤ 1001 := by omega
          go_enter Tryd.func20, Tryd.ntmps20
          go_wp2_with fail
          refine HKy.out.mono ?_
          rintro e w1 ⟨rfl, rfl⟩
          go_wp2_with fail
          refine HA.out.mono ?_
          rintro e w1 ⟨rfl, hb1⟩
          have R1 := RD1 w1 _ (HRR.out.below hb1)
          go_wp2_with (first
            | (at_builtin; refine wpList_append_any w1 rfl _ _ 22 rfl w.heap.size 50 i0 _ 2 32 Tryd.underlying22 hi0 hz0 hz1 hz2 rfl (by decide) (.slice none 0 0) 0 [] rfl (World.ownsRow_nil _ _ _ _) w.heap.size A1 i c1 (icells (l.take i)) rfl R1 (icells_one _) (by simp only [maxLen]; omega) (by omega) hb1.size ?_; intro v2 w2 own2 hg2 ho2; rw [Nat.zero_add, List.nil_append] at own2; obtain ⟨Av2, cv2, rfl, _, _, _⟩ := own_form own2; have hb2 : Below w.heap.size w w2 := hb1.grown hg2 hb1.size (by intro k e; cases e); clear hg2 ho2 R1)
            | (at_builtin; refine wpList_append_new w2 50 [.string ⟨key.toArray⟩, .string ⟨value.toArray⟩] rfl _ _ 22 rfl w.heap.size 2 32 _ info_item Tryd.underlying22 rfl (by decide) (.slice Av2 i cv2) i (icells (l.take i)) rfl own2 1 1 rfl rfl (by simp [Value.oneCell']) (by simp only [maxLen]; omega) (by omega) w.heap.size w hb2 (Nat.le_refl _) hb2.size ?_; intro v3 w3 own3 hb3 _ _ _; obtain ⟨Av3, cv3, rfl, _, _, hge3⟩ := own_form own3; have R2 := RD2 w3 _ (HRR.out.below hb3); have lt3 := own3.lt)
            | (at_builtin; refine wpList_append_any w3 rfl _ _ 22 rfl w.heap.size 50 i0 _ 2 32 Tryd.underlying22 hi0 hz0 hz1 hz2 rfl (by decide) (.slice Av3 (i + 1) cv3) (i + 1) (icells (l.take i) ++ [.string ⟨key.toArray⟩, .string ⟨value.toArray⟩]) rfl own3 w.heap.size A2 (l.length - i) c2 (icells (l.drop (i))) rfl R2 (icells_one _) (by simp only [maxLen]; omega) (by omega) hb3.size ?_; intro v4 w4 own4 hg4 _; obtain ⟨Av4, cv4, rfl, _, hc4, _⟩ := own_form own4; have hb4 : Below w.heap.size w w4 := hb3.grown hg4 hb3.size (fun k e => (lt3 k e).1); clear hg4 R2))
          rw [HSR.out] at own4
          exact HE.out _ _ _ _ HSUM.out hc4 own4 hb4
        | true =>
          have HE := Lib.hid (HP.out (l.take (Trie.atI key l).1 ++ [(key, value)] ++ l.drop ((Trie.atI key l).1 + 1)) 0 (by simp [Trie.rput, hkey, hvb, hb]))
          unfold AtIEnd at HA
          rw [hb] at HA
          have hii := hat.2 hb
          clear HP hkey h0 h32 hat hb hvb
          generalize (Trie.atI key l).1 = i at *
          have hic : (i : Int) ≤ c := by omega
          have hil : (i : Int) ≤ l.length := by omega
          have hi2 : (i : Int) + 1 ≤ l.length := by omega
          have hi00 : (0 : Int) ≤ i := by omega
          obtain ⟨A1, c1, SL1, RD1⟩ := it_cut_to A l l.length c i rfl (by omega) hc
          obtain ⟨A2, c2, SL2, RD2⟩ := it_cut_from A l l.length c (i + 1) rfl (by omega) hc
          have SL2' := SL2
          rw [show ((i + 1 : Nat) : Int) = (i : Int) + 1 from rfl] at SL2'
          have HSR : Hid (icells (l.take i) ++ [.string ⟨key.toArray⟩, .string ⟨value.toArray⟩] ++ icells (l.drop (i + 1)) = icells (l.take i ++ [(key, value)] ++ l.drop (i + 1))) := Lib.hid (by rw [icells_append, icells_append]; rfl)
          have HSUM : Hid (i + 1 + (l.length - (i + 1)) = (l.take i ++ [(key, value)] ++ l.drop (i + 1)).length) := Lib.hid (by simp only [List.length_append, List.length_take, List.length_drop, List.length_cons, List.length_nil]; omega)
          have hlm : i + 1 + (l.length - (i + 1)) ≤ 1001 := by omega
          go_enter Tryd.func20, Tryd.ntmps20
          go_wp2_with fail
          refine HKy.out.mono ?_
          rintro e w1 ⟨rfl, rfl⟩
          go_wp2_with fail
          refine HA.out.mono ?_
          rintro e w1 ⟨rfl, hb1⟩
          have R1 := RD1 w1 _ (HRR.out.below hb1)
          go_wp2_with (first
            | (at_builtin; refine wpList_append_any w1 rfl _ _ 22 rfl w.heap.size 50 i0 _ 2 32 Tryd.underlying22 hi0 hz0 hz1 hz2 rfl (by decide) (.slice none 0 0) 0 [] rfl (World.ownsRow_nil _ _ _ _) w.heap.size A1 i c1 (icells (l.take i)) rfl R1 (icells_one _) (by simp only [maxLen]; omega) (by omega) hb1.size ?_; intro v2 w2 own2 hg2 ho2; rw [Nat.zero_add, List.nil_append] at own2; obtain ⟨Av2, cv2, rfl, _, _, _⟩ := own_form own2; have hb2 : Below w.heap.size w w2 := hb1.grown hg2 hb1.size (by intro k e; cases e); clear hg2 ho2 R1)
            | (at_builtin; refine wpList_append_new w2 50 [.string ⟨key.toArray⟩, .string ⟨value.toArray⟩] rfl _ _ 22 rfl w.heap.size 2 32 _ info_item Tryd.underlying22 rfl (by decide) (.slice Av2 i cv2) i (icells (l.take i)) rfl own2 1 1 rfl rfl (by simp [Value.oneCell']) (by simp only [maxLen]; omega) (by omega) w.heap.size w hb2 (Nat.le_refl _) hb2.size ?_; intro v3 w3 own3 hb3 _ _ _; obtain ⟨Av3, cv3, rfl, _, _, hge3⟩ := own_form own3; have R2 := RD2 w3 _ (HRR.out.below hb3); have lt3 := own3.lt)
            | (at_builtin; refine wpList_append_any w3 rfl _ _ 22 rfl w.heap.size 50 i0 _ 2 32 Tryd.underlying22 hi0 hz0 hz1 hz2 rfl (by decide) (.slice Av3 (i + 1) cv3) (i + 1) (icells (l.take i) ++ [.string ⟨key.toArray⟩, .string ⟨value.toArray⟩]) rfl own3 w.heap.size A2 (l.length - (i + 1)) c2 (icells (l.drop ((i + 1)))) rfl R2 (icells_one _) (by simp only [maxLen]; omega) (by omega) hb3.size ?_; intro v4 w4 own4 hg4 _; obtain ⟨Av4, cv4, rfl, _, hc4, _⟩ := own_form own4; have hb4 : Below w.heap.size w w4 := hb3.grown hg4 hb3.size (fun k e => (lt3 k e).1); clear hg4 R2))
          rw [HSR.out] at own4
          exact HE.out _ _ _ _ HSUM.out hc4 own4 hb4
end Go.Proofs.YtcjafcbekegmlaaDoor

namespace Go.Proofs.YtcjafcbekegmlaaDoor
set_option linter.unusedVariables false
open Go.RowKit Go.Instr
namespace Trie
end Trie
theorem told_700m {t : Trie.T} (h : Trie.Good t) (may : List UInt8 → Bool) : ∀ x ∈ toldW may t, x.length ≤ 700 := by
  have key : ∀ (t : Trie.T) (pl : List UInt8), Trie.At pl t → ∀ x ∈ Trie.goT may t pl, (Trie.textT x.2).length ≤ 700 := by
    have one : ∀ (t : Trie.T) (pl : List UInt8), Trie.At pl t → t ≠ .nil → (Trie.textT t).length ≤ 700 := fun t pl ha hn => nodeText_len (Trie.sumsT_length t) (Trie.fineT hn ha.wf ha.small)
    intro t
    induction t with
    | nil => intro pl _ x hx; cases hx
    | leaf p v =>
      intro pl ha x hx
      simp only [Trie.goT] at hx
      split at hx
      · rw [List.mem_singleton] at hx
        subst hx
        exact one _ _ ha (by simp)
      · cases hx
    | ext p t ih =>
      intro pl ha x hx
      simp only [Trie.goT] at hx
      split at hx
      · rcases List.mem_cons.1 hx with rfl | hx
        · exact one _ _ ha (by simp)
        · exact ih _ ha.below x hx
      · cases hx
    | branch v kids ih =>
      intro pl ha x hx
      simp only [Trie.goT] at hx
      split at hx
      · rcases List.mem_cons.1 hx with rfl | hx
        · exact one _ _ ha (by simp)
        · obtain ⟨i, _, hx⟩ := List.mem_flatMap.1 hx
          exact ih i _ (ha.kid i) x hx
      · cases hx
  intro x hx
  unfold toldW textsD at hx
  obtain ⟨y, hy, rfl⟩ := List.mem_map.1 hx
  exact key t [] (Trie.At.top h) y hy
end Go.Proofs.YtcjafcbekegmlaaDoor

namespace Go.Proofs.YtcjafcbekegmlaaDoor
set_option linter.unusedVariables false
open Go.RowKit Go.Instr
attribute [local go_sem] ba_get ByteArray.mk_append_mk
theorem sums1_take (l : List (List UInt8)) (i : Nat) (h : i < l.length) : sums1 (l.take (i + 1)) = sums1 (l.take i) ++ [shaW (1 :: l[i])] := by
  unfold sums1
  rw [List.take_succ_eq_append_getElem h, List.map_append]
  rfl
theorem sums1_len (l : List (List UInt8)) : (sums1 l).length = l.length := by unfold sums1; rw [List.length_map]
theorem oddAt_eq {l : List (List UInt8)} {i k : Nat} (hi : i < l.length) (hk : k < l.length) : oddAt l i k = (((sums1 l)[i]'(by rw [sums1_len]; exact hi) == (sums1 l)[k]'(by rw [sums1_len]; exact hk)) && !(l[i] == l[k])) := by
  unfold oddAt
  rw [getD_at hi, getD_at hk, getD_at (l := sums1 l) (by rw [sums1_len]; exact hi), getD_at (l := sums1 l) (by rw [sums1_len]; exact hk)]
  congr 1
  · generalize (sums1 l)[i]'(by rw [sums1_len]; exact hi) = a
    generalize (sums1 l)[k]'(by rw [sums1_len]; exact hk) = b
    by_cases h : a = b <;> simp [h]
  · generalize l[i] = a
    generalize l[k] = b
    by_cases h : a = b <;> simp [h]
set_option maxRecDepth 100000 in
set_option maxHeartbeats 2000000 in
theorem ref04_Unlike (w : World) (l : List (List UInt8)) (A : Option Addr) (c : Nat) (HR : Reads w w.heap.size 1 A l.length (strv l)) (hn : l.length ≤ 200000) (hs : ∀ x ∈ l, x.length ≤ 900000) :
    Calls Tryd.prog 16 #[.int .i64 1, .slice A l.length c] w (Ret w (.bool (unlikeW l))) := by
  have HP : Hid (∀ b w', unlikeW l = b → Below w.heap.size w w' → Ret w (.bool (unlikeW l)) (.returned (.bool b)) w') := Lib.hid (fun b w' e h => ⟨by rw [e], h⟩)
  generalize Ret w (.bool (unlikeW l)) = P at HP ⊢
  have HRR := Lib.hid HR
  have HS := Lib.hid hs
  have HL := Lib.hid hn
  clear HR hs hn
  go_enter Tryd.func16, Tryd.ntmps16
  go_wp2_with fail
  refine wp_loop_ghost_k (fun k a wr => ∀ Φ : Act → Prop, (∀ (s2 s3 s4 s7 s8 s9 s10 s11 s12 s13 s14 s15 s16 s17 s18 s19 s20 s21 s22 s23 s24 s25 s26 s27 s28 s29 s30 s31 s32 s33 s34 s35 s36 s37 s38 s39 s40 s41 s42 s43 s44 s45 s46 s47 s48 s49 s50 s51 s52 s53 s54 : Value) (i n c2 : Nat) (O : Option Addr), (i + k = l.length ∧ n = i ∧ wr.ownsRow w.heap.size 9 1 (.slice O n c2) n (strv (sums1 (l.take i))) ∧ Below w.heap.size w wr) → Φ { tmps := #[.int .i64 1, .slice A l.length c, s2, s3, s4, .slice O n c2, .int .i64 (i : Int), s7, s8, s9, s10, s11, s12, s13, s14, s15, s16, s17, s18, s19, s20, s21, s22, s23, s24, s25, s26, s27, s28, s29, s30, s31, s32, s33, s34, s35, s36, s37, s38, s39, s40, s41, s42, s43, s44, s45, s46, s47, s48, s49, s50, s51, s52, s53, s54], defers := [] }) → Φ a) (l.length) ?_ ?_
  · refine fun Φ hΦ => hΦ _ _ _ _ _ _ _ _ _ _ _ _ _ _ _ _ _ _ _ _ _ _ _ _ _ _ _ _ _ _ _ _ _ _ _ _ _ _ _ _ _ _ _ _ _ _ _ _ _ _ _ (0) (0) (0) (none) ?_
    exact ⟨by omega, rfl, World.ownsRow_nil _ _ _ _, Below.refl _ _⟩
  · intro k1 a1 wr1 hI1 J1 K1 hJ1 hK1
    refine hI1 (fun a => Code.wp _ _ _ a _) ?_
    clear hI1 a1
    intro s0 s1 s2 s3 s4 s5 s6 s7 s8 s9 s10 s11 s12 s13 s14 s15 s16 s17 s18 s19 s20 s21 s22 s23 s24 s25 s26 s27 s28 s29 s30 s31 s32 s33 s34 s35 s36 s37 s38 s39 s40 s41 s42 s43 s44 s45 s46 s47 s48 s49 s50 i n c2 O hrel
    show Code.wp _ _ _ _ _
    obtain ⟨h1, rfl, own, hb⟩ := hrel
    by_cases hi : n < l.length
    · obtain ⟨ad, off, rfl, hbl, hcell⟩ := few_cell HRR.out hi
      have q0 := hcell _ hb
      have HSn : Hid (strv (sums1 (l.take (n + 1))) = strv (sums1 (l.take n)) ++ [.string ⟨(shaW (1 :: l[n])).toArray⟩]) := Lib.hid (by rw [sums1_take l n hi]; simp [strv])
      have hxl := HS.out _ (List.getElem_mem hi)
      have hi1 : (n : Int) < l.length := by omega
      have hi0 : (0 : Int) ≤ n := by omega
      have hl := HL.out
      have hn3 : n ≤ 200000 := by omega
      have HI := Lib.hid h1
      have OW := Lib.hid (And.intro own hb)
      clear hcell h1 own hb
      generalize l[n] = x at *
      have HTag : Hid (∀ W, Calls Tryd.prog 32 #[.int .i64 1, .string ⟨x.toArray⟩] W fun e w' => e = .returned (.string ⟨(shaW (1 :: x)).toArray⟩) ∧ Below W.heap.size W w') := Lib.hid (fun W => ref04_Tagged W 1 (by omega) x (by omega))
      generalize shaW (1 :: x) = s at *
      have hone : ∀ u ∈ [Value.string ⟨s.toArray⟩], u.oneCell' = true := by intro u hu; rw [List.mem_singleton] at hu; subst hu; rfl
      generalize strv (sums1 (l.take n)) = SV at *
      go_wp2_with fail
      refine (HTag.out _).mono ?_
      rintro e w2 ⟨rfl, hb2⟩
      have OW2 := Lib.hid (And.intro (own_below OW.out.1 hb2) (OW.out.2.nxt hb2))
      clear hb2 q0
      go_wp2_with (at_builtin; refine wpList_append_new w2 9 [.string ⟨s.toArray⟩] rfl _ _ 29 rfl w.heap.size 1 16 _ info_str Tryd.underlying29 rfl (by decide) (.slice O n c2) n SV rfl OW2.out.1 1 1 rfl rfl hone (by simp only [maxLen]; omega) (by omega) w.heap.size w OW2.out.2 (Nat.le_refl _) OW2.out.2.size ?_; intro v3 w3 own3 hb3 hg3 _ _; obtain ⟨A3, c3, rfl, _, _, _⟩ := own_form own3; have O3 := Lib.hid (And.intro own3 hb3); clear own3 hb3 hg3)
      refine Handed.intro (l.length - (n + 1)) ?_ (hJ1 _ _ _ (fun Φ hΦ => hΦ _ _ _ _ _ _ _ _ _ _ _ _ _ _ _ _ _ _ _ _ _ _ _ _ _ _ _ _ _ _ _ _ _ _ _ _ _ _ _ _ _ _ _ _ _ _ _ _ _ _ _ (n + 1) (n + 1) (c3) (A3) ?_))
      · have := HI.out; omega
      · refine ⟨by have := HI.out; omega, rfl, ?_, O3.out.2⟩
        rw [HSn.out]
        exact O3.out.1
    · have hi2 : ((n : Int) < l.length) = False := by simp; omega
      obtain rfl : n = l.length := by omega
      rw [List.take_of_length_le (Nat.le_refl _)] at own
      have RS := Lib.hid (Reads.of_own own)
      have HB := Lib.hid hb
      clear own hb h1 hi
      go_wp2_with fail
      refine wp_loop_ghost_k (fun k a wr => ∀ Φ : Act → Prop, (∀ (s2 s3 s4 s6 s8 s9 s10 s11 s12 s13 s14 s15 s16 s17 s18 s19 s20 s21 s22 s23 s24 s25 s26 s27 s28 s29 s30 s31 s32 s33 s34 s35 s36 s37 s38 s39 s40 s41 s42 s43 s44 s45 s46 s47 s48 s49 s50 s51 s52 s53 s54 : Value) (i : Nat), (i + k = l.length ∧ unlikeTo l i = false ∧ Below wr1.heap.size wr1 wr) → Φ { tmps := #[.int .i64 1, .slice A l.length c, s2, s3, s4, .slice O l.length c2, s6, .int .i64 (i : Int), s8, s9, s10, s11, s12, s13, s14, s15, s16, s17, s18, s19, s20, s21, s22, s23, s24, s25, s26, s27, s28, s29, s30, s31, s32, s33, s34, s35, s36, s37, s38, s39, s40, s41, s42, s43, s44, s45, s46, s47, s48, s49, s50, s51, s52, s53, s54], defers := [] }) → Φ a) (l.length) ?_ ?_
      · refine fun Φ hΦ => hΦ _ _ _ _ _ _ _ _ _ _ _ _ _ _ _ _ _ _ _ _ _ _ _ _ _ _ _ _ _ _ _ _ _ _ _ _ _ _ _ _ _ _ _ _ _ _ _ _ _ _ _ (0) ?_
        exact ⟨by omega, rfl, Below.refl _ _⟩
      · intro k2 a2 wr2 hI2 J2 K2 hJ2 hK2
        refine hI2 (fun a => Code.wp _ _ _ a _) ?_
        clear hI2 a2
        intro s0 s1 s2 s3 s4 s5 s6 s7 s8 s9 s10 s11 s12 s13 s14 s15 s16 s17 s18 s19 s20 s21 s22 s23 s24 s25 s26 s27 s28 s29 s30 s31 s32 s33 s34 s35 s36 s37 s38 s39 s40 s41 s42 s43 s44 s45 s46 s47 s48 s49 s50 i hrel
        show Code.wp _ _ _ _ _
        obtain ⟨h1, h2, hb⟩ := hrel
        by_cases hi : i < l.length
        · have hi1 : (i : Int) < l.length := by omega
          have hi0 : (0 : Int) ≤ i := by omega
          have hl := HL.out
          have HI := Lib.hid (And.intro h1 (And.intro h2 hb))
          clear h1 h2 hb
          go_wp2_with fail
          refine wp_loop_ghost_k (fun k a wr => ∀ Φ : Act → Prop, (∀ (s2 s3 s4 s6 s9 s10 s11 s12 s13 s14 s15 s16 s17 s18 s19 s20 s21 s22 s23 s24 s25 s26 s27 s28 s29 s30 s31 s32 s33 s34 s35 s36 s37 s38 s39 s40 s41 s42 s43 s44 s45 s46 s47 s48 s49 s50 s51 s52 s53 s54 : Value) (j : Nat), (j + k = i ∧ oddTo l i j = false ∧ Below wr1.heap.size wr1 wr) → Φ { tmps := #[.int .i64 1, .slice A l.length c, s2, s3, s4, .slice O l.length c2, s6, .int .i64 (i : Int), .int .i64 (j : Int), s9, s10, s11, s12, s13, s14, s15, s16, s17, s18, s19, s20, s21, s22, s23, s24, s25, s26, s27, s28, s29, s30, s31, s32, s33, s34, s35, s36, s37, s38, s39, s40, s41, s42, s43, s44, s45, s46, s47, s48, s49, s50, s51, s52, s53, s54], defers := [] }) → Φ a) (i) ?_ ?_
          · refine fun Φ hΦ => hΦ _ _ _ _ _ _ _ _ _ _ _ _ _ _ _ _ _ _ _ _ _ _ _ _ _ _ _ _ _ _ _ _ _ _ _ _ _ _ _ _ _ _ _ _ _ _ _ _ _ _ (0) ?_
            exact ⟨by omega, rfl, HI.out.2.2⟩
          · intro k3 a3 wr3 hI3 J3 K3 hJ3 hK3
            refine hI3 (fun a => Code.wp _ _ _ a _) ?_
            clear hI3 a3
            intro s0 s1 s2 s3 s4 s5 s6 s7 s8 s9 s10 s11 s12 s13 s14 s15 s16 s17 s18 s19 s20 s21 s22 s23 s24 s25 s26 s27 s28 s29 s30 s31 s32 s33 s34 s35 s36 s37 s38 s39 s40 s41 s42 s43 s44 s45 s46 s47 s48 s49 j hrel
            show Code.wp _ _ _ _ _
            obtain ⟨g1, g2, gb⟩ := hrel
            by_cases hj : j < i
            · have hjl : j < l.length := by omega
              have hsl := sums1_len l
              have hj1 : (j : Int) < i := by omega
              have hj2 : (j : Int) < l.length := by omega
              have hj0 : (0 : Int) ≤ j := by omega
              obtain ⟨ad, off, rfl, hbl, hcell⟩ := few_cell HRR.out hi
              obtain ⟨ad', off', hA', _, hcell'⟩ := few_cell HRR.out hjl
              injection hA' with hA'
              injection hA' with ha1 ha2
              subst ha1 ha2
              have RS2 := RS.out
              rw [← hsl] at RS2
              obtain ⟨bd, bff, rfl, hbb, scell⟩ := few_cell RS2 (i := i) (by rw [sums1_len]; exact hi)
              obtain ⟨bd', bff', hB', _, scell'⟩ := few_cell RS2 (i := j) (by rw [sums1_len]; exact hjl)
              injection hB' with hB'
              injection hB' with hb1 hb2
              subst hb1 hb2
              have GB := Lib.hid gb
              have q1 := hcell _ (HB.out.nxt gb)
              have q2 := hcell' _ (HB.out.nxt gb)
              have q3 := scell _ gb
              have q4 := scell' _ gb
              have hodd := oddAt_eq hi hjl
              have hos := oddTo_succ l i j
              rw [g2, Bool.false_or, hodd] at hos
              have HJ := Lib.hid g1
              have HO := Lib.hid hos
              clear hodd hos g1 g2 gb hcell hcell' scell scell' RS2
              generalize (sums1 l)[i]'(by rw [sums1_len]; exact hi) = si at *
              generalize (sums1 l)[j]'(by rw [sums1_len]; exact hjl) = sj at *
              generalize l[i] = li at *
              generalize l[j] = lj at *
              cases e1 : (si == sj) with
              | false =>
                rw [e1, Bool.false_and] at HO
                clear q1 q2
                go_wp2_with fail
                go_quiet (fail)
                go_wp2_with fail
                refine Handed.intro (i - (j + 1)) ?_ (hJ3 _ _ _ (fun Φ hΦ => hΦ _ _ _ _ _ _ _ _ _ _ _ _ _ _ _ _ _ _ _ _ _ _ _ _ _ _ _ _ _ _ _ _ _ _ _ _ _ _ _ _ _ _ _ _ _ _ _ _ _ _ (j + 1) ?_))
                · have := HJ.out; omega
                · exact ⟨by have := HJ.out; omega, HO.out, below_drewN GB.out _⟩
              | true =>
                rw [e1, Bool.true_and] at HO
                cases e2 : (li == lj) with
                | true =>
                  rw [e2] at HO
                  go_wp2_with fail
                  go_quiet (fail)
                  go_wp2_with fail
                  refine Handed.intro (i - (j + 1)) ?_ (hJ3 _ _ _ (fun Φ hΦ => hΦ _ _ _ _ _ _ _ _ _ _ _ _ _ _ _ _ _ _ _ _ _ _ _ _ _ _ _ _ _ _ _ _ _ _ _ _ _ _ _ _ _ _ _ _ _ _ _ _ _ _ (j + 1) ?_))
                  · have := HJ.out; omega
                  · exact ⟨by have := HJ.out; omega, HO.out, below_drewN GB.out _⟩
                | false =>
                  rw [e2] at HO
                  go_wp2_with fail
                  go_quiet (fail)
                  go_wp2_with fail
                  refine HP.out true _ ?_ (below_drewN (HB.out.nxt GB.out) _)
                  have a1 := oddTo_mono (m := i) HO.out (by omega)
                  have a2 : unlikeTo l (i + 1) = true := by rw [unlikeTo_succ, a1, Bool.or_true]
                  exact unlikeTo_mono a2 (by omega)
            · have hj1 : ((j : Int) < i) = False := by simp; omega
              obtain rfl : j = i := by omega
              have HG := Lib.hid (And.intro g2 gb)
              clear g1 g2 gb hj
              go_wp2_with fail
              refine Handed.intro (l.length - (j + 1)) ?_ (hJ2 _ _ _ (fun Φ hΦ => hΦ _ _ _ _ _ _ _ _ _ _ _ _ _ _ _ _ _ _ _ _ _ _ _ _ _ _ _ _ _ _ _ _ _ _ _ _ _ _ _ _ _ _ _ _ _ _ _ _ _ _ _ (j + 1) ?_))
              · have := HI.out.1; omega
              · exact ⟨by have := HI.out.1; omega, by rw [unlikeTo_succ, HI.out.2.1, HG.out.1]; rfl, HG.out.2⟩
        · have hi1 : ((i : Int) < l.length) = False := by simp; omega
          obtain rfl : i = l.length := by omega
          have HE := Lib.hid (And.intro h2 hb)
          clear h1 h2 hb hi
          go_wp2_with fail
          exact HP.out false _ HE.out.1 (HB.out.nxt HE.out.2)
end Go.Proofs.YtcjafcbekegmlaaDoor
