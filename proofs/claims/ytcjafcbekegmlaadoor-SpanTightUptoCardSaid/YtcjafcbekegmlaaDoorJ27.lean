import Derived.Test.YtcjafcbekegmlaaDoorJ25
set_option linter.unusedSimpArgs false
set_option linter.unusedVariables false
namespace Go.Proofs.YtcjafcbekegmlaaDoor
set_option linter.unusedVariables false
open Go.RowKit Go.Instr
attribute [local go_sem] ba_get ByteArray.mk_append_mk
theorem item_cells {w : World} {B : Nat} {A : Option Addr} {l : List Trie.KV} (h : Reads w B 2 A l.length (icells l)) {i : Nat} (hi : i < l.length) :
    ∃ ad off, A = some ⟨ad, off, none⟩ ∧ ad < B ∧ ∀ w', Below B w w' → w'.cell? ⟨ad, off + i * 2, none⟩ = some (.string ⟨l[i].1.toArray⟩) ∧ w'.cell? ⟨ad, off + i * 2 + 1, none⟩ = some (.string ⟨l[i].2.toArray⟩) := by
  obtain ⟨ad, off, rfl, hbl, hcell⟩ := h.form (by omega) (by omega)
  have ic := icells_at hi
  have hil := icells_length l
  have e0 : (icells l)[2 * i]'(by omega) = .string ⟨l[i].1.toArray⟩ := by
    have := ic.1; rw [List.getElem?_eq_getElem (by omega)] at this; exact Option.some.inj this
  have e1 : (icells l)[2 * i + 1]'(by omega) = .string ⟨l[i].2.toArray⟩ := by
    have := ic.2; rw [List.getElem?_eq_getElem (by omega)] at this; exact Option.some.inj this
  refine ⟨ad, off, rfl, hbl, fun w' hb => ⟨?_, ?_⟩⟩
  · have q0 := hcell (2 * i) (by omega)
    rw [e0] at q0
    rw [show i * 2 = 2 * i by omega]
    exact (hb.cell (p := ⟨ad, off + 2 * i, none⟩) hbl).trans q0
  · have q1 := hcell (2 * i + 1) (by omega)
    rw [e1] at q1
    rw [show off + i * 2 + 1 = off + (2 * i + 1) by omega]
    exact (hb.cell (p := ⟨ad, off + (2 * i + 1), none⟩) hbl).trans q1
theorem ref10_Keyed (key : List UInt8) (hl : key.length ≤ 9223372036854775807) (w : World) :
    Calls Tryd.prog 35 #[.string ⟨key.toArray⟩] w fun e w' => e = .returned (.bool (Trie.keyedW key)) ∧ w = w' := by
  by_cases h0 : key = []
  · subst h0
    go_enter Tryd.func35, Tryd.ntmps35
    go_wp2
    go_ret
    exact ⟨rfl, rfl⟩
  · have h1 : 1 ≤ key.length := List.length_pos_iff.2 h0
    have hR : Hid (Trie.keyedW key = decide ((key.length : Int) ≤ 8)) := Lib.hid (by
      rw [Trie.keyedW, Bool.eq_iff_iff]; simp [h0]; omega)
    have h2 : (1 : Int) ≤ key.length := by omega
    by_cases h8 : key.length ≤ 8
    · have h3 : (key.length : Int) ≤ 8 := by omega
      have hR2 := Lib.hid (hR.out.trans (decide_eq_true h3))
      clear h0 hR
      go_enter Tryd.func35, Tryd.ntmps35
      go_wp2
      go_ret
      exact ⟨ret_bool hR2.out.symm, rfl⟩
    · have h3 : ((key.length : Int) ≤ 8) = False := by simp; omega
      have hR2 := Lib.hid (hR.out.trans (decide_eq_false (by simp [h3])))
      clear h0 hR
      go_enter Tryd.func35, Tryd.ntmps35
      go_wp2
      go_ret
      exact ⟨ret_bool hR2.out.symm, rfl⟩
def AtIEnd (w : World) (l : List Trie.KV) (key : List UInt8) (e : Ending) (w' : World) : Prop := e = .returned (.tuple #[.int .i64 ((Trie.atI key l).1 : Nat), .bool (Trie.atI key l).2]) ∧ Below w.heap.size w w'
set_option maxHeartbeats 1000000 in
theorem ref10_At (w : World) (A : Option Addr) (c : Nat) (l : List Trie.KV) (HR : Reads w w.heap.size 2 A l.length (icells l)) (hl : l.length ≤ 2000) (key : List UInt8) :
    Calls Tryd.prog 36 #[.slice A l.length c, .string ⟨key.toArray⟩] w (AtIEnd w l key) := by
  have HE : Hid (∀ i b, Trie.atI key l = (i, b) → ∀ w', Below w.heap.size w w' → AtIEnd w l key (.returned (.tuple #[.int .i64 (i : Nat), .bool b])) w') := Lib.hid (by
    intro i b e w' hb
    unfold AtIEnd
    rw [e]
    exact ⟨rfl, hb⟩)
  generalize AtIEnd w l key = P at HE ⊢
  have HRR := Lib.hid HR
  clear HR
  go_enter Tryd.func36, Tryd.ntmps36
  go_wp2
  refine wp_loop_ghost_k (fun k a wr => ∀ Φ : Act → Prop, (∀ (s2 s3 s4 s5 s7 s8 s9 s10 s11 s12 s13 s14 s15 s16 s17 s18 s19 s20 s21 s22 s23 s24 s25 s26 s27 s28 s29 : Value) (i : Nat), (i + k = l.length ∧ Trie.atI key l = (i + (Trie.atI key (l.drop i)).1, (Trie.atI key (l.drop i)).2) ∧ Below w.heap.size w wr) → Φ { tmps := #[.slice A l.length c, .string ⟨key.toArray⟩, s2, s3, s4, s5, .int .i64 i, s7, s8, s9, s10, s11, s12, s13, s14, s15, s16, s17, s18, s19, s20, s21, s22, s23, s24, s25, s26, s27, s28, s29], defers := [] }) → Φ a) (l.length) ?_ ?_
  · refine fun Φ hΦ => hΦ _ _ _ _ _ _ _ _ _ _ _ _ _ _ _ _ _ _ _ _ _ _ _ _ _ _ _ (0) ?_
    exact ⟨by omega, by simp, by go_grown⟩
  · intro k1 a1 wr1 hI1 J1 K1 hJ1 hK1
    refine hI1 (fun a => Code.wp _ _ _ a _) ?_
    clear hI1 a1
    intro s0 s1 s2 s3 s4 s5 s6 s7 s8 s9 s10 s11 s12 s13 s14 s15 s16 s17 s18 s19 s20 s21 s22 s23 s24 s25 s26 i hrel
    show Code.wp _ _ _ _ _
    obtain ⟨h1, h2, hb⟩ := hrel
    by_cases hi : i < l.length
    · obtain ⟨ad, off, rfl, hbl, hcell⟩ := item_cells HRR.out hi
      obtain ⟨q0, q1⟩ := hcell _ hb
      obtain ⟨s1, s2⟩ := Trie.atI_step key l i hi h2
      have hi1 : (i : Int) < l.length := by omega
      have hi0 : (0 : Int) ≤ i := by omega
      have HI := Lib.hid h1
      have HB := Lib.hid hb
      clear hcell h2 h1 hb
      generalize l[i] = x at *
      obtain ⟨xk, xv⟩ := x
      simp only at q0 q1 s1 s2
      cases e3 : Op.bytesLess xk key with
      | true =>
        have T := Lib.hid (s1 e3)
        clear s1 s2
        have e4 := bl_asymm _ _ e3
        have e5 : (xk == key) = false := by
          simp only [beq_eq_false_iff_ne, ne_eq]; intro e; subst e; rw [bl_irrefl] at e3; cases e3
        go_wp2
        refine Handed.intro (l.length - (i + 1)) ?_ (hJ1 _ _ _ (fun Φ hΦ => hΦ _ _ _ _ _ _ _ _ _ _ _ _ _ _ _ _ _ _ _ _ _ _ _ _ _ _ _ (i + 1) ?_))
        · have := HI.out
          omega
        · have := HI.out
          exact ⟨by omega, T.out, HB.out⟩
      | false =>
        have T := Lib.hid (HE.out i _ (s2 e3))
        clear s1 s2 HE
        by_cases e4 : xk = key
        · subst e4
          rw [decide_eq_true rfl] at T
          go_wp2
          go_quiet (fail)
          go_wp2
          exact T.out _ (below_drewN HB.out _)
        · have e5 : (xk == key) = false := by simp [e4]
          have e6 := bl_gt e3 (fun e => e4 e.symm)
          rw [decide_eq_false e4] at T
          clear e4
          go_wp2
          go_quiet (fail)
          go_wp2
          exact T.out _ (below_drewN HB.out _)
    · have hi2 : ((i : Int) < l.length) = False := by simp; omega
      have e : l.drop i = [] := List.drop_eq_nil_of_le (by omega)
      rw [e] at h2
      have e3 : i = l.length := by omega
      have T := Lib.hid (HE.out l.length false (by rw [h2, e3]; rfl))
      have HB := Lib.hid hb
      clear h2 e HE hb
      go_wp2
      exact T.out _ HB.out
end Go.Proofs.YtcjafcbekegmlaaDoor

namespace Go.Proofs.YtcjafcbekegmlaaDoor
set_option linter.unusedVariables false
open Go.RowKit Go.Instr
attribute [local go_sem] ba_get ByteArray.mk_append_mk
theorem icells_take : ∀ (l : List Trie.KV) (i : Nat), icells (l.take i) = (icells l).take (i * 2)
  | [], i => by simp [icells]
  | x :: l, 0 => by simp [icells]
  | x :: l, i + 1 => by
    rw [List.take_succ_cons, show icells (x :: l.take i) = .string ⟨x.1.toArray⟩ :: .string ⟨x.2.toArray⟩ :: icells (l.take i) from rfl, show icells (x :: l) = .string ⟨x.1.toArray⟩ :: .string ⟨x.2.toArray⟩ :: icells l from rfl, icells_take l i, show (i + 1) * 2 = i * 2 + 1 + 1 by omega, List.take_succ_cons, List.take_succ_cons]
theorem icells_drop : ∀ (l : List Trie.KV) (i : Nat), icells (l.drop i) = (icells l).drop (i * 2)
  | [], i => by simp [icells]
  | x :: l, 0 => by simp
  | x :: l, i + 1 => by
    rw [List.drop_succ_cons, show icells (x :: l) = .string ⟨x.1.toArray⟩ :: .string ⟨x.2.toArray⟩ :: icells l from rfl, icells_drop l i, show (i + 1) * 2 = i * 2 + 1 + 1 by omega, List.drop_succ_cons, List.drop_succ_cons]
theorem icells_append (a b : List Trie.KV) : icells (a ++ b) = icells a ++ icells b := by simp [icells]
theorem icells_one (l : List Trie.KV) : ∀ u ∈ icells l, u.oneCell' = true := by
  intro u hu
  simp only [icells, List.mem_flatMap] at hu
  obtain ⟨x, _, hu⟩ := hu
  simp at hu
  rcases hu with rfl | rfl <;> rfl
theorem it_size (w : World) : (sizeOf 50).run Tryd.prog w = .ok 2 w := by
  go_simp
  try rfl
theorem it_elem : Program.elem Tryd.prog 22 = 50 := by kernel_rfl
theorem it_under : Tryd.prog.underlying 22 = some (.slice (Tryd.prog.elem 22)) := by rw [it_elem]; exact Tryd.underlying22
theorem it_cut_to (A : Option Addr) (l : List Trie.KV) (n c i : Nat) (hn : l.length = n) (hi : i ≤ n) (hc : n ≤ c) :
    ∃ A1 c1, (∀ w, (Instr.sliceAt 22 (.slice A n c) none (some (.int .i64 (i : Int))) none).run Tryd.prog w = .ok (.slice A1 i c1) w) ∧ ∀ w B, Reads w B 2 A n (icells l) → Reads w B 2 A1 i (icells (l.take i)) := by
  refine ⟨if c = 0 then A else A.map (·.add (0 * 2)), c - 0, fun w => ?_, fun w B hr => ⟨by rw [icells_length, List.length_take]; omega, fun hp => ?_⟩⟩
  · rw [run_sliceAt_slice _ _ _ _ _ _ it_under, run_slice_h _ _ _ _ _ it_under _ _ (by omega) (by omega)]
    rw [it_elem, it_size w]
    rfl
  · obtain ⟨ad, rfl, hb, hcell⟩ := hr.2 (by omega)
    rw [if_neg (by omega)]
    refine ⟨ad, by simp [Addr.add], hb, fun j u hu => hcell j u ?_⟩
    rw [icells_take] at hu
    have hj : j < i * 2 := by
      have := (List.getElem?_eq_some_iff.1 hu).1
      rw [List.length_take] at this
      omega
    rw [List.getElem?_take_of_lt hj] at hu
    exact hu
theorem it_cut_from (A : Option Addr) (l : List Trie.KV) (n c i : Nat) (hn : l.length = n) (hi : i ≤ n) (hc : n ≤ c) :
    ∃ A1 c1, (∀ w, (Instr.sliceAt 22 (.slice A n c) (some (.int .i64 (i : Int))) none none).run Tryd.prog w = .ok (.slice A1 (n - i) c1) w) ∧ ∀ w B, Reads w B 2 A n (icells l) → Reads w B 2 A1 (n - i) (icells (l.drop i)) := by
  refine ⟨if c = i then A else A.map (·.add (i * 2)), c - i, fun w => ?_, fun w B hr => ?_⟩
  · rw [run_sliceAt_slice _ _ _ _ _ _ it_under, run_slice_l _ _ _ _ _ it_under _ _ (by omega) (by omega)]
    rw [it_elem, it_size w]
    rfl
  · rw [icells_drop]
    exact hr.cut hi hc
end Go.Proofs.YtcjafcbekegmlaaDoor

namespace Go.Proofs.YtcjafcbekegmlaaDoor
set_option linter.unusedVariables false
open Go.RowKit Go.Instr
attribute [local go_sem] ba_get ByteArray.mk_append_mk
theorem grown_set1 {w w' : World} {g : Nat} (h : w.grownBy w' (some g)) (i : Nat) (v : Value) : w.grownBy (w'.setCell ⟨g, i, none⟩ v) (some g) :=
  ⟨h.os, h.tape, h.output, by rw [World.size_setCell]; exact h.size, fun k hk hne => (Below.heap_setCell w' ⟨g, i, none⟩ v k (fun e => hne (by rw [e]))).trans (h.block k hk hne)⟩
end Go.Proofs.YtcjafcbekegmlaaDoor

namespace Go.Proofs.YtcjafcbekegmlaaDoor
set_option linter.unusedVariables false
open Go.RowKit Go.Instr
attribute [local go_sem] ba_get ByteArray.mk_append_mk
def PutIEnd (w : World) (r : List Trie.KV × Nat) (e : Ending) (w' : World) : Prop :=
  ∃ A n c, e = .returned (.tuple #[.slice A n c, .int .i64 (r.2 : Int)]) ∧ n = r.1.length ∧ n ≤ c ∧ w'.ownsRow w.heap.size 50 2 (.slice A n c) n (icells r.1) ∧ Below w.heap.size w w'
set_option maxRecDepth 100000 in
set_option maxHeartbeats 2000000 in
theorem ref10_Put (w : World) (A : Option Addr) (c : Nat) (l : List Trie.KV) (HR : Reads w w.heap.size 2 A l.length (icells l)) (hc : l.length ≤ c) (hl : l.length ≤ 1000) (key value : List UInt8) (hk : key.length ≤ 9223372036854775807) (hv : value.length ≤ 9223372036854775807) :
    Calls Tryd.prog 20 #[.slice A l.length c, .string ⟨key.toArray⟩, .string ⟨value.toArray⟩] w (PutIEnd w (Trie.rput l key value)) := by
  have HP : Hid (∀ l2 c2, Trie.rput l key value = (l2, c2) → ∀ A n c w', n = l2.length → n ≤ c → w'.ownsRow w.heap.size 50 2 (.slice A n c) n (icells l2) → Below w.heap.size w w' → PutIEnd w (Trie.rput l key value) (.returned (.tuple #[.slice A n c, .int .i64 (c2 : Nat)])) w') := Lib.hid (by
    intro l2 c2 e A n c w' h1 h2 h3 h4
    unfold PutIEnd
    rw [e]
    exact ⟨A, n, c, rfl, h1, h2, h3, h4⟩)
  generalize PutIEnd w (Trie.rput l key value) = P at HP ⊢
  have HKy := Lib.hid (ref10_Keyed key hk w)
  have HA := Lib.hid (ref10_At w A c l HR (by omega) key)
  have hat := Trie.atI_le key l
  have HRR := Lib.hid HR
  obtain ⟨i0, hi0, hz0, hz1, hz2⟩ := info_parts info_item
  have e9 : ((1024 : Int) ≤ l.length) = False := by simp; omega
  have HNil : Hid (∀ W : World, W.ownsRow w.heap.size 50 2 (.slice none 0 0) 0 (icells [])) := Lib.hid (fun W => World.ownsRow_nil _ _ _ _)
  clear HR
  cases hkey : Trie.keyedW key with
  | false =>
    have T := Lib.hid (HP.out [] 1 (by simp [Trie.rput, hkey]) none 0 0 w rfl (Nat.le_refl _) (HNil.out _) (Below.refl _ _))
    rw [hkey] at HKy
    clear HP HA hat hkey
    go_enter Tryd.func20, Tryd.ntmps20
    go_wp2_with (go_at_call 35; refine HKy.out.mono ?_; rintro e w1 ⟨rfl, rfl⟩)
    exact T.out
  | true =>
    rw [hkey] at HKy
    by_cases h0 : value = []
    · subst h0
      have T := Lib.hid (HP.out [] 2 (by simp [Trie.rput, hkey]) none 0 0)
      unfold AtIEnd at HA
      clear HP hat hkey
      generalize (Trie.atI key l).1 = i at *
      generalize (Trie.atI key l).2 = b at *
      go_enter Tryd.func20, Tryd.ntmps20
      go_wp2_with (first | (go_at_call 35; refine HKy.out.mono ?_; rintro e w1 ⟨rfl, rfl⟩) | (go_at_call 36; refine HA.out.mono ?_; rintro e w2 ⟨rfl, hb⟩))
      exact T.out _ rfl (Nat.le_refl _) (HNil.out _) hb
    · have hv1 : ((value.length : Int) < 1) = False := by have := List.length_pos_iff.2 h0; simp; omega
      by_cases h32 : 32 < value.length
      · have e6 : ((32 : Int) < value.length) = True := by simp; omega
        have T := Lib.hid (HP.out [] 2 (by simp [Trie.rput, hkey, h32]) none 0 0)
        unfold AtIEnd at HA
        clear HP hat hkey h0 h32
        generalize (Trie.atI key l).1 = i at *
        generalize (Trie.atI key l).2 = b at *
        go_enter Tryd.func20, Tryd.ntmps20
        go_wp2_with (first | (go_at_call 35; refine HKy.out.mono ?_; rintro e w1 ⟨rfl, rfl⟩) | (go_at_call 36; refine HA.out.mono ?_; rintro e w2 ⟨rfl, hb⟩))
        exact T.out _ rfl (Nat.le_refl _) (HNil.out _) hb
      · have e6 : ((32 : Int) < value.length) = False := by simp; omega
        have hvb : (value.isEmpty || decide (32 < value.length)) = false := by simp [h0]; omega
        cases hb : (Trie.atI key l).2 with
        | false =>
          have HE := Lib.hid (HP.out (l.take (Trie.atI key l).1 ++ [(key, value)] ++ l.drop (Trie.atI key l).1) 0 (by simp [Trie.rput, hkey, hvb, hb]))
          unfold AtIEnd at HA
          rw [hb] at HA
          have hii := hat.1
          clear HP hkey h0 h32 hat hb hvb
          generalize (Trie.atI key l).1 = i at *
          have hic : (i : Int) ≤ c := by omega
          have hil : (i : Int) ≤ l.length := by omega
          have hi00 : (0 : Int) ≤ i := by omega
          obtain ⟨A1, c1, SL1, RD1⟩ := it_cut_to A l l.length c i rfl (by omega) hc
          obtain ⟨A2, c2, SL2, RD2⟩ := it_cut_from A l l.length c i rfl (by omega) hc
          have HSR : Hid (icells (l.take i) ++ [.string ⟨key.toArray⟩, .string ⟨value.toArray⟩] ++ icells (l.drop i) = icells (l.take i ++ [(key, value)] ++ l.drop i)) := Lib.hid (by rw [icells_append, icells_append]; rfl)
          have HSUM : Hid (i + 1 + (l.length - i) = (l.take i ++ [(key, value)] ++ l.drop i).length) := Lib.hid (by simp only [List.length_append, List.length_take, List.length_drop, List.length_cons, List.length_nil]; omega)
          have hlm : i + 1 + (l.length - i) ≤ 1001 := by omega
          go_enter Tryd.func20, Tryd.ntmps20
          go_wp2_with fail
          refine HKy.out.mono ?_
          rintro e w1 ⟨rfl, rfl⟩
          go_wp2_with fail
          refine HA.out.mono ?_
          rintro e w1 ⟨rfl, hb1⟩
          have R1 := RD1 w1 _ (HRR.out.below hb1)
          go_wp2_with (first
            | (at_builtin; refine wpList_append_any w1 rfl _ _ 22 rfl w.heap.size 50 i0 _ 2 32 Tryd.underlying22 hi0 hz0 hz1 hz2 rfl (by decide) (.slice none 0 0) 0 [] rfl (World.ownsRow_nil _ _ _ _) w.heap.size A1 i c1 (icells (l.take i)) rfl R1 (icells_one _) (by simp only [maxLen]; omega) (by omega) hb1.size ?_; intro v2 w2 own2 hg2 ho2; rw [Nat.zero_add, List.nil_append] at own2; obtain ⟨Av2, cv2, rfl, _, _, _⟩ := own_form own2; have hb2 : Below w.heap.size w w2 := hb1.grown hg2 hb1.size (by intro k e; cases e); clear hg2 ho2 R1)
            | (at_builtin; refine wpList_append_new w2 50 [.string ⟨key.toArray⟩, .string ⟨value.toArray⟩] rfl _ _ 22 rfl w.heap.size 2 32 _ info_item Tryd.underlying22 rfl (by decide) (.slice Av2 i cv2) i (icells (l.take i)) rfl own2 1 1 rfl rfl (by simp [Value.oneCell']) (by simp only [maxLen]; omega) (by omega) w.heap.size w hb2 (Nat.le_refl _) hb2.size ?_; intro v3 w3 own3 hb3 _ _ _; obtain ⟨Av3, cv3, rfl, _, _, hge3⟩ := own_form own3; have R2 := RD2 w3 _ (HRR.out.below hb3); have lt3 := own3.lt)
            | (at_builtin; refine wpList_append_any w3 rfl _ _ 22 rfl w.heap.size 50 i0 _ 2 32 Tryd.underlying22 hi0 hz0 hz1 hz2 rfl (by decide) (.slice Av3 (i + 1) cv3) (i + 1) (icells (l.take i) ++ [.string ⟨key.toArray⟩, .string ⟨value.toArray⟩]) rfl own3 w.heap.size A2 (l.length - i) c2 (icells (l.drop (i))) rfl R2 (icells_one _) (by simp only [maxLen]; omega) (by omega) hb3.size ?_; intro v4 w4 own4 hg4 _; obtain ⟨Av4, cv4, rfl, _, hc4, _⟩ := own_form own4; have hb4 : Below w.heap.size w w4 := hb3.grown hg4 hb3.size (fun k e => (lt3 k e).1); clear hg4 R2))
          rw [HSR.out] at own4
          exact HE.out _ _ _ _ HSUM.out hc4 own4 hb4
        | true =>
          have HE := Lib.hid (HP.out (l.take (Trie.atI key l).1 ++ [(key, value)] ++ l.drop ((Trie.atI key l).1 + 1)) 0 (by simp [Trie.rput, hkey, hvb, hb]))
          unfold AtIEnd at HA
          rw [hb] at HA
          have hii := hat.2 hb
          clear HP hkey h0 h32 hat hb hvb
          generalize (Trie.atI key l).1 = i at *
          have hic : (i : Int) ≤ c := by omega
          have hil : (i : Int) ≤ l.length := by omega
          have hi2 : (i : Int) + 1 ≤ l.length := by omega
          have hi00 : (0 : Int) ≤ i := by omega
          obtain ⟨A1, c1, SL1, RD1⟩ := it_cut_to A l l.length c i rfl (by omega) hc
          obtain ⟨A2, c2, SL2, RD2⟩ := it_cut_from A l l.length c (i + 1) rfl (by omega) hc
          have SL2' := SL2
          rw [show ((i + 1 : Nat) : Int) = (i : Int) + 1 from rfl] at SL2'
          have HSR : Hid (icells (l.take i) ++ [.string ⟨key.toArray⟩, .string ⟨value.toArray⟩] ++ icells (l.drop (i + 1)) = icells (l.take i ++ [(key, value)] ++ l.drop (i + 1))) := Lib.hid (by rw [icells_append, icells_append]; rfl)
          have HSUM : Hid (i + 1 + (l.length - (i + 1)) = (l.take i ++ [(key, value)] ++ l.drop (i + 1)).length) := Lib.hid (by simp only [List.length_append, List.length_take, List.length_drop, List.length_cons, List.length_nil]; omega)
          have hlm : i + 1 + (l.length - (i + 1)) ≤ 1001 := by omega
          go_enter Tryd.func20, Tryd.ntmps20
          go_wp2_with fail
          refine HKy.out.mono ?_
          rintro e w1 ⟨rfl, rfl⟩
          go_wp2_with fail
          refine HA.out.mono ?_
          rintro e w1 ⟨rfl, hb1⟩
          have R1 := RD1 w1 _ (HRR.out.below hb1)
          go_wp2_with (first
            | (at_builtin; refine wpList_append_any w1 rfl _ _ 22 rfl w.heap.size 50 i0 _ 2 32 Tryd.underlying22 hi0 hz0 hz1 hz2 rfl (by decide) (.slice none 0 0) 0 [] rfl (World.ownsRow_nil _ _ _ _) w.heap.size A1 i c1 (icells (l.take i)) rfl R1 (icells_one _) (by simp only [maxLen]; omega) (by omega) hb1.size ?_; intro v2 w2 own2 hg2 ho2; rw [Nat.zero_add, List.nil_append] at own2; obtain ⟨Av2, cv2, rfl, _, _, _⟩ := own_form own2; have hb2 : Below w.heap.size w w2 := hb1.grown hg2 hb1.size (by intro k e; cases e); clear hg2 ho2 R1)
            | (at_builtin; refine wpList_append_new w2 50 [.string ⟨key.toArray⟩, .string ⟨value.toArray⟩] rfl _ _ 22 rfl w.heap.size 2 32 _ info_item Tryd.underlying22 rfl (by decide) (.slice Av2 i cv2) i (icells (l.take i)) rfl own2 1 1 rfl rfl (by simp [Value.oneCell']) (by simp only [maxLen]; omega) (by omega) w.heap.size w hb2 (Nat.le_refl _) hb2.size ?_; intro v3 w3 own3 hb3 _ _ _; obtain ⟨Av3, cv3, rfl, _, _, hge3⟩ := own_form own3; have R2 := RD2 w3 _ (HRR.out.below hb3); have lt3 := own3.lt)
            | (at_builtin; refine wpList_append_any w3 rfl _ _ 22 rfl w.heap.size 50 i0 _ 2 32 Tryd.underlying22 hi0 hz0 hz1 hz2 rfl (by decide) (.slice Av3 (i + 1) cv3) (i + 1) (icells (l.take i) ++ [.string ⟨key.toArray⟩, .string ⟨value.toArray⟩]) rfl own3 w.heap.size A2 (l.length - (i + 1)) c2 (icells (l.drop ((i + 1)))) rfl R2 (icells_one _) (by simp only [maxLen]; omega) (by omega) hb3.size ?_; intro v4 w4 own4 hg4 _; obtain ⟨Av4, cv4, rfl, _, hc4, _⟩ := own_form own4; have hb4 : Below w.heap.size w w4 := hb3.grown hg4 hb3.size (fun k e => (lt3 k e).1); clear hg4 R2))
          rw [HSR.out] at own4
          exact HE.out _ _ _ _ HSUM.out hc4 own4 hb4
end Go.Proofs.YtcjafcbekegmlaaDoor
