import Derived.Test.YtefcmigbdfeaiaaDoorJ40
import Derived.Test.YtefcmigbdfeaiaaDoorJ15
import Derived.Test.YtefcmigbdfeaiaaDoorJ11
import Derived.Test.YtefcmigbdfeaiaaDoorJ12
import Derived.Test.YtefcmigbdfeaiaaDoorJ16
import Derived.Test.YtefcmigbdfeaiaaDoorJ08
import Derived.Test.YtefcmigbdfeaiaaDoorJ36
import Derived.Test.YtefcmigbdfeaiaaDoorJ29
import Derived.Great.BuildSlice
import Derived.Test.YtefcmigbdfeaiaaDoorJ17
import Derived.Test.YtefcmigbdfeaiaaDoorJ09
import Derived.Test.YtefcmigbdfeaiaaDoorJ01
import Derived.OneCell
set_option linter.unusedSimpArgs false
set_option linter.unusedVariables false
namespace Go.Proofs.YtefcmigbdfeaiaaDoor
set_option linter.unusedVariables false
open Go.RowKit Go.Instr
attribute [local go_sem] ba_get ByteArray.mk_append_mk
theorem item_cells {w : World} {B : Nat} {A : Option Addr} {l : List Trie.KV} (h : Reads w B 2 A l.length (icells l)) {i : Nat} (hi : i < l.length) :
    ∃ ad off, A = some ⟨ad, off, none⟩ ∧ ad < B ∧ ∀ w', Below B w w' → w'.cell? ⟨ad, off + i * 2, none⟩ = some (.string ⟨l[i].1.toArray⟩) ∧ w'.cell? ⟨ad, off + i * 2 + 1, none⟩ = some (.string ⟨l[i].2.toArray⟩) := by
  obtain ⟨ad, off, rfl, hbl, hcell⟩ := h.form (by omega) (by omega)
  have ic := icells_at hi
  have hil := icells_length l
  have e0 : (icells l)[2 * i]'(by omega) = .string ⟨l[i].1.toArray⟩ := by
    have := ic.1; rw [List.getElem?_eq_getElem (by omega)] at this; exact Option.some.inj this
  have e1 : (icells l)[2 * i + 1]'(by omega) = .string ⟨l[i].2.toArray⟩ := by
    have := ic.2; rw [List.getElem?_eq_getElem (by omega)] at this; exact Option.some.inj this
  refine ⟨ad, off, rfl, hbl, fun w' hb => ⟨?_, ?_⟩⟩
  · have q0 := hcell (2 * i) (by omega)
    rw [e0] at q0
    rw [show i * 2 = 2 * i by omega]
    exact (hb.cell (p := ⟨ad, off + 2 * i, none⟩) hbl).trans q0
  · have q1 := hcell (2 * i + 1) (by omega)
    rw [e1] at q1
    rw [show off + i * 2 + 1 = off + (2 * i + 1) by omega]
    exact (hb.cell (p := ⟨ad, off + (2 * i + 1), none⟩) hbl).trans q1
theorem ref10_Keyed (key : List UInt8) (hl : key.length ≤ 9223372036854775807) (w : World) :
    Calls Tryd.prog 70 #[.string ⟨key.toArray⟩] w fun e w' => e = .returned (.bool (Trie.keyedW key)) ∧ w = w' := by
  by_cases h0 : key = []
  · subst h0
    go_enter Tryd.func70, Tryd.ntmps70
    go_wp2
    go_ret
    exact ⟨rfl, rfl⟩
  · have h1 : 1 ≤ key.length := List.length_pos_iff.2 h0
    have hR : Hid (Trie.keyedW key = decide ((key.length : Int) ≤ 8)) := Lib.hid (by
      rw [Trie.keyedW, Bool.eq_iff_iff]; simp [h0]; omega)
    have h2 : (1 : Int) ≤ key.length := by omega
    by_cases h8 : key.length ≤ 8
    · have h3 : (key.length : Int) ≤ 8 := by omega
      have hR2 := Lib.hid (hR.out.trans (decide_eq_true h3))
      clear h0 hR
      go_enter Tryd.func70, Tryd.ntmps70
      go_wp2
      go_ret
      exact ⟨ret_bool hR2.out.symm, rfl⟩
    · have h3 : ((key.length : Int) ≤ 8) = False := by simp; omega
      have hR2 := Lib.hid (hR.out.trans (decide_eq_false (by simp [h3])))
      clear h0 hR
      go_enter Tryd.func70, Tryd.ntmps70
      go_wp2
      go_ret
      exact ⟨ret_bool hR2.out.symm, rfl⟩
def AtIEnd (w : World) (l : List Trie.KV) (key : List UInt8) (e : Ending) (w' : World) : Prop := e = .returned (.tuple #[.int .i64 ((Trie.atI key l).1 : Nat), .bool (Trie.atI key l).2]) ∧ Below w.heap.size w w'
set_option maxHeartbeats 1000000 in
theorem ref10_At (w : World) (A : Option Addr) (c : Nat) (l : List Trie.KV) (HR : Reads w w.heap.size 2 A l.length (icells l)) (hl : l.length ≤ 2000) (key : List UInt8) :
    Calls Tryd.prog 80 #[.slice A l.length c, .string ⟨key.toArray⟩] w (AtIEnd w l key) := by
  have HE : Hid (∀ i b, Trie.atI key l = (i, b) → ∀ w', Below w.heap.size w w' → AtIEnd w l key (.returned (.tuple #[.int .i64 (i : Nat), .bool b])) w') := Lib.hid (by
    intro i b e w' hb
    unfold AtIEnd
    rw [e]
    exact ⟨rfl, hb⟩)
  generalize AtIEnd w l key = P at HE ⊢
  have HRR := Lib.hid HR
  clear HR
  go_enter Tryd.func80, Tryd.ntmps80
  go_wp2
  refine wp_loop_ghost_k (fun k a wr => ∀ Φ : Act → Prop, (∀ (s2 s3 s4 s5 s7 s8 s9 s10 s11 s12 s13 s14 s15 s16 s17 s18 s19 s20 s21 s22 s23 s24 s25 s26 s27 s28 s29 : Value) (i : Nat), (i + k = l.length ∧ Trie.atI key l = (i + (Trie.atI key (l.drop i)).1, (Trie.atI key (l.drop i)).2) ∧ Below w.heap.size w wr) → Φ { tmps := #[.slice A l.length c, .string ⟨key.toArray⟩, s2, s3, s4, s5, .int .i64 i, s7, s8, s9, s10, s11, s12, s13, s14, s15, s16, s17, s18, s19, s20, s21, s22, s23, s24, s25, s26, s27, s28, s29], defers := [] }) → Φ a) (l.length) ?_ ?_
  · refine fun Φ hΦ => hΦ _ _ _ _ _ _ _ _ _ _ _ _ _ _ _ _ _ _ _ _ _ _ _ _ _ _ _ (0) ?_
    exact ⟨by omega, by simp, by go_grown⟩
  · intro k1 a1 wr1 hI1 J1 K1 hJ1 hK1
    refine hI1 (fun a => Code.wp _ _ _ a _) ?_
    clear hI1 a1
    intro s0 s1 s2 s3 s4 s5 s6 s7 s8 s9 s10 s11 s12 s13 s14 s15 s16 s17 s18 s19 s20 s21 s22 s23 s24 s25 s26 i hrel
    show Code.wp _ _ _ _ _
    obtain ⟨h1, h2, hb⟩ := hrel
    by_cases hi : i < l.length
    · obtain ⟨ad, off, rfl, hbl, hcell⟩ := item_cells HRR.out hi
      obtain ⟨q0, q1⟩ := hcell _ hb
      obtain ⟨s1, s2⟩ := Trie.atI_step key l i hi h2
      have hi1 : (i : Int) < l.length := by omega
      have hi0 : (0 : Int) ≤ i := by omega
      have HI := Lib.hid h1
      have HB := Lib.hid hb
      clear hcell h2 h1 hb
      generalize l[i] = x at *
      obtain ⟨xk, xv⟩ := x
      simp only at q0 q1 s1 s2
      cases e3 : Op.bytesLess xk key with
      | true =>
        have T := Lib.hid (s1 e3)
        clear s1 s2
        have e4 := bl_asymm _ _ e3
        have e5 : (xk == key) = false := by
          simp only [beq_eq_false_iff_ne, ne_eq]; intro e; subst e; rw [bl_irrefl] at e3; cases e3
        go_wp2
        refine Handed.intro (l.length - (i + 1)) ?_ (hJ1 _ _ _ (fun Φ hΦ => hΦ _ _ _ _ _ _ _ _ _ _ _ _ _ _ _ _ _ _ _ _ _ _ _ _ _ _ _ (i + 1) ?_))
        · have := HI.out
          omega
        · have := HI.out
          exact ⟨by omega, T.out, HB.out⟩
      | false =>
        have T := Lib.hid (HE.out i _ (s2 e3))
        clear s1 s2 HE
        by_cases e4 : xk = key
        · subst e4
          rw [decide_eq_true rfl] at T
          go_wp2
          go_quiet (fail)
          go_wp2
          exact T.out _ (below_drewN HB.out _)
        · have e5 : (xk == key) = false := by simp [e4]
          have e6 := bl_gt e3 (fun e => e4 e.symm)
          rw [decide_eq_false e4] at T
          clear e4
          go_wp2
          go_quiet (fail)
          go_wp2
          exact T.out _ (below_drewN HB.out _)
    · have hi2 : ((i : Int) < l.length) = False := by simp; omega
      have e : l.drop i = [] := List.drop_eq_nil_of_le (by omega)
      rw [e] at h2
      have e3 : i = l.length := by omega
      have T := Lib.hid (HE.out l.length false (by rw [h2, e3]; rfl))
      have HB := Lib.hid hb
      clear h2 e HE hb
      go_wp2
      exact T.out _ HB.out
end Go.Proofs.YtefcmigbdfeaiaaDoor

namespace Go.Proofs.YtefcmigbdfeaiaaDoor
set_option linter.unusedVariables false
open Go.RowKit Go.Instr
attribute [local go_sem] ba_get ByteArray.mk_append_mk
theorem itemsW_len (t : Trie.T) : (Trie.itemsW t).length = Trie.count t := by rw [Trie.itemsW, List.length_map, Trie.length_items]
end Go.Proofs.YtefcmigbdfeaiaaDoor

namespace Go.Proofs.YtefcmigbdfeaiaaDoor
set_option linter.unusedVariables false
open Go.RowKit Go.Instr
attribute [local go_sem] ba_get ByteArray.mk_append_mk
theorem icells_take : ∀ (l : List Trie.KV) (i : Nat), icells (l.take i) = (icells l).take (i * 2)
  | [], i => by simp [icells]
  | x :: l, 0 => by simp [icells]
  | x :: l, i + 1 => by
    rw [List.take_succ_cons, show icells (x :: l.take i) = .string ⟨x.1.toArray⟩ :: .string ⟨x.2.toArray⟩ :: icells (l.take i) from rfl, show icells (x :: l) = .string ⟨x.1.toArray⟩ :: .string ⟨x.2.toArray⟩ :: icells l from rfl, icells_take l i, show (i + 1) * 2 = i * 2 + 1 + 1 by omega, List.take_succ_cons, List.take_succ_cons]
theorem icells_drop : ∀ (l : List Trie.KV) (i : Nat), icells (l.drop i) = (icells l).drop (i * 2)
  | [], i => by simp [icells]
  | x :: l, 0 => by simp
  | x :: l, i + 1 => by
    rw [List.drop_succ_cons, show icells (x :: l) = .string ⟨x.1.toArray⟩ :: .string ⟨x.2.toArray⟩ :: icells l from rfl, icells_drop l i, show (i + 1) * 2 = i * 2 + 1 + 1 by omega, List.drop_succ_cons, List.drop_succ_cons]
theorem icells_append (a b : List Trie.KV) : icells (a ++ b) = icells a ++ icells b := by simp [icells]
theorem icells_one (l : List Trie.KV) : ∀ u ∈ icells l, u.oneCell' = true := by
  intro u hu
  simp only [icells, List.mem_flatMap] at hu
  obtain ⟨x, _, hu⟩ := hu
  simp at hu
  rcases hu with rfl | rfl <;> rfl
theorem it_size (w : World) : (sizeOf 26).run Tryd.prog w = .ok 2 w := by
  go_simp
  try rfl
theorem it_elem : Program.elem Tryd.prog 22 = 26 := by kernel_rfl
theorem it_under : Tryd.prog.underlying 22 = some (.slice (Tryd.prog.elem 22)) := by rw [it_elem]; exact Tryd.underlying22
theorem it_cut_to (A : Option Addr) (l : List Trie.KV) (n c i : Nat) (hn : l.length = n) (hi : i ≤ n) (hc : n ≤ c) :
    ∃ A1 c1, (∀ w, (Instr.sliceAt 22 (.slice A n c) none (some (.int .i64 (i : Int))) none).run Tryd.prog w = .ok (.slice A1 i c1) w) ∧ ∀ w B, Reads w B 2 A n (icells l) → Reads w B 2 A1 i (icells (l.take i)) := by
  refine ⟨if c = 0 then A else A.map (·.add (0 * 2)), c - 0, fun w => ?_, fun w B hr => ⟨by rw [icells_length, List.length_take]; omega, fun hp => ?_⟩⟩
  · rw [run_sliceAt_slice _ _ _ _ _ _ it_under, run_slice_h _ _ _ _ _ it_under _ _ (by omega) (by omega)]
    rw [it_elem, it_size w]
    rfl
  · obtain ⟨ad, rfl, hb, hcell⟩ := hr.2 (by omega)
    rw [if_neg (by omega)]
    refine ⟨ad, by simp [Addr.add], hb, fun j u hu => hcell j u ?_⟩
    rw [icells_take] at hu
    have hj : j < i * 2 := by
      have := (List.getElem?_eq_some_iff.1 hu).1
      rw [List.length_take] at this
      omega
    rw [List.getElem?_take_of_lt hj] at hu
    exact hu
theorem it_cut_from (A : Option Addr) (l : List Trie.KV) (n c i : Nat) (hn : l.length = n) (hi : i ≤ n) (hc : n ≤ c) :
    ∃ A1 c1, (∀ w, (Instr.sliceAt 22 (.slice A n c) (some (.int .i64 (i : Int))) none none).run Tryd.prog w = .ok (.slice A1 (n - i) c1) w) ∧ ∀ w B, Reads w B 2 A n (icells l) → Reads w B 2 A1 (n - i) (icells (l.drop i)) := by
  refine ⟨if c = i then A else A.map (·.add (i * 2)), c - i, fun w => ?_, fun w B hr => ?_⟩
  · rw [run_sliceAt_slice _ _ _ _ _ _ it_under, run_slice_l _ _ _ _ _ it_under _ _ (by omega) (by omega)]
    rw [it_elem, it_size w]
    rfl
  · rw [icells_drop]
    exact hr.cut hi hc
end Go.Proofs.YtefcmigbdfeaiaaDoor
