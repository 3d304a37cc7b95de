import Derived.Test.YtefcmigbdfeaiaaDoorJ30
import Derived.Test.YtefcmigbdfeaiaaDoorJ16
set_option linter.unusedSimpArgs false
set_option linter.unusedVariables false
namespace Go.Proofs.YtefcmigbdfeaiaaDoor
set_option linter.unusedVariables false
open Go.RowKit Go.Instr
attribute [local go_sem] ba_get ByteArray.mk_append_mk
attribute [local go_sem ↓] Go.wp_at_zero Go.wp_at_succ
namespace Trie
def works1 : T := (ofW .nil [([97, 98], [50]), ([97], [49])]).1
def works2 : T := (ofW .nil [([107], [118])]).1
theorem works1_of : ofW .nil [([97, 98], [50]), ([97], [49])] = (works1, 0) := by
  rw [works1, show (ofW .nil [([97, 98], [50]), ([97], [49])]) = ((ofW .nil [([97, 98], [50]), ([97], [49])]).1, (ofW .nil [([97, 98], [50]), ([97], [49])]).2) from rfl]
  congr 1
theorem works2_of : ofW .nil [([107], [118])] = (works2, 0) := by
  rw [works2, show (ofW .nil [([107], [118])]) = ((ofW .nil [([107], [118])]).1, (ofW .nil [([107], [118])]).2) from rfl]
  congr 1
theorem works1_count : count works1 = 2 := by decide +kernel
theorem works1_get : getW works1 [97, 98] = ([50], 0) := by decide +kernel
theorem works1_nn : works1 ≠ .nil := by
  intro h
  have := works1_count
  rw [h] at this
  simp [count] at this
end Trie
theorem works2_told : toldW allW Trie.works2 = [[1, 1, 2, 32, 107, 1, 1, 118]] := by decide +kernel
theorem works1_told : (toldW allW Trie.works1).length = 3 := by
  rw [toldW, textsD, List.length_map]
  decide +kernel
theorem reads_blk {w : World} {b e size n : Nat} {xs : Array Value} (h : Blk w b e xs) (hn : xs.size = n * size) : Reads w w.heap.size size (some ⟨b, 0, none⟩) n xs.toList := by
  refine ⟨by simpa using hn, fun _ => ⟨_, rfl, h.lt, fun j u hu => ?_⟩⟩
  have hj : j < xs.size := by have := (List.getElem?_eq_some_iff.1 hu).1; simpa using this
  have := h.cell j
  rw [show (⟨b, 0, none⟩ : Addr).add j = ⟨b, j, none⟩ by unfold Addr.add; split <;> simp_all]
  rw [this]
  simpa using hu
set_option maxRecDepth 100000 in
set_option maxHeartbeats 1000000 in
theorem law10_works (w : World) (hT : Tbl w) :
    Calls Tryd.prog 12 #[] w fun e w' => e = .returned (.bool true) ∧ Below w.heap.size w w' := by
  have HP : Hid (∀ w', Below w.heap.size w w' → (fun e w' => e = Ending.returned (.bool true) ∧ Below w.heap.size w w') (Ending.returned (.bool true)) w') := Lib.hid (fun W' a2 => ⟨rfl, a2⟩)
  generalize (fun e w' => e = Ending.returned (.bool true) ∧ Below w.heap.size w w') = P at HP ⊢
  have HTb := Lib.hid hT
  have HW : Hid (∀ (W : World) f, Below W.heap.size W (W.alloc (.cells f 26))) := Lib.hid (fun W f => by go_grown)
  clear hT
  go_enter Tryd.func12, Tryd.ntmps12
  go_wp2_with fail
  refine (trie_Of [([97, 98], [50]), ([97], [49])] (by simp) (by simp) _ ?_ _ _ ?_).mono ?_
  · exact HTb.out.next (by go_grown)
  · exact reads_blk (Blk.new _ _ _) (by simp)
  rw [Trie.works1_of]
  rintro e w1 ⟨v1, rfl, hb1, hk1, _⟩
  have HB1 : Hid (Below w.heap.size w w1) := Lib.hid ((HW.out _ _).nxt hb1)
  have HK1 := Lib.hid (hk1 rfl)
  clear hb1 hk1
  go_wp2_with fail
  refine (trie_Of [([107], [118])] (by simp) (by simp) _ ?_ _ _ ?_).mono ?_
  · exact HTb.out.next (HB1.out.nxt (by go_grown))
  · exact reads_blk (Blk.new _ _ _) (by simp)
  rw [Trie.works2_of]
  rintro e w2 ⟨v2, rfl, hb2, hk2, _⟩
  have HB2 : Hid (Below w1.heap.size w1 w2) := Lib.hid ((HW.out _ _).nxt hb2)
  have HK2 := Lib.hid (hk2 rfl)
  clear hb2 hk2
  obtain ⟨_, b1, x1, rfl, _⟩ := id HK1.out
  obtain ⟨_, b2, x2, rfl, _⟩ := id HK2.out
  go_wp2_with fail
  refine (trie_Nodes _ _ _ HK2.out (by decide +kernel)).mono ?_
  rw [works2_told]
  rintro e w3 ⟨A, n, c, rfl, rfl, hown, hb3⟩
  have HB3 := Lib.hid hb3
  obtain ⟨ad, off, rfl, hlt, hc⟩ := (Reads.of_own hown).form (by simp) (by simp)
  have c0 : w3.cell? ⟨ad, off, none⟩ = some (.string ⟨#[1, 1, 2, 32, 107, 1, 1, 118]⟩) := hc 0 (by simp [strv])
  clear hown hb3 hc
  go_wp2_with fail
  refine (trie_Get _ _ _ (HK1.out.next (HB2.out.nxt HB3.out)) [97, 98] (by simp)).mono ?_
  rw [Trie.works1_get]
  rintro e w4 ⟨rfl, hb4⟩
  have HB4 : Hid (Below w1.heap.size w1 w4) := Lib.hid ((HB2.out.nxt HB3.out).nxt hb4)
  have c4 := (hb4.cell (p := ⟨ad, off, none⟩) hlt).trans c0
  clear hb4 c0
  go_wp2_with fail
  refine (trie_Len _ _ _ (HK1.out.next HB4.out)).mono ?_
  rw [Trie.works1_count]
  rintro e w5 ⟨rfl, rfl⟩
  go_wp2_with fail
  refine (trie_Nodes _ _ _ (HK1.out.next HB4.out) (by decide +kernel)).mono ?_
  rintro e w6 ⟨A6, n6, c6, rfl, hn6, _, hb6⟩
  rw [works1_told] at hn6
  subst hn6
  have HB6 : Hid (Below w1.heap.size w1 w6) := Lib.hid (HB4.out.nxt hb6)
  clear hb6
  go_wp2_with fail
  refine (trie_Root _ _ _ (HK1.out.next HB6.out)).mono ?_
  have hs := Trie.sumT_len Trie.works1_nn
  rintro e w7 ⟨rfl, rfl⟩
  generalize Trie.sumT Trie.works1 = sm at *
  go_wp2_with fail
  exact HP.out _ (HB1.out.nxt HB6.out)
end Go.Proofs.YtefcmigbdfeaiaaDoor

namespace Go.Proofs.YtefcmigbdfeaiaaDoor
set_option linter.unusedVariables false
namespace Trie
theorem mem_itemsW {t : T} (h : Good t) (k v : List UInt8) : (k, v) ∈ itemsW t ↔ look t (Nib.of k) = v ∧ v ≠ [] := by
  rw [itemsW, List.mem_map]
  constructor
  · rintro ⟨x, hx, e⟩
    obtain ⟨q, hq, rfl, hn⟩ := (mem_items t [] x h.wf).1 hx
    injection e with e1 e2
    subst e1
    simp only [List.nil_append] at e2 ⊢
    rw [Nib.of_joined q hq (h.even q hq hn).1, ← e2]
    exact ⟨rfl, hn⟩
  · rintro ⟨e, hn⟩
    subst e
    exact ⟨(Nib.of k, look t (Nib.of k)), (mem_items t [] _ h.wf).2 ⟨Nib.of k, Nib.fit_of k, rfl, hn⟩, by simp [Nib.joined_of]⟩
end Trie
end Go.Proofs.YtefcmigbdfeaiaaDoor

namespace Go.Proofs.YtefcmigbdfeaiaaDoor
set_option linter.unusedVariables false
open Go.RowKit Go.Instr
attribute [local go_sem] ba_get ByteArray.mk_append_mk
attribute [local go_sem ↓] Go.wp_at_zero Go.wp_at_succ
theorem few_cell {w : World} {B : Nat} {A : Option Addr} {l : List (List UInt8)} (h : Reads w B 1 A l.length (strv l)) {i : Nat} (hi : i < l.length) :
    ∃ ad off, A = some ⟨ad, off, none⟩ ∧ ad < B ∧ ∀ w', Below B w w' → w'.cell? ⟨ad, off + i, none⟩ = some (.string ⟨l[i].toArray⟩) := by
  obtain ⟨ad, off, rfl, hbl, hcell⟩ := h.form (by omega) (by omega)
  refine ⟨ad, off, rfl, hbl, fun w' hb => ?_⟩
  have q := hcell i (by rw [strv_length]; exact hi)
  have e := strv_at hi
  rw [List.getElem?_eq_getElem (by rw [strv_length]; exact hi)] at e
  rw [Option.some.inj e] at q
  exact (hb.cell (p := ⟨ad, off + i, none⟩) hbl).trans q
def fewW (l : List (List UInt8)) (n each : Nat) : Bool := decide (l.length ≤ n) && l.all fun s => decide (s.length ≤ each)
set_option maxRecDepth 100000 in
theorem book_Few (w : World) (A : Option Addr) (c : Nat) (l : List (List UInt8)) (n each : Nat) (HR : Reads w w.heap.size 1 A l.length (strv l)) (hn : n ≤ 100000) (he : each ≤ 100000) :
    Calls Tryd.prog 38 #[.slice A l.length c, .int .i64 (n : Int), .int .i64 (each : Int)] w (Ret w (.bool (fewW l n each))) := by
  have HP : Hid (∀ r w', fewW l n each = r → Below w.heap.size w w' → Ret w (.bool (fewW l n each)) (Ending.returned (.bool r)) w') := Lib.hid (fun r W' a1 a2 => ⟨by rw [a1], a2⟩)
  have HC : Hid (fewW l n each = (decide (l.length ≤ n) && l.all fun s => decide (s.length ≤ each))) := Lib.hid rfl
  generalize Ret w (.bool (fewW l n each)) = P at HP ⊢
  generalize fewW l n each = lw at *
  have HRR := Lib.hid HR
  clear HR
  by_cases hln : n < l.length
  · have hI : (n : Int) < l.length := by omega
    have HF : Hid (lw = false) := Lib.hid (by rw [HC.out, decide_eq_false (by omega)]; rfl)
    go_enter Tryd.func38, Tryd.ntmps38
    go_wp2_with fail
    exact HP.out _ _ HF.out (Below.refl _ _)
  · have hI : ((n : Int) < l.length) = False := by simp; omega
    have HC2 : Hid (lw = l.all fun s => decide (s.length ≤ each)) := Lib.hid (by rw [HC.out, decide_eq_true (by omega)]; rfl)
    have hln' : l.length ≤ n := by omega
    clear HC hln
    go_enter Tryd.func38, Tryd.ntmps38
    go_wp2_with fail
    refine wp_loop_ghost_k (fun k a wr => ∀ Φ : Act → Prop, (∀ (s1 s3 s4 s5 s6 s8 s9 s10 s11 s12 s13 s14 s15 s16 s17 s18 s19 s20 s21 s22 s23 s24 : Value) (i : Nat), (i + k = l.length ∧ (l.all fun s => decide (s.length ≤ each)) = ((l.drop i).all fun s => decide (s.length ≤ each)) ∧ Below w.heap.size w wr) → Φ { tmps := #[.slice A l.length c, s1, .int .i64 (each : Int), s3, s4, s5, s6, .int .i64 (i : Int), s8, s9, s10, s11, s12, s13, s14, s15, s16, s17, s18, s19, s20, s21, s22, s23, s24], defers := [] }) → Φ a) (l.length) ?_ ?_
    · refine fun Φ hΦ => hΦ _ _ _ _ _ _ _ _ _ _ _ _ _ _ _ _ _ _ _ _ _ _ (0) ?_
      exact ⟨by omega, rfl, Below.refl _ _⟩
    · intro k1 a1 wr1 hI1 J1 K1 hJ1 hK1
      refine hI1 (fun a => Code.wp _ _ _ a _) ?_
      clear hI1 a1
      intro s0 s1 s2 s3 s4 s5 s6 s7 s8 s9 s10 s11 s12 s13 s14 s15 s16 s17 s18 s19 s20 s21 i hrel
      show Code.wp _ _ _ _ _
      obtain ⟨h1, h2, hb⟩ := hrel
      by_cases hi : i < l.length
      · obtain ⟨ad, off, rfl, hbl, hcell⟩ := few_cell HRR.out hi
        have r0 := hcell _ hb
        have hd : l.drop i = l[i] :: l.drop (i + 1) := List.drop_eq_getElem_cons hi
        have HI := Lib.hid (And.intro h1 (And.intro h2 (And.intro hb hd)))
        have hi0 : (i : Int) < l.length := by omega
        have hi1 : (0 : Int) ≤ i := by omega
        clear h1 h2 hb hd hcell hbl
        generalize l[i] = x at *
        by_cases hk : each < x.length
        · have hk' : (each : Int) < x.length := by omega
          have HF : Hid (lw = false) := Lib.hid (by rw [HC2.out, HI.out.2.1, HI.out.2.2.2, List.all_cons, decide_eq_false (by omega)]; rfl)
          clear hk
          go_wp2_with fail
          exact HP.out _ _ HF.out HI.out.2.2.1
        · have hk' : ((each : Int) < x.length) = False := by simp; omega
          have HF : Hid (decide (x.length ≤ each) = true) := Lib.hid (decide_eq_true (by omega))
          clear hk
          go_wp2_with fail
          refine Handed.intro (l.length - (i + 1)) ?_ (hJ1 _ _ _ (fun Φ hΦ => hΦ _ _ _ _ _ _ _ _ _ _ _ _ _ _ _ _ _ _ _ _ _ _ (i + 1) ?_))
          · have := HI.out.1; omega
          exact ⟨by have := HI.out.1; omega, by rw [HI.out.2.1, HI.out.2.2.2, List.all_cons, HF.out]; rfl, HI.out.2.2.1⟩
      · have hi0 : ((i : Int) < l.length) = False := by simp; omega
        have HI := Lib.hid (And.intro h2 (And.intro hb (show l.drop i = [] from List.drop_of_length_le (by omega))))
        clear h1 h2 hb
        go_wp2_with fail
        exact HP.out _ _ (by rw [HC2.out, HI.out.1, HI.out.2.2]; rfl) HI.out.2.1
end Go.Proofs.YtefcmigbdfeaiaaDoor
