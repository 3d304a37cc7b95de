import Derived.Test.YtaplecncnkkigaaDoorC13
import Derived.Test.YtaplecncnkkigaaDoorC25
/- The document's layer 17 (receipt): Decode. No conditions. -/
namespace Go.Proofs.YtaplecncnkkigaaDoor
set_option linter.unusedVariables false
open Go.RowKit Go.Instr
attribute [local go_sem] ba_get ByteArray.mk_append_mk

/-- the document's answer, by what its reader told -/
theorem decW_ref {s t : List UInt8} {s1 s2 s3 : List UInt8 × Nat} {n q : Nat} (hA : numS (s, 0) = (n, s1)) (hT : txtS s1 6 = (t, s2)) (hQ : numS s2 = (q, s3)) :
    decW s = if s3.2 ≠ 0 ∨ ¬ rcOk (n : Int) t (q : Int) ∨ numW n ++ (textW t ++ numW q) ≠ s then ((0, [], 0), 3) else ((n, t, q), 0) := by
  rw [decW_of hA hT hQ]
  by_cases h0 : s3.2 = 0
  · obtain ⟨f1, f2⟩ := numS_ok hQ h0
    obtain ⟨g1, g2⟩ := txtS_ok hT f1
    obtain ⟨_, k2⟩ := numS_ok hA g1
    have a1 := numT_back f2
    have a2 := (txtT_back g2).1
    have a3 := numT_back k2
    rw [a2, a1] at a3
    have e1 : endS s3 = 0 ↔ numW n ++ (textW t ++ numW q) = s := by
      have hs : s = numW n ++ (textW t ++ numW q) ++ s3.1 := by simp only at a3; rw [List.append_assoc, List.append_assoc]; exact a3
      unfold endS
      rw [h0]
      constructor
      · intro h
        have : s3.1 = [] := by
          by_cases h1 : s3.1 = []
          · exact h1
          · rw [if_pos ⟨rfl, h1⟩] at h; cases h
        rw [hs, this, List.append_nil]
      · intro h
        have : s3.1 = [] := by
          rw [hs] at h
          have := congrArg List.length h
          rw [List.length_append] at this
          exact List.eq_nil_of_length_eq_zero (by simpa using this)
        rw [if_neg (by rw [this]; simp)]
    have hn : rcOk (n : Int) t (q : Int) → ¬ 1000 < n := fun h => by have := h.2.1; omega
    by_cases hk : rcOk (n : Int) t (q : Int)
    · by_cases he : endS s3 = 0
      · rw [if_neg, if_neg]
        · rintro (h | h | h)
          · exact h h0
          · exact h hk
          · exact h (e1.1 he)
        · rintro (h | h | h)
          · exact h he
          · exact hn hk h
          · exact h hk
      · rw [if_pos (Or.inl he), if_pos (Or.inr (Or.inr fun h => he (e1.2 h)))]
    · rw [if_pos (Or.inr (Or.inr hk)), if_pos (Or.inr (Or.inl hk))]
  · rw [if_pos, if_pos (Or.inl h0)]
    left
    unfold endS
    intro h
    split at h
    · cases h
    · exact h0 h

set_option maxRecDepth 100000 in
set_option maxHeartbeats 400000 in
theorem ref17_Decode (s : List UInt8) (hs : s.length ≤ 1000000) (w : World) :
    Calls Tryd.prog 43 #[.string ⟨s.toArray⟩] w (DecEnd w (decW s)) := by
  have HT6 := Lib.hid (txtS_len (numS (s, 0)).2 6)
  have HP : Hid (∀ w' (n : Nat) t (q e : Nat), decW s = ((n, t, q), e) → Below w.heap.size w w' → DecEnd w (decW s) (.returned (.tuple #[.agg #[.int .i64 n, .string ⟨t.toArray⟩, .int .i64 q], .int .i64 e])) w') := Lib.hid (fun w' n t q e h hb => by
    rw [h]; exact ⟨rfl, hb⟩)
  generalize DecEnd w (decW s) = P at HP ⊢
  obtain ⟨n, ⟨s1, c1⟩, hA⟩ : ∃ n s1, numS (s, 0) = (n, s1) := ⟨_, _, rfl⟩
  rw [hA] at HT6
  obtain ⟨t, ⟨s2, c2⟩, hT⟩ : ∃ t s2, txtS (s1, c1) 6 = (t, s2) := ⟨_, _, rfl⟩
  rw [hT] at HT6
  obtain ⟨q, ⟨s3, c3⟩, hQ⟩ : ∃ q s3, numS (s2, c2) = (q, s3) := ⟨_, _, rfl⟩
  have HD := Lib.hid (decW_ref hA hT hQ)
  have HA := Lib.hid hA
  have HT := Lib.hid hT
  have HQ := Lib.hid hQ
  have HL := Lib.hid hs
  clear hA hT hQ hs
  go_enter Tryd.func43, Tryd.ntmps43
  go_upto_region 1 with fail
  have F := Live.ha (Lib.hid (Live.start w)) #[.int .i64 0, .string ⟨#[]⟩, .int .i64 0] 71
  generalize w.alloc (.cells #[.int .i64 0, .string ⟨#[]⟩, .int .i64 0] 71) = W0 at F ⊢
  go_upto_region 2 with fail
  have F := Live.ha F #[.string ⟨s.toArray⟩, .int .i64 0] 117
  generalize W0.alloc (.cells #[.string ⟨s.toArray⟩, .int .i64 0] 117) = W1 at F ⊢
  generalize W0.heap.size = R at F ⊢
  go_wp2_with fail
  refine (ref02_Num _ R (s, 0) ⟨F.out.blk 0 rfl, HL.out⟩).mono ?_
  rw [HA.out]
  rintro e w2 ⟨rfl, hd, hg⟩
  have HL := Lib.hid hd.2
  have F := Live.hg F 0 rfl hg hd.1
  clear hd hg
  go_wp2_with fail
  refine (ref02_RText _ R (s1, c1) ⟨F.out.blk 0 rfl, HL.out⟩ 6 (by omega)).mono ?_
  rw [HT.out]
  rintro e w3 ⟨rfl, hd, hg⟩
  have HL := Lib.hid hd.2
  have F := Live.hg F 0 rfl hg hd.1
  clear hd hg
  go_wp2_with fail
  refine (ref02_Num _ R (s2, c2) ⟨F.out.blk 0 rfl, HL.out⟩).mono ?_
  rw [HQ.out]
  rintro e w4 ⟨rfl, hd, hg⟩
  have HL := Lib.hid hd.2
  have F := Live.hg F 0 rfl hg hd.1
  clear hd hg
  go_upto_region 6 with fail
  have F := Live.ha F #[.int .i64 (n : Int), .string ⟨t.toArray⟩, .int .i64 (q : Int)] 71
  generalize w4.alloc (.cells #[.int .i64 (n : Int), .string ⟨t.toArray⟩, .int .i64 (q : Int)] 71) = W5 at F ⊢
  generalize w4.heap.size = X at F ⊢
  replace F : Hid (Live w W5 [(X, 71, #[.int .i64 (n : Int), .string ⟨t.toArray⟩, .int .i64 (q : Int)]), (R, 117, #[.string ⟨s3.toArray⟩, .int .i64 (c3 : Int)]), (w.heap.size, 71, #[.int .i64 0, .string ⟨#[]⟩, .int .i64 0])]) := F
  have k0_0 : W5.cell? ⟨X, 0, none⟩ = some (.int .i64 (n : Int)) := F.out.cell 0 0 rfl rfl; have k0_1 : W5.cell? ⟨X, 1, none⟩ = some (.string ⟨t.toArray⟩) := F.out.cell 0 1 rfl rfl; have k0_2 : W5.cell? ⟨X, 2, none⟩ = some (.int .i64 (q : Int)) := F.out.cell 0 2 rfl rfl
  have k1_0 : W5.cell? ⟨R, 0, none⟩ = some (.string ⟨s3.toArray⟩) := F.out.cell 1 0 rfl rfl; have k1_1 : W5.cell? ⟨R, 1, none⟩ = some (.int .i64 (c3 : Int)) := F.out.cell 1 1 rfl rfl
  by_cases hc : c3 = 0
  · subst hc
    have HFi := Lib.hid (fun W => ref17_Fine (n : Int) t (q : Int) (by have : t.length ≤ 6 := HT6.out; omega) W)
    unfold rcV at HFi
    go_wp2_with fail
    refine (HFi.out _).mono ?_
    rintro e w6 ⟨rfl, hb⟩
    clear k0_0 k0_1 k0_2 k1_0 k1_1
    (first | have F := Live.hb F hb | have F := Live.hbd F hb); clear hb
    have k0_0 : w6.cell? ⟨X, 0, none⟩ = some (.int .i64 (n : Int)) := F.out.cell 0 0 rfl rfl; have k0_1 : w6.cell? ⟨X, 1, none⟩ = some (.string ⟨t.toArray⟩) := F.out.cell 0 1 rfl rfl; have k0_2 : w6.cell? ⟨X, 2, none⟩ = some (.int .i64 (q : Int)) := F.out.cell 0 2 rfl rfl
    by_cases hk : rcOk (n : Int) t (q : Int)
    · rw [show decide (rcOk (n : Int) t (q : Int)) = true from decide_eq_true hk]
      have HW := Lib.hid (ref17_Written n q t (by have := hk.2.1; omega) hk.2.2.2.1 (by have := hk.2.2.2.2.2; omega))
      by_cases hw : numW n ++ (textW t ++ numW q) = s
      · have HE : Hid (decW s = ((n, t, q), 0)) := Lib.hid (by
          rw [HD.out, if_neg]
          rintro (h | h | h)
          · exact h rfl
          · exact h hk
          · exact h hw)
        rw [hw] at HW
        clear hw hk HD
        go_wp2_with fail
        refine (HW.out _).mono ?_
        rintro e w7 ⟨rfl, hb⟩
        clear k0_0 k0_1 k0_2
        (first | have F := Live.hb F hb | have F := Live.hbd F hb); clear hb
        have k0_0 : w7.cell? ⟨X, 0, none⟩ = some (.int .i64 (n : Int)) := F.out.cell 0 0 rfl rfl; have k0_1 : w7.cell? ⟨X, 1, none⟩ = some (.string ⟨t.toArray⟩) := F.out.cell 0 1 rfl rfl; have k0_2 : w7.cell? ⟨X, 2, none⟩ = some (.int .i64 (q : Int)) := F.out.cell 0 2 rfl rfl
        have k2_0 : w7.cell? ⟨w.heap.size, 0, none⟩ = some (.int .i64 0) := F.out.cell 2 0 rfl rfl; have k2_1 : w7.cell? ⟨w.heap.size, 1, none⟩ = some (.string ⟨#[]⟩) := F.out.cell 2 1 rfl rfl; have k2_2 : w7.cell? ⟨w.heap.size, 2, none⟩ = some (.int .i64 0) := F.out.cell 2 2 rfl rfl
        have f2_0 : w7.frozen? ⟨w.heap.size, 0, none⟩ = false := F.out.frozen 2 0 rfl; have f2_1 : w7.frozen? ⟨w.heap.size, 1, none⟩ = false := F.out.frozen 2 1 rfl; have f2_2 : w7.frozen? ⟨w.heap.size, 2, none⟩ = false := F.out.frozen 2 2 rfl
        go_wp2
        have F := Live.hs (Live.hs (Live.hs F 2 0 (.int .i64 (n : Int)) rfl) 2 1 (.string ⟨t.toArray⟩) rfl) 2 2 (.int .i64 (q : Int)) rfl
        clear k2_0 k2_1 k2_2 f2_0 f2_1 f2_2
        generalize ((w7.setCell ⟨w.heap.size, 0, none⟩ (.int .i64 (n : Int))).setCell ⟨w.heap.size, 1, none⟩ (.string ⟨t.toArray⟩)).setCell ⟨w.heap.size, 2, none⟩ (.int .i64 (q : Int)) = W9 at F ⊢
        have k2_0 : W9.cell? ⟨w.heap.size, 0, none⟩ = some (.int .i64 (n : Int)) := F.out.cell 2 0 rfl rfl; have k2_1 : W9.cell? ⟨w.heap.size, 1, none⟩ = some (.string ⟨t.toArray⟩) := F.out.cell 2 1 rfl rfl; have k2_2 : W9.cell? ⟨w.heap.size, 2, none⟩ = some (.int .i64 (q : Int)) := F.out.cell 2 2 rfl rfl
        (try simp only [Exit.inBlock, Exit.then])
        refine bodyPost_ret (v := .tuple #[.agg #[.int .i64 (n : Int), .string ⟨t.toArray⟩, .int .i64 (q : Int)], .int .i64 0]) (by simp [results, Tryd.results43, go_sem, k2_0, k2_1, k2_2]) rfl ?_
        exact HP.out _ _ _ _ 0 HE.out F.out.b
      · have HE : Hid (decW s = ((0, [], 0), 3)) := Lib.hid (by rw [HD.out, if_pos]; exact Or.inr (Or.inr hw))
        clear hk HD
        generalize numW n ++ (textW t ++ numW q) = u at *
        have hw1 : (u == s) = false := by simp; exact hw
        go_wp2_with fail
        refine (HW.out _).mono ?_
        rintro e w7 ⟨rfl, hb⟩
        clear k0_0 k0_1 k0_2
        (first | have F := Live.hb F hb | have F := Live.hbd F hb); clear hb
        have k2_0 : w7.cell? ⟨w.heap.size, 0, none⟩ = some (.int .i64 0) := F.out.cell 2 0 rfl rfl; have k2_1 : w7.cell? ⟨w.heap.size, 1, none⟩ = some (.string ⟨#[]⟩) := F.out.cell 2 1 rfl rfl; have k2_2 : w7.cell? ⟨w.heap.size, 2, none⟩ = some (.int .i64 0) := F.out.cell 2 2 rfl rfl
        have f2_0 : w7.frozen? ⟨w.heap.size, 0, none⟩ = false := F.out.frozen 2 0 rfl; have f2_1 : w7.frozen? ⟨w.heap.size, 1, none⟩ = false := F.out.frozen 2 1 rfl; have f2_2 : w7.frozen? ⟨w.heap.size, 2, none⟩ = false := F.out.frozen 2 2 rfl
        go_wp2
        have F := Live.hs (Live.hs (Live.hs F 2 0 (.int .i64 0) rfl) 2 1 (.string ⟨#[]⟩) rfl) 2 2 (.int .i64 0) rfl
        clear k2_0 k2_1 k2_2 f2_0 f2_1 f2_2
        generalize ((w7.setCell ⟨w.heap.size, 0, none⟩ (.int .i64 0)).setCell ⟨w.heap.size, 1, none⟩ (.string ⟨#[]⟩)).setCell ⟨w.heap.size, 2, none⟩ (.int .i64 0) = W9 at F ⊢
        have k2_0 : W9.cell? ⟨w.heap.size, 0, none⟩ = some (.int .i64 0) := F.out.cell 2 0 rfl rfl; have k2_1 : W9.cell? ⟨w.heap.size, 1, none⟩ = some (.string ⟨#[]⟩) := F.out.cell 2 1 rfl rfl; have k2_2 : W9.cell? ⟨w.heap.size, 2, none⟩ = some (.int .i64 0) := F.out.cell 2 2 rfl rfl
        (try simp only [Exit.inBlock, Exit.then])
        refine bodyPost_ret (v := .tuple #[.agg #[.int .i64 0, .string ⟨#[]⟩, .int .i64 0], .int .i64 3]) (by simp [results, Tryd.results43, go_sem, k2_0, k2_1, k2_2]) rfl ?_
        exact HP.out _ 0 _ 0 3 HE.out F.out.b
    · rw [show decide (rcOk (n : Int) t (q : Int)) = false from decide_eq_false hk]
      have HE : Hid (decW s = ((0, [], 0), 3)) := Lib.hid (by rw [HD.out, if_pos]; exact Or.inr (Or.inl hk))
      clear hk HD
      have k2_0 : w6.cell? ⟨w.heap.size, 0, none⟩ = some (.int .i64 0) := F.out.cell 2 0 rfl rfl; have k2_1 : w6.cell? ⟨w.heap.size, 1, none⟩ = some (.string ⟨#[]⟩) := F.out.cell 2 1 rfl rfl; have k2_2 : w6.cell? ⟨w.heap.size, 2, none⟩ = some (.int .i64 0) := F.out.cell 2 2 rfl rfl
      have f2_0 : w6.frozen? ⟨w.heap.size, 0, none⟩ = false := F.out.frozen 2 0 rfl; have f2_1 : w6.frozen? ⟨w.heap.size, 1, none⟩ = false := F.out.frozen 2 1 rfl; have f2_2 : w6.frozen? ⟨w.heap.size, 2, none⟩ = false := F.out.frozen 2 2 rfl
      go_wp2
      have F := Live.hs (Live.hs (Live.hs F 2 0 (.int .i64 0) rfl) 2 1 (.string ⟨#[]⟩) rfl) 2 2 (.int .i64 0) rfl
      clear k2_0 k2_1 k2_2 f2_0 f2_1 f2_2
      generalize ((w6.setCell ⟨w.heap.size, 0, none⟩ (.int .i64 0)).setCell ⟨w.heap.size, 1, none⟩ (.string ⟨#[]⟩)).setCell ⟨w.heap.size, 2, none⟩ (.int .i64 0) = W9 at F ⊢
      have k2_0 : W9.cell? ⟨w.heap.size, 0, none⟩ = some (.int .i64 0) := F.out.cell 2 0 rfl rfl; have k2_1 : W9.cell? ⟨w.heap.size, 1, none⟩ = some (.string ⟨#[]⟩) := F.out.cell 2 1 rfl rfl; have k2_2 : W9.cell? ⟨w.heap.size, 2, none⟩ = some (.int .i64 0) := F.out.cell 2 2 rfl rfl
      (try simp only [Exit.inBlock, Exit.then])
      refine bodyPost_ret (v := .tuple #[.agg #[.int .i64 0, .string ⟨#[]⟩, .int .i64 0], .int .i64 3]) (by simp [results, Tryd.results43, go_sem, k2_0, k2_1, k2_2]) rfl ?_
      exact HP.out _ 0 _ 0 3 HE.out F.out.b
  · have HE : Hid (decW s = ((0, [], 0), 3)) := Lib.hid (by rw [HD.out, if_pos]; exact Or.inl hc)
    have hc1 : ((c3 : Int) != 0) = true := by simp; exact hc
    clear hc HD
    have k2_0 : W5.cell? ⟨w.heap.size, 0, none⟩ = some (.int .i64 0) := F.out.cell 2 0 rfl rfl; have k2_1 : W5.cell? ⟨w.heap.size, 1, none⟩ = some (.string ⟨#[]⟩) := F.out.cell 2 1 rfl rfl; have k2_2 : W5.cell? ⟨w.heap.size, 2, none⟩ = some (.int .i64 0) := F.out.cell 2 2 rfl rfl
    have f2_0 : W5.frozen? ⟨w.heap.size, 0, none⟩ = false := F.out.frozen 2 0 rfl; have f2_1 : W5.frozen? ⟨w.heap.size, 1, none⟩ = false := F.out.frozen 2 1 rfl; have f2_2 : W5.frozen? ⟨w.heap.size, 2, none⟩ = false := F.out.frozen 2 2 rfl
    go_wp2
    have F := Live.hs (Live.hs (Live.hs F 2 0 (.int .i64 0) rfl) 2 1 (.string ⟨#[]⟩) rfl) 2 2 (.int .i64 0) rfl
    clear k2_0 k2_1 k2_2 f2_0 f2_1 f2_2
    generalize ((W5.setCell ⟨w.heap.size, 0, none⟩ (.int .i64 0)).setCell ⟨w.heap.size, 1, none⟩ (.string ⟨#[]⟩)).setCell ⟨w.heap.size, 2, none⟩ (.int .i64 0) = W9 at F ⊢
    have k2_0 : W9.cell? ⟨w.heap.size, 0, none⟩ = some (.int .i64 0) := F.out.cell 2 0 rfl rfl; have k2_1 : W9.cell? ⟨w.heap.size, 1, none⟩ = some (.string ⟨#[]⟩) := F.out.cell 2 1 rfl rfl; have k2_2 : W9.cell? ⟨w.heap.size, 2, none⟩ = some (.int .i64 0) := F.out.cell 2 2 rfl rfl
    (try simp only [Exit.inBlock, Exit.then])
    refine bodyPost_ret (v := .tuple #[.agg #[.int .i64 0, .string ⟨#[]⟩, .int .i64 0], .int .i64 3]) (by simp [results, Tryd.results43, go_sem, k2_0, k2_1, k2_2]) rfl ?_
    exact HP.out _ 0 _ 0 3 HE.out F.out.b
end Go.Proofs.YtaplecncnkkigaaDoor

/- The walks of layer 17 (receipt): Root; its laws' works. No conditions. -/
namespace Go.Proofs.YtaplecncnkkigaaDoor
set_option linter.unusedVariables false
open Go.RowKit Go.Instr
attribute [local go_sem] ba_get ByteArray.mk_append_mk

theorem reads_blk17 {w : World} {b e size n : Nat} {xs : Array Value} (h : Blk w b e xs) (hn : xs.size = n * size) : Reads w w.heap.size size (some ⟨b, 0, none⟩) n xs.toList := by
  refine ⟨by simpa using hn, fun _ => ⟨_, rfl, h.lt, fun j u hu => ?_⟩⟩
  have hj : j < xs.size := by have := (List.getElem?_eq_some_iff.1 hu).1; simpa using this
  have := h.cell j
  rw [show (⟨b, 0, none⟩ : Addr).add j = ⟨b, j, none⟩ by unfold Addr.add; split <;> simp_all]
  rw [this]
  simpa using hu
def RRootEnd (w : World) (r : Trie.T × Nat) (e : Ending) (w' : World) : Prop := e = .returned (.tuple #[.string ⟨(if r.2 = 0 then Trie.sumT r.1 else []).toArray⟩, .int .i64 (r.2 : Int)]) ∧ Below w.heap.size w w'
set_option maxRecDepth 100000 in
set_option maxHeartbeats 1000000 in
theorem receipt_Root (l : List (Int × List UInt8 × Int)) (hl : l.length ≤ 8) (hs : ∀ x ∈ l, x.2.1.length ≤ 1000000) (w : World) (hT : Tbl w) (A : Option Addr) (c : Nat) (HR : Reads w w.heap.size 3 A l.length (rcells l)) :
    Calls Tryd.prog 69 #[.slice A l.length c] w (RRootEnd w (treeW .nil 0 l)) := by
  have HTr := Lib.hid (receipt_tree l hl hs w hT A c HR)
  generalize treeW .nil 0 l = r at *
  obtain ⟨t, cd⟩ := r
  clear HR hT hs
  by_cases hc : cd = 0
  · subst hc
    have HP : Hid (∀ w', Below w.heap.size w w' → RRootEnd w (t, 0) (.returned (.tuple #[.string ⟨(Trie.sumT t).toArray⟩, .int .i64 0])) w') := Lib.hid (fun w' hb => ⟨rfl, hb⟩)
    generalize RRootEnd w (t, 0) = P at HP ⊢
    go_enter Tryd.func69, Tryd.ntmps69
    go_wp2_with fail
    refine HTr.out.mono ?_
    rintro e w1 ⟨v, rfl, hb, hk, _⟩
    have HB := Lib.hid hb
    have HK := Lib.hid (hk (by first | exact trivial | rfl))
    clear hb hk
    go_wp2_with fail
    refine (trie_Root _ _ _ HK.out).mono ?_
    rintro e w2 ⟨rfl, rfl⟩
    go_wp2_with fail
    exact HP.out _ HB.out
  · have HP : Hid (∀ w', Below w.heap.size w w' → RRootEnd w (t, cd) (.returned (.tuple #[.string ⟨#[]⟩, .int .i64 (cd : Int)])) w') := Lib.hid (fun w' hb => ⟨by simp [hc], hb⟩)
    generalize RRootEnd w (t, cd) = P at HP ⊢
    have hc1 : ((cd : Int) != 0) = true := by simp; exact hc
    clear hc
    go_enter Tryd.func69, Tryd.ntmps69
    go_wp2_with fail
    refine HTr.out.mono ?_
    rintro e w1 ⟨v, rfl, hb, _, _⟩
    have HB := Lib.hid hb
    clear hb
    go_wp2_with fail
    exact HP.out _ HB.out

theorem works17_enc : encW 0 [97] 3 = ([0, 1, 1, 97, 1, 3], 0) := by decide +kernel
theorem works17_dec : decW [0, 1, 1, 97, 1, 3] = ((0, [97], 3), 0) := by decide +kernel
theorem works17_tree : ∃ t, treeW .nil 0 [(0, [97], 3)] = (t, 0) ∧ t ≠ .nil := by
  refine ⟨Trie.put .nil (Nib.of [UInt8.ofNat 0]) (encW 0 [97] 3).1, ?_, Trie.put_nn _ _ _⟩
  rw [treeW, if_pos (by decide +kernel), treeW]
set_option maxRecDepth 100000 in
set_option maxHeartbeats 1000000 in
theorem law17_works (w : World) (hT : Tbl w) :
    Calls Tryd.prog 39 #[] w fun e w' => e = .returned (.bool true) ∧ Below w.heap.size w w' := by
  have HP : Hid (∀ w', Below w.heap.size w w' → (fun e w' => e = Ending.returned (.bool true) ∧ Below w.heap.size w w') (Ending.returned (.bool true)) w') := Lib.hid (fun W' a2 => ⟨rfl, a2⟩)
  generalize (fun e w' => e = Ending.returned (.bool true) ∧ Below w.heap.size w w') = P at HP ⊢
  have HTb := Lib.hid hT
  have HE : Hid (∀ W, Calls Tryd.prog 40 #[.agg #[.int .i64 0, .string ⟨#[97]⟩, .int .i64 3]] W (REncEnd W ([0, 1, 1, 97, 1, 3], 0))) := Lib.hid (fun W => by have := receipt_Encode 0 [97] 3 (by simp) W; rw [works17_enc] at this; exact this)
  have HD : Hid (∀ W, Calls Tryd.prog 42 #[.string ⟨#[0, 1, 1, 97, 1, 3]⟩] W (DecEnd W ((0, [97], 3), 0))) := Lib.hid (fun W => by have := receipt_Decode [0, 1, 1, 97, 1, 3] (by simp) W; rw [works17_dec] at this; exact this)
  obtain ⟨t, ht, hnn⟩ := works17_tree
  have hs := Trie.sumT_len hnn
  have HRt : Hid (∀ (W : World) A c, Below w.heap.size w W → Reads W W.heap.size 3 A 1 (rcells [(0, [97], 3)]) → Calls Tryd.prog 69 #[.slice A 1 c] W (RRootEnd W (t, 0))) := Lib.hid (fun W A c hb hr => by
    have := receipt_Root [(0, [97], 3)] (by simp) (by simp) W (hT.next hb) A c hr
    rw [ht] at this
    exact this)
  clear hT ht hnn
  go_enter Tryd.func39, Tryd.ntmps39
  go_wp2_with fail
  refine (HE.out _).mono ?_
  rintro e w1 ⟨rfl, hb1⟩
  have HB1 := Lib.hid hb1
  clear hb1
  go_wp2_with fail
  refine (HD.out _).mono ?_
  rintro e w2 ⟨rfl, hb2⟩
  have HB2 := Lib.hid (HB1.out.nxt hb2)
  clear hb2 HB1
  unfold rcV
  go_wp2_with fail
  have F : Hid (Blk (w2.alloc (.cells #[.int .i64 0, .string ⟨#[97]⟩, .int .i64 3] 71)) w2.heap.size 71 #[.int .i64 0, .string ⟨#[97]⟩, .int .i64 3]) := Lib.hid (Blk.new _ _ _)
  have F2 : Hid (Below w2.heap.size w2 (w2.alloc (.cells #[.int .i64 0, .string ⟨#[97]⟩, .int .i64 3] 71))) := Lib.hid (by go_grown)
  have HS2 : Hid (w2.heap.size + 1 = (w2.alloc (.cells #[.int .i64 0, .string ⟨#[97]⟩, .int .i64 3] 71)).heap.size) := Lib.hid (World.size_alloc _ _).symm
  rw [HS2.out]
  generalize w2.alloc (.cells #[.int .i64 0, .string ⟨#[97]⟩, .int .i64 3] 71) = W2 at F F2 HS2 ⊢
  have HC := Lib.hid (HB2.out.nxt F2.out)
  clear HB2 F2 HS2 HE HD HTb
  generalize w2.heap.size = X at F ⊢
  have F3 : Hid (Below W2.heap.size W2 (W2.alloc (.cells #[.int .i64 0, .string ⟨#[97]⟩, .int .i64 3] 71))) := Lib.hid (by go_grown)
  refine (HRt.out _ _ _ (HC.out.nxt F3.out) (reads_blk17 (Blk.new W2 _ _) (by simp))).mono ?_
  rintro e w3 ⟨rfl, hb3⟩
  have HB3 := Lib.hid (HC.out.nxt (F3.out.nxt hb3))
  have HK := Lib.hid (F.out.below (F3.out.nxt hb3) F.out.lt)
  have k1 : w3.cell? ⟨X, 1, none⟩ = some (.string ⟨#[97]⟩) := HK.out.cell 1
  have k2 : w3.cell? ⟨X, 2, none⟩ = some (.int .i64 3) := HK.out.cell 2
  clear hb3 F F3 HC HRt HK
  rw [if_pos rfl]
  have hs2 : ((Trie.sumT t).length : Int) = 32 := by omega
  generalize Trie.sumT t = sm at *
  go_wp2_with fail
  exact HP.out _ HB3.out
end Go.Proofs.YtaplecncnkkigaaDoor

/- Layer 17's law: ReceiptCodes. No conditions. -/
namespace Go.Proofs.YtaplecncnkkigaaDoor
set_option linter.unusedVariables false
open Go.RowKit Go.Instr
attribute [local go_sem] ba_get ByteArray.mk_append_mk
set_option maxRecDepth 100000 in
set_option maxHeartbeats 4000000 in
theorem law_ReceiptCodes (c : Int) (f : List UInt8) (q : Int) (s : List UInt8) (hf : f.length ≤ 9223372036854775807) (hs : s.length ≤ 9223372036854775807) (w : World) (hT : Tbl w) :
    Calls Tryd.prog 9 #[rcV c f q, .string ⟨s.toArray⟩] w (Ret w (.bool true)) := by
  have HP : Hid (∀ w', Below w.heap.size w w' → Ret w (.bool true) (Ending.returned (.bool true)) w') := Lib.hid (fun W' a2 => ⟨rfl, a2⟩)
  generalize Ret w (.bool true) = P at HP ⊢
  have HWk : Hid (∀ W, Below w.heap.size w W → Calls Tryd.prog 39 #[] W fun e w' => e = .returned (.bool true) ∧ Below W.heap.size W w') := Lib.hid (fun W hb => law17_works W (hT.next hb))
  unfold rcV
  clear hT
  by_cases hfl : 200 < f.length
  · have g1 : (200 : Int) < (f.length : Int) := by omega
    clear hfl
    go_enter Tryd.func9, Tryd.ntmps9
    go_upto_region 1 with fail
    have F := Live.ha (Lib.hid (Live.start w)) #[.int .i64 c, .string ⟨f.toArray⟩, .int .i64 q] 71
    generalize w.alloc (.cells #[.int .i64 c, .string ⟨f.toArray⟩, .int .i64 q] 71) = W0 at F ⊢
    have k0_0 : W0.cell? ⟨w.heap.size, 0, none⟩ = some (.int .i64 c) := F.out.cell 0 0 rfl rfl; have k0_1 : W0.cell? ⟨w.heap.size, 1, none⟩ = some (.string ⟨f.toArray⟩) := F.out.cell 0 1 rfl rfl; have k0_2 : W0.cell? ⟨w.heap.size, 2, none⟩ = some (.int .i64 q) := F.out.cell 0 2 rfl rfl
    go_wp2_with fail
    refine (HWk.out _ F.out.b).mono ?_
    rintro e w1 ⟨rfl, hb⟩
    (first | have F := Live.hb F hb | have F := Live.hbd F hb); clear hb
    go_wp2_with fail
    exact HP.out _ F.out.b
  have g1 : ((200 : Int) < (f.length : Int)) = False := by simp; omega
  by_cases hsl : 200 < s.length
  · have g2 : (200 : Int) < (s.length : Int) := by omega
    clear hfl hsl
    go_enter Tryd.func9, Tryd.ntmps9
    go_upto_region 1 with fail
    have F := Live.ha (Lib.hid (Live.start w)) #[.int .i64 c, .string ⟨f.toArray⟩, .int .i64 q] 71
    generalize w.alloc (.cells #[.int .i64 c, .string ⟨f.toArray⟩, .int .i64 q] 71) = W0 at F ⊢
    have k0_0 : W0.cell? ⟨w.heap.size, 0, none⟩ = some (.int .i64 c) := F.out.cell 0 0 rfl rfl; have k0_1 : W0.cell? ⟨w.heap.size, 1, none⟩ = some (.string ⟨f.toArray⟩) := F.out.cell 0 1 rfl rfl; have k0_2 : W0.cell? ⟨w.heap.size, 2, none⟩ = some (.int .i64 q) := F.out.cell 0 2 rfl rfl
    go_wp2_with fail
    refine (HWk.out _ F.out.b).mono ?_
    rintro e w1 ⟨rfl, hb⟩
    (first | have F := Live.hb F hb | have F := Live.hbd F hb); clear hb
    go_wp2_with fail
    exact HP.out _ F.out.b
  have g2 : ((200 : Int) < (s.length : Int)) = False := by simp; omega
  have HEx : Hid (∀ W, Calls Tryd.prog 40 #[.agg #[.int .i64 c, .string ⟨f.toArray⟩, .int .i64 q]] W (REncEnd W (encW c f q))) := Lib.hid (fun W => receipt_Encode c f q (by omega) W)
  have HRe : Hid (∀ W, Calls Tryd.prog 41 #[.agg #[.int .i64 c, .string ⟨f.toArray⟩, .int .i64 q]] W (REncEnd W (encW c f q))) := Lib.hid (fun W => ref17_Encode c f q hf W)
  have HDs : Hid (∀ W, Calls Tryd.prog 42 #[.string ⟨s.toArray⟩] W (DecEnd W (decW s))) := Lib.hid (fun W => receipt_Decode s (by omega) W)
  have HRd : Hid (∀ W, Calls Tryd.prog 43 #[.string ⟨s.toArray⟩] W (DecEnd W (decW s))) := Lib.hid (fun W => ref17_Decode s (by omega) W)
  generalize decW s = dd at HDs HRd
  generalize encW c f q = ee at HEx HRe
  obtain ⟨a, e1⟩ := ee
  obtain ⟨⟨n, t, m⟩, e2⟩ := dd
  clear hfl hsl
  go_enter Tryd.func9, Tryd.ntmps9
  go_upto_region 1 with fail
  have F := Live.ha (Lib.hid (Live.start w)) #[.int .i64 c, .string ⟨f.toArray⟩, .int .i64 q] 71
  generalize w.alloc (.cells #[.int .i64 c, .string ⟨f.toArray⟩, .int .i64 q] 71) = W0 at F ⊢
  have k0_0 : W0.cell? ⟨w.heap.size, 0, none⟩ = some (.int .i64 c) := F.out.cell 0 0 rfl rfl; have k0_1 : W0.cell? ⟨w.heap.size, 1, none⟩ = some (.string ⟨f.toArray⟩) := F.out.cell 0 1 rfl rfl; have k0_2 : W0.cell? ⟨w.heap.size, 2, none⟩ = some (.int .i64 q) := F.out.cell 0 2 rfl rfl
  go_wp2_with fail
  refine (HEx.out _).mono ?_
  rintro e w1 ⟨rfl, hb⟩
  (first | have F := Live.hb F hb | have F := Live.hbd F hb); clear hb
  clear k0_0 k0_1 k0_2
  have k0_0 : w1.cell? ⟨w.heap.size, 0, none⟩ = some (.int .i64 c) := F.out.cell 0 0 rfl rfl; have k0_1 : w1.cell? ⟨w.heap.size, 1, none⟩ = some (.string ⟨f.toArray⟩) := F.out.cell 0 1 rfl rfl; have k0_2 : w1.cell? ⟨w.heap.size, 2, none⟩ = some (.int .i64 q) := F.out.cell 0 2 rfl rfl
  go_wp2_with fail
  refine (HRe.out _).mono ?_
  rintro e w2 ⟨rfl, hb⟩
  (first | have F := Live.hb F hb | have F := Live.hbd F hb); clear hb
  clear k0_0 k0_1 k0_2
  have k0_0 : w2.cell? ⟨w.heap.size, 0, none⟩ = some (.int .i64 c) := F.out.cell 0 0 rfl rfl; have k0_1 : w2.cell? ⟨w.heap.size, 1, none⟩ = some (.string ⟨f.toArray⟩) := F.out.cell 0 1 rfl rfl; have k0_2 : w2.cell? ⟨w.heap.size, 2, none⟩ = some (.int .i64 q) := F.out.cell 0 2 rfl rfl
  go_wp2_with fail
  refine (HDs.out _).mono ?_
  rintro e w3 ⟨rfl, hb⟩
  (first | have F := Live.hb F hb | have F := Live.hbd F hb); clear hb
  clear k0_0 k0_1 k0_2
  unfold rcV
  go_upto_region 6 with fail
  have F := Live.ha F #[.int .i64 (n : Int), .string ⟨t.toArray⟩, .int .i64 (m : Int)] 71
  generalize w3.alloc (.cells #[.int .i64 (n : Int), .string ⟨t.toArray⟩, .int .i64 (m : Int)] 71) = W3 at F ⊢
  generalize w3.heap.size = B at F ⊢
  go_wp2_with fail
  refine (HRd.out _).mono ?_
  rintro e w4 ⟨rfl, hb⟩
  (first | have F := Live.hb F hb | have F := Live.hbd F hb); clear hb
  unfold rcV
  go_upto_region 7 with fail
  have F := Live.ha F #[.int .i64 (n : Int), .string ⟨t.toArray⟩, .int .i64 (m : Int)] 71
  generalize w4.alloc (.cells #[.int .i64 (n : Int), .string ⟨t.toArray⟩, .int .i64 (m : Int)] 71) = W4 at F ⊢
  generalize w4.heap.size = D at F ⊢
  have k0_0 : W4.cell? ⟨D, 0, none⟩ = some (.int .i64 (n : Int)) := F.out.cell 0 0 rfl rfl; have k0_1 : W4.cell? ⟨D, 1, none⟩ = some (.string ⟨t.toArray⟩) := F.out.cell 0 1 rfl rfl; have k0_2 : W4.cell? ⟨D, 2, none⟩ = some (.int .i64 (m : Int)) := F.out.cell 0 2 rfl rfl
  have k1_0 : W4.cell? ⟨B, 0, none⟩ = some (.int .i64 (n : Int)) := F.out.cell 1 0 rfl rfl; have k1_1 : W4.cell? ⟨B, 1, none⟩ = some (.string ⟨t.toArray⟩) := F.out.cell 1 1 rfl rfl; have k1_2 : W4.cell? ⟨B, 2, none⟩ = some (.int .i64 (m : Int)) := F.out.cell 1 2 rfl rfl
  go_wp2_with fail
  refine (HWk.out _ F.out.b).mono ?_
  rintro e w5 ⟨rfl, hb⟩
  (first | have F := Live.hb F hb | have F := Live.hbd F hb); clear hb
  go_wp2_with fail
  exact HP.out _ F.out.b
end Go.Proofs.YtaplecncnkkigaaDoor
