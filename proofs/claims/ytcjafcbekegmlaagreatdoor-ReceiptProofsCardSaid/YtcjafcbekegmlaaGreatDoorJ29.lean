import Derived.Test.YtcjafcbekegmlaaGreatDoorJ28
import Derived.Test.YtcjafcbekegmlaaGreatDoorJ19
set_option linter.unusedSimpArgs false
set_option linter.unusedVariables false
namespace Go.Proofs.YtcjafcbekegmlaaGreatDoor
set_option linter.unusedVariables false
open Go.RowKit Go.Instr
attribute [local go_sem] ba_get ByteArray.mk_append_mk
theorem decW_ref {s t : List UInt8} {s1 s2 s3 : List UInt8 × Nat} {n q : Nat} (hA : numS (s, 0) = (n, s1)) (hT : txtS s1 6 = (t, s2)) (hQ : numS s2 = (q, s3)) :
    decW s = if s3.2 ≠ 0 ∨ ¬ rcOk (n : Int) t (q : Int) ∨ numW n ++ (textW t ++ numW q) ≠ s then ((0, [], 0), 3) else ((n, t, q), 0) := by
  rw [decW_of hA hT hQ]
  by_cases h0 : s3.2 = 0
  · obtain ⟨f1, f2⟩ := numS_ok hQ h0
    obtain ⟨g1, g2⟩ := txtS_ok hT f1
    obtain ⟨_, k2⟩ := numS_ok hA g1
    have a1 := numT_back f2
    have a2 := (txtT_back g2).1
    have a3 := numT_back k2
    rw [a2, a1] at a3
    have e1 : endS s3 = 0 ↔ numW n ++ (textW t ++ numW q) = s := by
      have hs : s = numW n ++ (textW t ++ numW q) ++ s3.1 := by simp only at a3; rw [List.append_assoc, List.append_assoc]; exact a3
      unfold endS
      rw [h0]
      constructor
      · intro h
        have : s3.1 = [] := by
          by_cases h1 : s3.1 = []
          · exact h1
          · rw [if_pos ⟨rfl, h1⟩] at h; cases h
        rw [hs, this, List.append_nil]
      · intro h
        have : s3.1 = [] := by
          rw [hs] at h
          have := congrArg List.length h
          rw [List.length_append] at this
          exact List.eq_nil_of_length_eq_zero (by simpa using this)
        rw [if_neg (by rw [this]; simp)]
    have hn : rcOk (n : Int) t (q : Int) → ¬ 1000 < n := fun h => by have := h.2.1; omega
    by_cases hk : rcOk (n : Int) t (q : Int)
    · by_cases he : endS s3 = 0
      · rw [if_neg, if_neg]
        · rintro (h | h | h)
          · exact h h0
          · exact h hk
          · exact h (e1.1 he)
        · rintro (h | h | h)
          · exact h he
          · exact hn hk h
          · exact h hk
      · rw [if_pos (Or.inl he), if_pos (Or.inr (Or.inr fun h => he (e1.2 h)))]
    · rw [if_pos (Or.inr (Or.inr hk)), if_pos (Or.inr (Or.inl hk))]
  · rw [if_pos, if_pos (Or.inl h0)]
    left
    unfold endS
    intro h
    split at h
    · cases h
    · exact h0 h
set_option maxRecDepth 100000 in
set_option maxHeartbeats 400000 in
theorem ref17_Decode (s : List UInt8) (hs : s.length ≤ 1000000) (w : World) :
    Calls Tryz.prog 40 #[.string ⟨s.toArray⟩] w (DecEnd w (decW s)) := by
  have HT6 := Lib.hid (txtS_len (numS (s, 0)).2 6)
  have HP : Hid (∀ w' (n : Nat) t (q e : Nat), decW s = ((n, t, q), e) → Below w.heap.size w w' → DecEnd w (decW s) (.returned (.tuple #[.agg #[.int .i64 n, .string ⟨t.toArray⟩, .int .i64 q], .int .i64 e])) w') := Lib.hid (fun w' n t q e h hb => by
    rw [h]; exact ⟨rfl, hb⟩)
  generalize DecEnd w (decW s) = P at HP ⊢
  obtain ⟨n, ⟨s1, c1⟩, hA⟩ : ∃ n s1, numS (s, 0) = (n, s1) := ⟨_, _, rfl⟩
  rw [hA] at HT6
  obtain ⟨t, ⟨s2, c2⟩, hT⟩ : ∃ t s2, txtS (s1, c1) 6 = (t, s2) := ⟨_, _, rfl⟩
  rw [hT] at HT6
  obtain ⟨q, ⟨s3, c3⟩, hQ⟩ : ∃ q s3, numS (s2, c2) = (q, s3) := ⟨_, _, rfl⟩
  have HD := Lib.hid (decW_ref hA hT hQ)
  have HA := Lib.hid hA
  have HT := Lib.hid hT
  have HQ := Lib.hid hQ
  have HL := Lib.hid hs
  clear hA hT hQ hs
  go_enter Tryz.func40, Tryz.ntmps40
  go_upto_region 1 with fail
  have F := Live.ha (Lib.hid (Live.start w)) #[.int .i64 0, .string ⟨#[]⟩, .int .i64 0] 34
  generalize w.alloc (.cells #[.int .i64 0, .string ⟨#[]⟩, .int .i64 0] 34) = W0 at F ⊢
  go_upto_region 2 with fail
  have F := Live.ha F #[.string ⟨s.toArray⟩, .int .i64 0] 124
  generalize W0.alloc (.cells #[.string ⟨s.toArray⟩, .int .i64 0] 124) = W1 at F ⊢
  generalize W0.heap.size = R at F ⊢
  go_wp2_with fail
  refine (ref02_Num _ R (s, 0) ⟨F.out.blk 0 rfl, HL.out⟩).mono ?_
  rw [HA.out]
  rintro e w2 ⟨rfl, hd, hg⟩
  have HL := Lib.hid hd.2
  have F := Live.hg F 0 rfl hg hd.1
  clear hd hg
  go_wp2_with fail
  refine (ref02_RText _ R (s1, c1) ⟨F.out.blk 0 rfl, HL.out⟩ 6 (by omega)).mono ?_
  rw [HT.out]
  rintro e w3 ⟨rfl, hd, hg⟩
  have HL := Lib.hid hd.2
  have F := Live.hg F 0 rfl hg hd.1
  clear hd hg
  go_wp2_with fail
  refine (ref02_Num _ R (s2, c2) ⟨F.out.blk 0 rfl, HL.out⟩).mono ?_
  rw [HQ.out]
  rintro e w4 ⟨rfl, hd, hg⟩
  have HL := Lib.hid hd.2
  have F := Live.hg F 0 rfl hg hd.1
  clear hd hg
  go_upto_region 6 with fail
  have F := Live.ha F #[.int .i64 (n : Int), .string ⟨t.toArray⟩, .int .i64 (q : Int)] 34
  generalize w4.alloc (.cells #[.int .i64 (n : Int), .string ⟨t.toArray⟩, .int .i64 (q : Int)] 34) = W5 at F ⊢
  generalize w4.heap.size = X at F ⊢
  replace F : Hid (Live w W5 [(X, 34, #[.int .i64 (n : Int), .string ⟨t.toArray⟩, .int .i64 (q : Int)]), (R, 124, #[.string ⟨s3.toArray⟩, .int .i64 (c3 : Int)]), (w.heap.size, 34, #[.int .i64 0, .string ⟨#[]⟩, .int .i64 0])]) := F
  have k0_0 : W5.cell? ⟨X, 0, none⟩ = some (.int .i64 (n : Int)) := F.out.cell 0 0 rfl rfl; have k0_1 : W5.cell? ⟨X, 1, none⟩ = some (.string ⟨t.toArray⟩) := F.out.cell 0 1 rfl rfl; have k0_2 : W5.cell? ⟨X, 2, none⟩ = some (.int .i64 (q : Int)) := F.out.cell 0 2 rfl rfl
  have k1_0 : W5.cell? ⟨R, 0, none⟩ = some (.string ⟨s3.toArray⟩) := F.out.cell 1 0 rfl rfl; have k1_1 : W5.cell? ⟨R, 1, none⟩ = some (.int .i64 (c3 : Int)) := F.out.cell 1 1 rfl rfl
  by_cases hc : c3 = 0
  · subst hc
    have HFi := Lib.hid (fun W => ref17_Fine (n : Int) t (q : Int) (by have : t.length ≤ 6 := HT6.out; omega) W)
    unfold rcV at HFi
    go_wp2_with fail
    refine (HFi.out _).mono ?_
    rintro e w6 ⟨rfl, hb⟩
    clear k0_0 k0_1 k0_2 k1_0 k1_1
    (first | have F := Live.hb F hb | have F := Live.hbd F hb); clear hb
    have k0_0 : w6.cell? ⟨X, 0, none⟩ = some (.int .i64 (n : Int)) := F.out.cell 0 0 rfl rfl; have k0_1 : w6.cell? ⟨X, 1, none⟩ = some (.string ⟨t.toArray⟩) := F.out.cell 0 1 rfl rfl; have k0_2 : w6.cell? ⟨X, 2, none⟩ = some (.int .i64 (q : Int)) := F.out.cell 0 2 rfl rfl
    by_cases hk : rcOk (n : Int) t (q : Int)
    · rw [show decide (rcOk (n : Int) t (q : Int)) = true from decide_eq_true hk]
      have HW := Lib.hid (ref17_Written n q t (by have := hk.2.1; omega) hk.2.2.2.1 (by have := hk.2.2.2.2.2; omega))
      by_cases hw : numW n ++ (textW t ++ numW q) = s
      · have HE : Hid (decW s = ((n, t, q), 0)) := Lib.hid (by
          rw [HD.out, if_neg]
          rintro (h | h | h)
          · exact h rfl
          · exact h hk
          · exact h hw)
        rw [hw] at HW
        clear hw hk HD
        go_wp2_with fail
        refine (HW.out _).mono ?_
        rintro e w7 ⟨rfl, hb⟩
        clear k0_0 k0_1 k0_2
        (first | have F := Live.hb F hb | have F := Live.hbd F hb); clear hb
        have k0_0 : w7.cell? ⟨X, 0, none⟩ = some (.int .i64 (n : Int)) := F.out.cell 0 0 rfl rfl; have k0_1 : w7.cell? ⟨X, 1, none⟩ = some (.string ⟨t.toArray⟩) := F.out.cell 0 1 rfl rfl; have k0_2 : w7.cell? ⟨X, 2, none⟩ = some (.int .i64 (q : Int)) := F.out.cell 0 2 rfl rfl
        have k2_0 : w7.cell? ⟨w.heap.size, 0, none⟩ = some (.int .i64 0) := F.out.cell 2 0 rfl rfl; have k2_1 : w7.cell? ⟨w.heap.size, 1, none⟩ = some (.string ⟨#[]⟩) := F.out.cell 2 1 rfl rfl; have k2_2 : w7.cell? ⟨w.heap.size, 2, none⟩ = some (.int .i64 0) := F.out.cell 2 2 rfl rfl
        have f2_0 : w7.frozen? ⟨w.heap.size, 0, none⟩ = false := F.out.frozen 2 0 rfl; have f2_1 : w7.frozen? ⟨w.heap.size, 1, none⟩ = false := F.out.frozen 2 1 rfl; have f2_2 : w7.frozen? ⟨w.heap.size, 2, none⟩ = false := F.out.frozen 2 2 rfl
        go_wp2
        have F := Live.hs (Live.hs (Live.hs F 2 0 (.int .i64 (n : Int)) rfl) 2 1 (.string ⟨t.toArray⟩) rfl) 2 2 (.int .i64 (q : Int)) rfl
        clear k2_0 k2_1 k2_2 f2_0 f2_1 f2_2
        generalize ((w7.setCell ⟨w.heap.size, 0, none⟩ (.int .i64 (n : Int))).setCell ⟨w.heap.size, 1, none⟩ (.string ⟨t.toArray⟩)).setCell ⟨w.heap.size, 2, none⟩ (.int .i64 (q : Int)) = W9 at F ⊢
        have k2_0 : W9.cell? ⟨w.heap.size, 0, none⟩ = some (.int .i64 (n : Int)) := F.out.cell 2 0 rfl rfl; have k2_1 : W9.cell? ⟨w.heap.size, 1, none⟩ = some (.string ⟨t.toArray⟩) := F.out.cell 2 1 rfl rfl; have k2_2 : W9.cell? ⟨w.heap.size, 2, none⟩ = some (.int .i64 (q : Int)) := F.out.cell 2 2 rfl rfl
        (try simp only [Exit.inBlock, Exit.then])
        refine bodyPost_ret (v := .tuple #[.agg #[.int .i64 (n : Int), .string ⟨t.toArray⟩, .int .i64 (q : Int)], .int .i64 0]) (by simp [results, Tryz.results40, go_sem, k2_0, k2_1, k2_2]) rfl ?_
        exact HP.out _ _ _ _ 0 HE.out F.out.b
      · have HE : Hid (decW s = ((0, [], 0), 3)) := Lib.hid (by rw [HD.out, if_pos]; exact Or.inr (Or.inr hw))
        clear hk HD
        generalize numW n ++ (textW t ++ numW q) = u at *
        have hw1 : (u == s) = false := by simp; exact hw
        go_wp2_with fail
        refine (HW.out _).mono ?_
        rintro e w7 ⟨rfl, hb⟩
        clear k0_0 k0_1 k0_2
        (first | have F := Live.hb F hb | have F := Live.hbd F hb); clear hb
        have k2_0 : w7.cell? ⟨w.heap.size, 0, none⟩ = some (.int .i64 0) := F.out.cell 2 0 rfl rfl; have k2_1 : w7.cell? ⟨w.heap.size, 1, none⟩ = some (.string ⟨#[]⟩) := F.out.cell 2 1 rfl rfl; have k2_2 : w7.cell? ⟨w.heap.size, 2, none⟩ = some (.int .i64 0) := F.out.cell 2 2 rfl rfl
        have f2_0 : w7.frozen? ⟨w.heap.size, 0, none⟩ = false := F.out.frozen 2 0 rfl; have f2_1 : w7.frozen? ⟨w.heap.size, 1, none⟩ = false := F.out.frozen 2 1 rfl; have f2_2 : w7.frozen? ⟨w.heap.size, 2, none⟩ = false := F.out.frozen 2 2 rfl
        go_wp2
        have F := Live.hs (Live.hs (Live.hs F 2 0 (.int .i64 0) rfl) 2 1 (.string ⟨#[]⟩) rfl) 2 2 (.int .i64 0) rfl
        clear k2_0 k2_1 k2_2 f2_0 f2_1 f2_2
        generalize ((w7.setCell ⟨w.heap.size, 0, none⟩ (.int .i64 0)).setCell ⟨w.heap.size, 1, none⟩ (.string ⟨#[]⟩)).setCell ⟨w.heap.size, 2, none⟩ (.int .i64 0) = W9 at F ⊢
        have k2_0 : W9.cell? ⟨w.heap.size, 0, none⟩ = some (.int .i64 0) := F.out.cell 2 0 rfl rfl; have k2_1 : W9.cell? ⟨w.heap.size, 1, none⟩ = some (.string ⟨#[]⟩) := F.out.cell 2 1 rfl rfl; have k2_2 : W9.cell? ⟨w.heap.size, 2, none⟩ = some (.int .i64 0) := F.out.cell 2 2 rfl rfl
        (try simp only [Exit.inBlock, Exit.then])
        refine bodyPost_ret (v := .tuple #[.agg #[.int .i64 0, .string ⟨#[]⟩, .int .i64 0], .int .i64 3]) (by simp [results, Tryz.results40, go_sem, k2_0, k2_1, k2_2]) rfl ?_
        exact HP.out _ 0 _ 0 3 HE.out F.out.b
    · rw [show decide (rcOk (n : Int) t (q : Int)) = false from decide_eq_false hk]
      have HE : Hid (decW s = ((0, [], 0), 3)) := Lib.hid (by rw [HD.out, if_pos]; exact Or.inr (Or.inl hk))
      clear hk HD
      have k2_0 : w6.cell? ⟨w.heap.size, 0, none⟩ = some (.int .i64 0) := F.out.cell 2 0 rfl rfl; have k2_1 : w6.cell? ⟨w.heap.size, 1, none⟩ = some (.string ⟨#[]⟩) := F.out.cell 2 1 rfl rfl; have k2_2 : w6.cell? ⟨w.heap.size, 2, none⟩ = some (.int .i64 0) := F.out.cell 2 2 rfl rfl
      have f2_0 : w6.frozen? ⟨w.heap.size, 0, none⟩ = false := F.out.frozen 2 0 rfl; have f2_1 : w6.frozen? ⟨w.heap.size, 1, none⟩ = false := F.out.frozen 2 1 rfl; have f2_2 : w6.frozen? ⟨w.heap.size, 2, none⟩ = false := F.out.frozen 2 2 rfl
      go_wp2
      have F := Live.hs (Live.hs (Live.hs F 2 0 (.int .i64 0) rfl) 2 1 (.string ⟨#[]⟩) rfl) 2 2 (.int .i64 0) rfl
      clear k2_0 k2_1 k2_2 f2_0 f2_1 f2_2
      generalize ((w6.setCell ⟨w.heap.size, 0, none⟩ (.int .i64 0)).setCell ⟨w.heap.size, 1, none⟩ (.string ⟨#[]⟩)).setCell ⟨w.heap.size, 2, none⟩ (.int .i64 0) = W9 at F ⊢
      have k2_0 : W9.cell? ⟨w.heap.size, 0, none⟩ = some (.int .i64 0) := F.out.cell 2 0 rfl rfl; have k2_1 : W9.cell? ⟨w.heap.size, 1, none⟩ = some (.string ⟨#[]⟩) := F.out.cell 2 1 rfl rfl; have k2_2 : W9.cell? ⟨w.heap.size, 2, none⟩ = some (.int .i64 0) := F.out.cell 2 2 rfl rfl
      (try simp only [Exit.inBlock, Exit.then])
      refine bodyPost_ret (v := .tuple #[.agg #[.int .i64 0, .string ⟨#[]⟩, .int .i64 0], .int .i64 3]) (by simp [results, Tryz.results40, go_sem, k2_0, k2_1, k2_2]) rfl ?_
      exact HP.out _ 0 _ 0 3 HE.out F.out.b
  · have HE : Hid (decW s = ((0, [], 0), 3)) := Lib.hid (by rw [HD.out, if_pos]; exact Or.inl hc)
    have hc1 : ((c3 : Int) != 0) = true := by simp; exact hc
    clear hc HD
    have k2_0 : W5.cell? ⟨w.heap.size, 0, none⟩ = some (.int .i64 0) := F.out.cell 2 0 rfl rfl; have k2_1 : W5.cell? ⟨w.heap.size, 1, none⟩ = some (.string ⟨#[]⟩) := F.out.cell 2 1 rfl rfl; have k2_2 : W5.cell? ⟨w.heap.size, 2, none⟩ = some (.int .i64 0) := F.out.cell 2 2 rfl rfl
    have f2_0 : W5.frozen? ⟨w.heap.size, 0, none⟩ = false := F.out.frozen 2 0 rfl; have f2_1 : W5.frozen? ⟨w.heap.size, 1, none⟩ = false := F.out.frozen 2 1 rfl; have f2_2 : W5.frozen? ⟨w.heap.size, 2, none⟩ = false := F.out.frozen 2 2 rfl
    go_wp2
    have F := Live.hs (Live.hs (Live.hs F 2 0 (.int .i64 0) rfl) 2 1 (.string ⟨#[]⟩) rfl) 2 2 (.int .i64 0) rfl
    clear k2_0 k2_1 k2_2 f2_0 f2_1 f2_2
    generalize ((W5.setCell ⟨w.heap.size, 0, none⟩ (.int .i64 0)).setCell ⟨w.heap.size, 1, none⟩ (.string ⟨#[]⟩)).setCell ⟨w.heap.size, 2, none⟩ (.int .i64 0) = W9 at F ⊢
    have k2_0 : W9.cell? ⟨w.heap.size, 0, none⟩ = some (.int .i64 0) := F.out.cell 2 0 rfl rfl; have k2_1 : W9.cell? ⟨w.heap.size, 1, none⟩ = some (.string ⟨#[]⟩) := F.out.cell 2 1 rfl rfl; have k2_2 : W9.cell? ⟨w.heap.size, 2, none⟩ = some (.int .i64 0) := F.out.cell 2 2 rfl rfl
    (try simp only [Exit.inBlock, Exit.then])
    refine bodyPost_ret (v := .tuple #[.agg #[.int .i64 0, .string ⟨#[]⟩, .int .i64 0], .int .i64 3]) (by simp [results, Tryz.results40, go_sem, k2_0, k2_1, k2_2]) rfl ?_
    exact HP.out _ 0 _ 0 3 HE.out F.out.b
end Go.Proofs.YtcjafcbekegmlaaGreatDoor
