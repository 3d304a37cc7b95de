import Derived.Test.YtcjafcbekegmlaaGreatDoorJ09
import Derived.Test.YtcjafcbekegmlaaGreatDoorJ24
import Derived.Test.YtcjafcbekegmlaaGreatDoorJ13
set_option linter.unusedSimpArgs false
set_option linter.unusedVariables false
namespace Go.Proofs.YtcjafcbekegmlaaGreatDoor
set_option linter.unusedVariables false
open Go.RowKit Go.Instr
attribute [local go_sem] ba_get ByteArray.mk_append_mk
def nameOk (f : List UInt8) : Bool := decide (1 ≤ f.length ∧ f.length ≤ 6)
theorem ref15_Name (f : List UInt8) (hf : f.length ≤ 9223372036854775807) (w : World) :
    Calls Tryz.prog 102 #[.string ⟨f.toArray⟩] w fun e w' => e = .returned (.bool (nameOk f)) ∧ w = w' := by
  have HP : Hid (∀ b w', nameOk f = b → w = w' → (fun e w' => e = Ending.returned (.bool (nameOk f)) ∧ w = w') (Ending.returned (.bool b)) w') := Lib.hid (fun b w' h1 h2 => ⟨by rw [h1], h2⟩)
  generalize (fun e w' => e = Ending.returned (.bool (nameOk f)) ∧ w = w') = P at HP ⊢
  by_cases h1 : 1 ≤ f.length
  · have g1 : (1 : Int) ≤ (f.length : Int) := by omega
    by_cases h2 : f.length ≤ 6
    · have g2 : (f.length : Int) ≤ 6 := by omega
      have HN : Hid (nameOk f = true) := Lib.hid (by simp only [nameOk, decide_eq_true_eq]; omega)
      have g3 : (0 : Nat) < f.length := by omega
      clear h2
      go_enter Tryz.func102, Tryz.ntmps102
      go_wp2
      exact HP.out _ _ HN.out rfl
    · have g2 : ((f.length : Int) ≤ 6) = False := by simp; omega
      have HN : Hid (nameOk f = false) := Lib.hid (by simp only [nameOk, decide_eq_false_iff_not]; omega)
      have g3 : (0 : Nat) < f.length := by omega
      clear h2
      go_enter Tryz.func102, Tryz.ntmps102
      go_wp2
      exact HP.out _ _ HN.out rfl
  · obtain rfl : f = [] := List.eq_nil_of_length_eq_zero (by omega)
    have HN : Hid (nameOk [] = false) := Lib.hid rfl
    go_enter Tryz.func102, Tryz.ntmps102
    go_wp2
    exact HP.out _ _ HN.out rfl
set_option maxRecDepth 100000 in
set_option maxHeartbeats 1000000 in
theorem ref17_Fine (c : Int) (f : List UInt8) (q : Int) (hf : f.length ≤ 9223372036854775807) (w : World) :
    Calls Tryz.prog 65 #[rcV c f q] w fun e w' => e = .returned (.bool (decide (rcOk c f q))) ∧ Below w.heap.size w w' := by
  have HP : Hid (∀ b w', decide (rcOk c f q) = b → Below w.heap.size w w' → (fun e w' => e = Ending.returned (.bool (decide (rcOk c f q))) ∧ Below w.heap.size w w') (Ending.returned (.bool b)) w') := Lib.hid (fun b w' h1 h2 => ⟨by rw [h1], h2⟩)
  generalize (fun e w' => e = Ending.returned (.bool (decide (rcOk c f q))) ∧ Below w.heap.size w w') = P at HP ⊢
  have HNm := Lib.hid (fun W => ref15_Name f hf W)
  have HK : Hid (rcOk c f q ↔ 0 ≤ c ∧ c ≤ 1000 ∧ nameOk f = true ∧ 0 ≤ q ∧ q ≤ 1099511627776) := Lib.hid (by
    unfold rcOk nameOk
    rw [decide_eq_true_eq]
    constructor
    · rintro ⟨a, b, d, e, g, i⟩
      refine ⟨a, b, ⟨?_, e⟩, g, i⟩
      rcases f with _ | _
      · exact absurd rfl d
      · simp
    · rintro ⟨a, b, ⟨d, e⟩, g, i⟩
      refine ⟨a, b, ?_, e, g, i⟩
      rintro rfl
      simp at d)
  unfold rcV
  generalize nameOk f = nb at HNm HK
  clear hf
  by_cases h1 : 0 ≤ c
  · by_cases h2 : c ≤ 1000
    · cases nb with
      | true =>
        by_cases h3 : 0 ≤ q
        · by_cases h4 : q ≤ 1099511627776
          · have HD : Hid (decide (rcOk c f q) = true) := Lib.hid (decide_eq_true (HK.out.2 ⟨h1, h2, rfl, h3, h4⟩))
            clear HK
            go_enter Tryz.func65, Tryz.ntmps65
            go_upto_region 1 with fail
            have F0 : Hid (Blk (w.alloc (.cells #[.int .i64 c, .string ⟨f.toArray⟩, .int .i64 q] 34)) w.heap.size 34 #[.int .i64 c, .string ⟨f.toArray⟩, .int .i64 q] ∧ Below w.heap.size w (w.alloc (.cells #[.int .i64 c, .string ⟨f.toArray⟩, .int .i64 q] 34))) := Lib.hid ⟨Blk.new _ _ _, by go_grown⟩
            generalize w.alloc (.cells #[.int .i64 c, .string ⟨f.toArray⟩, .int .i64 q] 34) = W0 at F0 ⊢
            have HLt := Lib.hid F0.out.1.lt
            have k0 : W0.cell? ⟨w.heap.size, 0, none⟩ = some (.int .i64 c) := F0.out.1.cell 0
            have k1 : W0.cell? ⟨w.heap.size, 1, none⟩ = some (.string ⟨f.toArray⟩) := F0.out.1.cell 1
            have k2 : W0.cell? ⟨w.heap.size, 2, none⟩ = some (.int .i64 q) := F0.out.1.cell 2
            generalize hB : w.heap.size = B at *
            clear hB
            go_wp2_with (go_at_call 102; refine (HNm.out _).mono ?_; rintro e w1 ⟨rfl, rfl⟩)
            exact HP.out _ _ HD.out F0.out.2
          · have HD : Hid (decide (rcOk c f q) = false) := Lib.hid (decide_eq_false (fun h => h4 (HK.out.1 h).2.2.2.2))
            clear HK
            have g4 : (q ≤ 1099511627776) = False := by simp; omega
            go_enter Tryz.func65, Tryz.ntmps65
            go_upto_region 1 with fail
            have F0 : Hid (Blk (w.alloc (.cells #[.int .i64 c, .string ⟨f.toArray⟩, .int .i64 q] 34)) w.heap.size 34 #[.int .i64 c, .string ⟨f.toArray⟩, .int .i64 q] ∧ Below w.heap.size w (w.alloc (.cells #[.int .i64 c, .string ⟨f.toArray⟩, .int .i64 q] 34))) := Lib.hid ⟨Blk.new _ _ _, by go_grown⟩
            generalize w.alloc (.cells #[.int .i64 c, .string ⟨f.toArray⟩, .int .i64 q] 34) = W0 at F0 ⊢
            have HLt := Lib.hid F0.out.1.lt
            have k0 : W0.cell? ⟨w.heap.size, 0, none⟩ = some (.int .i64 c) := F0.out.1.cell 0
            have k1 : W0.cell? ⟨w.heap.size, 1, none⟩ = some (.string ⟨f.toArray⟩) := F0.out.1.cell 1
            have k2 : W0.cell? ⟨w.heap.size, 2, none⟩ = some (.int .i64 q) := F0.out.1.cell 2
            generalize hB : w.heap.size = B at *
            clear hB
            go_wp2_with (go_at_call 102; refine (HNm.out _).mono ?_; rintro e w1 ⟨rfl, rfl⟩)
            exact HP.out _ _ HD.out F0.out.2
        · have HD : Hid (decide (rcOk c f q) = false) := Lib.hid (decide_eq_false (fun h => h3 (HK.out.1 h).2.2.2.1))
          clear HK
          have g3 : (0 ≤ q) = False := by simp; omega
          go_enter Tryz.func65, Tryz.ntmps65
          go_upto_region 1 with fail
          have F0 : Hid (Blk (w.alloc (.cells #[.int .i64 c, .string ⟨f.toArray⟩, .int .i64 q] 34)) w.heap.size 34 #[.int .i64 c, .string ⟨f.toArray⟩, .int .i64 q] ∧ Below w.heap.size w (w.alloc (.cells #[.int .i64 c, .string ⟨f.toArray⟩, .int .i64 q] 34))) := Lib.hid ⟨Blk.new _ _ _, by go_grown⟩
          generalize w.alloc (.cells #[.int .i64 c, .string ⟨f.toArray⟩, .int .i64 q] 34) = W0 at F0 ⊢
          have HLt := Lib.hid F0.out.1.lt
          have k0 : W0.cell? ⟨w.heap.size, 0, none⟩ = some (.int .i64 c) := F0.out.1.cell 0
          have k1 : W0.cell? ⟨w.heap.size, 1, none⟩ = some (.string ⟨f.toArray⟩) := F0.out.1.cell 1
          have k2 : W0.cell? ⟨w.heap.size, 2, none⟩ = some (.int .i64 q) := F0.out.1.cell 2
          generalize hB : w.heap.size = B at *
          clear hB
          go_wp2_with (go_at_call 102; refine (HNm.out _).mono ?_; rintro e w1 ⟨rfl, rfl⟩)
          exact HP.out _ _ HD.out F0.out.2
      | false =>
        have HD : Hid (decide (rcOk c f q) = false) := Lib.hid (decide_eq_false (fun h => by have := (HK.out.1 h).2.2.1; cases this))
        clear HK
        go_enter Tryz.func65, Tryz.ntmps65
        go_upto_region 1 with fail
        have F0 : Hid (Blk (w.alloc (.cells #[.int .i64 c, .string ⟨f.toArray⟩, .int .i64 q] 34)) w.heap.size 34 #[.int .i64 c, .string ⟨f.toArray⟩, .int .i64 q] ∧ Below w.heap.size w (w.alloc (.cells #[.int .i64 c, .string ⟨f.toArray⟩, .int .i64 q] 34))) := Lib.hid ⟨Blk.new _ _ _, by go_grown⟩
        generalize w.alloc (.cells #[.int .i64 c, .string ⟨f.toArray⟩, .int .i64 q] 34) = W0 at F0 ⊢
        have HLt := Lib.hid F0.out.1.lt
        have k0 : W0.cell? ⟨w.heap.size, 0, none⟩ = some (.int .i64 c) := F0.out.1.cell 0
        have k1 : W0.cell? ⟨w.heap.size, 1, none⟩ = some (.string ⟨f.toArray⟩) := F0.out.1.cell 1
        have k2 : W0.cell? ⟨w.heap.size, 2, none⟩ = some (.int .i64 q) := F0.out.1.cell 2
        generalize hB : w.heap.size = B at *
        clear hB
        go_wp2_with (go_at_call 102; refine (HNm.out _).mono ?_; rintro e w1 ⟨rfl, rfl⟩)
        exact HP.out _ _ HD.out F0.out.2
    · have HD : Hid (decide (rcOk c f q) = false) := Lib.hid (decide_eq_false (fun h => h2 (HK.out.1 h).2.1))
      clear HK
      have g2 : (c ≤ 1000) = False := by simp; omega
      go_enter Tryz.func65, Tryz.ntmps65
      go_upto_region 1 with fail
      have F0 : Hid (Blk (w.alloc (.cells #[.int .i64 c, .string ⟨f.toArray⟩, .int .i64 q] 34)) w.heap.size 34 #[.int .i64 c, .string ⟨f.toArray⟩, .int .i64 q] ∧ Below w.heap.size w (w.alloc (.cells #[.int .i64 c, .string ⟨f.toArray⟩, .int .i64 q] 34))) := Lib.hid ⟨Blk.new _ _ _, by go_grown⟩
      generalize w.alloc (.cells #[.int .i64 c, .string ⟨f.toArray⟩, .int .i64 q] 34) = W0 at F0 ⊢
      have HLt := Lib.hid F0.out.1.lt
      have k0 : W0.cell? ⟨w.heap.size, 0, none⟩ = some (.int .i64 c) := F0.out.1.cell 0
      have k1 : W0.cell? ⟨w.heap.size, 1, none⟩ = some (.string ⟨f.toArray⟩) := F0.out.1.cell 1
      have k2 : W0.cell? ⟨w.heap.size, 2, none⟩ = some (.int .i64 q) := F0.out.1.cell 2
      generalize hB : w.heap.size = B at *
      clear hB
      go_wp2_with (go_at_call 102; refine (HNm.out _).mono ?_; rintro e w1 ⟨rfl, rfl⟩)
      exact HP.out _ _ HD.out F0.out.2
  · have HD : Hid (decide (rcOk c f q) = false) := Lib.hid (decide_eq_false (fun h => h1 (HK.out.1 h).1))
    clear HK
    have g1 : (0 ≤ c) = False := by simp; omega
    go_enter Tryz.func65, Tryz.ntmps65
    go_upto_region 1 with fail
    have F0 : Hid (Blk (w.alloc (.cells #[.int .i64 c, .string ⟨f.toArray⟩, .int .i64 q] 34)) w.heap.size 34 #[.int .i64 c, .string ⟨f.toArray⟩, .int .i64 q] ∧ Below w.heap.size w (w.alloc (.cells #[.int .i64 c, .string ⟨f.toArray⟩, .int .i64 q] 34))) := Lib.hid ⟨Blk.new _ _ _, by go_grown⟩
    generalize w.alloc (.cells #[.int .i64 c, .string ⟨f.toArray⟩, .int .i64 q] 34) = W0 at F0 ⊢
    have HLt := Lib.hid F0.out.1.lt
    have k0 : W0.cell? ⟨w.heap.size, 0, none⟩ = some (.int .i64 c) := F0.out.1.cell 0
    have k1 : W0.cell? ⟨w.heap.size, 1, none⟩ = some (.string ⟨f.toArray⟩) := F0.out.1.cell 1
    have k2 : W0.cell? ⟨w.heap.size, 2, none⟩ = some (.int .i64 q) := F0.out.1.cell 2
    generalize hB : w.heap.size = B at *
    clear hB
    go_wp2_with (go_at_call 102; refine (HNm.out _).mono ?_; rintro e w1 ⟨rfl, rfl⟩)
    exact HP.out _ _ HD.out F0.out.2
end Go.Proofs.YtcjafcbekegmlaaGreatDoor

namespace Go.Proofs.YtcjafcbekegmlaaGreatDoor
set_option linter.unusedVariables false
open Go.RowKit Go.Instr
attribute [local go_sem] ba_get ByteArray.mk_append_mk
set_option maxRecDepth 100000 in
set_option maxHeartbeats 1000000 in
theorem ref17_Written (c q : Nat) (f : List UInt8) (hc : c ≤ 1000) (hf : f.length ≤ 6) (hq : q ≤ 1099511627776) (w : World) :
    Calls Tryz.prog 66 #[.agg #[.int .i64 c, .string ⟨f.toArray⟩, .int .i64 q]] w (Ret w (.string ⟨(numW c ++ (textW f ++ numW q)).toArray⟩)) := by
  have HP : Hid (∀ w', Below w.heap.size w w' → Ret w (.string ⟨(numW c ++ (textW f ++ numW q)).toArray⟩) (Ending.returned (.string ⟨(numW c ++ (textW f ++ numW q)).toArray⟩)) w') := Lib.hid (fun w' h2 => ⟨rfl, h2⟩)
  generalize Ret w (.string ⟨(numW c ++ (textW f ++ numW q)).toArray⟩) = P at HP ⊢
  have HC : Hid (∀ W, Calls Tryz.prog 103 #[.int .i64 (c : Int)] W (Ret W (.string ⟨(numW c).toArray⟩))) := Lib.hid (fun W => ref02_Number c (by omega) W)
  have HQ : Hid (∀ W, Calls Tryz.prog 103 #[.int .i64 (q : Int)] W (Ret W (.string ⟨(numW q).toArray⟩))) := Lib.hid (fun W => ref02_Number q (by omega) W)
  have HT : Hid (∀ W, Calls Tryz.prog 104 #[.string ⟨f.toArray⟩] W (Ret W (.string ⟨(textW f).toArray⟩))) := Lib.hid (fun W => ref02_Text f (by omega) W)
  have l1 := numW_len c (by omega)
  have l2 : (textW f).length ≤ 100 := by rw [textW, List.length_append]; have := numW_len f.length (by omega); omega
  have l3 := numW_len q (by omega)
  clear hc hf hq
  generalize numW c = X at *
  generalize textW f = Y at *
  generalize numW q = Z at *
  have n1 : (9223372036854775807 < X.length + Y.length) = False := by simp; omega
  have n2 : (9223372036854775807 < X.length + Y.length + Z.length) = False := by simp; omega
  have m1 : X.length + Y.length ≤ 9223372036854775807 := by omega
  have m2 : X.length + Y.length + Z.length ≤ 9223372036854775807 := by omega
  have m3 : X.length + (Y.length + Z.length) ≤ 9223372036854775807 := by omega
  clear l1 l2 l3
  go_enter Tryz.func66, Tryz.ntmps66
  go_upto_region 1 with fail
  have F := Live.ha (Lib.hid (Live.start w)) #[.int .i64 c, .string ⟨f.toArray⟩, .int .i64 q] 34
  generalize w.alloc (.cells #[.int .i64 c, .string ⟨f.toArray⟩, .int .i64 q] 34) = W1 at F ⊢
  have k0_0 : W1.cell? ⟨w.heap.size, 0, none⟩ = some (.int .i64 (c : Int)) := F.out.cell 0 0 rfl rfl; have k0_1 : W1.cell? ⟨w.heap.size, 1, none⟩ = some (.string ⟨f.toArray⟩) := F.out.cell 0 1 rfl rfl; have k0_2 : W1.cell? ⟨w.heap.size, 2, none⟩ = some (.int .i64 (q : Int)) := F.out.cell 0 2 rfl rfl
  go_region_held3 (fun w' => w'.cell? ⟨w.heap.size, 0, none⟩ = some (.int .i64 (c : Int)) ∧ w'.cell? ⟨w.heap.size, 1, none⟩ = some (.string ⟨f.toArray⟩) ∧ w'.cell? ⟨w.heap.size, 2, none⟩ = some (.int .i64 (q : Int))) (first | go_keep | (refine ⟨?_, ?_, ?_⟩ <;> assumption)) (first | (go_at_call 103; ((with_reducible refine (HC.out _).mono ?_); (rintro e w1 ⟨rfl, hb⟩; (first | have F := Live.hb F hb | have F := Live.hbd F hb); clear hb; have k0_0 : w1.cell? ⟨w.heap.size, 0, none⟩ = some (.int .i64 (c : Int)) := F.out.cell 0 0 rfl rfl; have k0_1 : w1.cell? ⟨w.heap.size, 1, none⟩ = some (.string ⟨f.toArray⟩) := F.out.cell 0 1 rfl rfl; have k0_2 : w1.cell? ⟨w.heap.size, 2, none⟩ = some (.int .i64 (q : Int)) := F.out.cell 0 2 rfl rfl))) | (go_at_call 103; ((with_reducible refine (HQ.out _).mono ?_); (rintro e w1 ⟨rfl, hb⟩; (first | have F := Live.hb F hb | have F := Live.hbd F hb); clear hb; have k0_0 : w1.cell? ⟨w.heap.size, 0, none⟩ = some (.int .i64 (c : Int)) := F.out.cell 0 0 rfl rfl; have k0_1 : w1.cell? ⟨w.heap.size, 1, none⟩ = some (.string ⟨f.toArray⟩) := F.out.cell 0 1 rfl rfl; have k0_2 : w1.cell? ⟨w.heap.size, 2, none⟩ = some (.int .i64 (q : Int)) := F.out.cell 0 2 rfl rfl))) | (go_at_call 104; ((with_reducible refine (HT.out _).mono ?_); (rintro e w1 ⟨rfl, hb⟩; (first | have F := Live.hb F hb | have F := Live.hbd F hb); clear hb; have k0_0 : w1.cell? ⟨w.heap.size, 0, none⟩ = some (.int .i64 (c : Int)) := F.out.cell 0 0 rfl rfl; have k0_1 : w1.cell? ⟨w.heap.size, 1, none⟩ = some (.string ⟨f.toArray⟩) := F.out.cell 0 1 rfl rfl; have k0_2 : w1.cell? ⟨w.heap.size, 2, none⟩ = some (.int .i64 (q : Int)) := F.out.cell 0 2 rfl rfl))))
  all_goals go_wp2
  all_goals exact HP.out _ F.out.b
end Go.Proofs.YtcjafcbekegmlaaGreatDoor
