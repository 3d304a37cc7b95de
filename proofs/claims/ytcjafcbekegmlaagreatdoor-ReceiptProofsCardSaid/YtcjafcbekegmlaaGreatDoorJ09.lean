import Derived.Test.YtcjafcbekegmlaaGreatDoorJ06
import Derived.Test.YtcjafcbekegmlaaGreatDoorJ08
set_option linter.unusedSimpArgs false
set_option linter.unusedVariables false
namespace Go.Proofs.YtcjafcbekegmlaaGreatDoor
set_option linter.unusedVariables false
open Go.RowKit Go.Instr
attribute [local go_sem] ba_get ByteArray.mk_append_mk
def rcV (c : Int) (f : List UInt8) (q : Int) : Value := .agg #[.int .i64 c, .string ⟨f.toArray⟩, .int .i64 q]
def rcOk (c : Int) (f : List UInt8) (q : Int) : Prop := 0 ≤ c ∧ c ≤ 1000 ∧ f ≠ [] ∧ f.length ≤ 6 ∧ 0 ≤ q ∧ q ≤ 1099511627776
instance (c : Int) (f : List UInt8) (q : Int) : Decidable (rcOk c f q) := by unfold rcOk; infer_instance
def encW (c : Int) (f : List UInt8) (q : Int) : List UInt8 × Nat := if rcOk c f q then (numW c.toNat ++ textW f ++ numW q.toNat, 0) else ([], 3)
def REncEnd (w : World) (r : List UInt8 × Nat) (e : Ending) (w' : World) : Prop := e = .returned (.tuple #[.string ⟨r.1.toArray⟩, .int .i64 (r.2 : Int)]) ∧ Below w.heap.size w w'
set_option maxRecDepth 100000 in
set_option maxHeartbeats 4000000 in
theorem receipt_Encode (c : Int) (f : List UInt8) (q : Int) (hf : f.length ≤ 9223372036854775807) (w : World) :
    Calls Tryz.prog 29 #[rcV c f q] w (REncEnd w (encW c f q)) := by
  have HB : Hid (¬ rcOk c f q → ∀ w', Below w.heap.size w w' → REncEnd w (encW c f q) (.returned (.tuple #[.string ⟨#[]⟩, .int .i64 3])) w') := Lib.hid (fun h w' hb => by
    rw [encW, if_neg h]; exact ⟨rfl, hb⟩)
  have HG : Hid (rcOk c f q → ∀ w', Below w.heap.size w w' → REncEnd w (encW c f q) (.returned (.tuple #[.string ⟨(numW c.toNat ++ textW f ++ numW q.toNat).toArray⟩, .int .i64 0])) w') := Lib.hid (fun h w' hb => by
    rw [encW, if_pos h]; exact ⟨rfl, hb⟩)
  generalize REncEnd w (encW c f q) = P at HB HG ⊢
  unfold rcV
  by_cases h1 : c < 0
  · have HNo : Hid (¬ rcOk c f q) := Lib.hid (fun h => by have := h.1; omega)
    have g1 : (c < 0) = True := by simp [h1]
    clear hf h1
    clear HG
    go_enter Tryz.func29, Tryz.ntmps29
    go_upto_region 1 with fail
    have F0 : Hid (Blk (w.alloc (.cells #[.int .i64 c, .string ⟨f.toArray⟩, .int .i64 q] 34)) w.heap.size 34 #[.int .i64 c, .string ⟨f.toArray⟩, .int .i64 q] ∧ Below w.heap.size w (w.alloc (.cells #[.int .i64 c, .string ⟨f.toArray⟩, .int .i64 q] 34))) := Lib.hid ⟨Blk.new _ _ _, by go_grown⟩
    generalize w.alloc (.cells #[.int .i64 c, .string ⟨f.toArray⟩, .int .i64 q] 34) = W0 at F0 ⊢
    have k0 : W0.cell? ⟨w.heap.size, 0, none⟩ = some (.int .i64 c) := F0.out.1.cell 0
    have k1 : W0.cell? ⟨w.heap.size, 1, none⟩ = some (.string ⟨f.toArray⟩) := F0.out.1.cell 1
    have k2 : W0.cell? ⟨w.heap.size, 2, none⟩ = some (.int .i64 q) := F0.out.1.cell 2
    generalize w.heap.size = B at *
    go_wp2
    first | exact HB.out HNo.out _ F0.out.2 | (go_ret; exact HB.out HNo.out _ F0.out.2)
  have g1 : (c < 0) = False := by simp; omega
  by_cases h2 : 1000 < c
  · have HNo : Hid (¬ rcOk c f q) := Lib.hid (fun h => by have := h.2.1; omega)
    clear hf h1
    clear HG
    go_enter Tryz.func29, Tryz.ntmps29
    go_upto_region 1 with fail
    have F0 : Hid (Blk (w.alloc (.cells #[.int .i64 c, .string ⟨f.toArray⟩, .int .i64 q] 34)) w.heap.size 34 #[.int .i64 c, .string ⟨f.toArray⟩, .int .i64 q] ∧ Below w.heap.size w (w.alloc (.cells #[.int .i64 c, .string ⟨f.toArray⟩, .int .i64 q] 34))) := Lib.hid ⟨Blk.new _ _ _, by go_grown⟩
    generalize w.alloc (.cells #[.int .i64 c, .string ⟨f.toArray⟩, .int .i64 q] 34) = W0 at F0 ⊢
    have k0 : W0.cell? ⟨w.heap.size, 0, none⟩ = some (.int .i64 c) := F0.out.1.cell 0
    have k1 : W0.cell? ⟨w.heap.size, 1, none⟩ = some (.string ⟨f.toArray⟩) := F0.out.1.cell 1
    have k2 : W0.cell? ⟨w.heap.size, 2, none⟩ = some (.int .i64 q) := F0.out.1.cell 2
    generalize w.heap.size = B at *
    go_wp2
    first | exact HB.out HNo.out _ F0.out.2 | (go_ret; exact HB.out HNo.out _ F0.out.2)
  have g2 : (1000 < c) = False := by simp; omega
  by_cases h3 : f = []
  · have HNo : Hid (¬ rcOk c f q) := Lib.hid (fun h => h.2.2.1 h3)
    subst h3
    clear hf h1 h2
    clear HG
    go_enter Tryz.func29, Tryz.ntmps29
    go_upto_region 1 with fail
    have F0 : Hid (Blk (w.alloc (.cells #[.int .i64 c, .string ⟨#[]⟩, .int .i64 q] 34)) w.heap.size 34 #[.int .i64 c, .string ⟨#[]⟩, .int .i64 q] ∧ Below w.heap.size w (w.alloc (.cells #[.int .i64 c, .string ⟨#[]⟩, .int .i64 q] 34))) := Lib.hid ⟨Blk.new _ _ _, by go_grown⟩
    generalize w.alloc (.cells #[.int .i64 c, .string ⟨#[]⟩, .int .i64 q] 34) = W0 at F0 ⊢
    have k0 : W0.cell? ⟨w.heap.size, 0, none⟩ = some (.int .i64 c) := F0.out.1.cell 0
    have k1 : W0.cell? ⟨w.heap.size, 1, none⟩ = some (.string ⟨#[]⟩) := F0.out.1.cell 1
    have k2 : W0.cell? ⟨w.heap.size, 2, none⟩ = some (.int .i64 q) := F0.out.1.cell 2
    generalize w.heap.size = B at *
    go_wp2
    first | exact HB.out HNo.out _ F0.out.2 | (go_ret; exact HB.out HNo.out _ F0.out.2)
  have g3 : (f = []) = False := by simp [h3]
  have g3b : f.isEmpty = false := by simp [h3]
  by_cases h4 : 6 < f.length
  · have HNo : Hid (¬ rcOk c f q) := Lib.hid (fun h => by have := h.2.2.2.1; omega)
    have g4 : (6 : Int) < (f.length : Int) := by omega
    clear hf h1 h2 h3 h4
    clear HG
    go_enter Tryz.func29, Tryz.ntmps29
    go_upto_region 1 with fail
    have F0 : Hid (Blk (w.alloc (.cells #[.int .i64 c, .string ⟨f.toArray⟩, .int .i64 q] 34)) w.heap.size 34 #[.int .i64 c, .string ⟨f.toArray⟩, .int .i64 q] ∧ Below w.heap.size w (w.alloc (.cells #[.int .i64 c, .string ⟨f.toArray⟩, .int .i64 q] 34))) := Lib.hid ⟨Blk.new _ _ _, by go_grown⟩
    generalize w.alloc (.cells #[.int .i64 c, .string ⟨f.toArray⟩, .int .i64 q] 34) = W0 at F0 ⊢
    have k0 : W0.cell? ⟨w.heap.size, 0, none⟩ = some (.int .i64 c) := F0.out.1.cell 0
    have k1 : W0.cell? ⟨w.heap.size, 1, none⟩ = some (.string ⟨f.toArray⟩) := F0.out.1.cell 1
    have k2 : W0.cell? ⟨w.heap.size, 2, none⟩ = some (.int .i64 q) := F0.out.1.cell 2
    generalize w.heap.size = B at *
    go_wp2
    first | exact HB.out HNo.out _ F0.out.2 | (go_ret; exact HB.out HNo.out _ F0.out.2)
  have g4 : ((6 : Int) < (f.length : Int)) = False := by simp; omega
  by_cases h5 : q < 0
  · have HNo : Hid (¬ rcOk c f q) := Lib.hid (fun h => by have := h.2.2.2.2.1; omega)
    clear hf h1 h2 h3 h4
    clear HG
    go_enter Tryz.func29, Tryz.ntmps29
    go_upto_region 1 with fail
    have F0 : Hid (Blk (w.alloc (.cells #[.int .i64 c, .string ⟨f.toArray⟩, .int .i64 q] 34)) w.heap.size 34 #[.int .i64 c, .string ⟨f.toArray⟩, .int .i64 q] ∧ Below w.heap.size w (w.alloc (.cells #[.int .i64 c, .string ⟨f.toArray⟩, .int .i64 q] 34))) := Lib.hid ⟨Blk.new _ _ _, by go_grown⟩
    generalize w.alloc (.cells #[.int .i64 c, .string ⟨f.toArray⟩, .int .i64 q] 34) = W0 at F0 ⊢
    have k0 : W0.cell? ⟨w.heap.size, 0, none⟩ = some (.int .i64 c) := F0.out.1.cell 0
    have k1 : W0.cell? ⟨w.heap.size, 1, none⟩ = some (.string ⟨f.toArray⟩) := F0.out.1.cell 1
    have k2 : W0.cell? ⟨w.heap.size, 2, none⟩ = some (.int .i64 q) := F0.out.1.cell 2
    generalize w.heap.size = B at *
    go_wp2
    first | exact HB.out HNo.out _ F0.out.2 | (go_ret; exact HB.out HNo.out _ F0.out.2)
  have g5 : (q < 0) = False := by simp; omega
  by_cases h6 : 1099511627776 < q
  · have HNo : Hid (¬ rcOk c f q) := Lib.hid (fun h => by have := h.2.2.2.2.2; omega)
    clear hf h1 h2 h3 h4 h5
    clear HG
    go_enter Tryz.func29, Tryz.ntmps29
    go_upto_region 1 with fail
    have F0 : Hid (Blk (w.alloc (.cells #[.int .i64 c, .string ⟨f.toArray⟩, .int .i64 q] 34)) w.heap.size 34 #[.int .i64 c, .string ⟨f.toArray⟩, .int .i64 q] ∧ Below w.heap.size w (w.alloc (.cells #[.int .i64 c, .string ⟨f.toArray⟩, .int .i64 q] 34))) := Lib.hid ⟨Blk.new _ _ _, by go_grown⟩
    generalize w.alloc (.cells #[.int .i64 c, .string ⟨f.toArray⟩, .int .i64 q] 34) = W0 at F0 ⊢
    have k0 : W0.cell? ⟨w.heap.size, 0, none⟩ = some (.int .i64 c) := F0.out.1.cell 0
    have k1 : W0.cell? ⟨w.heap.size, 1, none⟩ = some (.string ⟨f.toArray⟩) := F0.out.1.cell 1
    have k2 : W0.cell? ⟨w.heap.size, 2, none⟩ = some (.int .i64 q) := F0.out.1.cell 2
    generalize w.heap.size = B at *
    go_wp2
    first | exact HB.out HNo.out _ F0.out.2 | (go_ret; exact HB.out HNo.out _ F0.out.2)
  have g6 : (1099511627776 < q) = False := by simp; omega
  have HYes : Hid (rcOk c f q) := Lib.hid ⟨by omega, by omega, h3, by omega, by omega, by omega⟩
  obtain ⟨cn, rfl⟩ := Int.eq_ofNat_of_zero_le (show 0 ≤ c by omega)
  obtain ⟨qn, rfl⟩ := Int.eq_ofNat_of_zero_le (show 0 ≤ q by omega)
  have N1 : Hid (∀ W : World, Calls Tryz.prog 59 #[.int .i64 (cn : Int)] W fun e w' => e = .returned (.tuple #[.string ⟨(numW cn).toArray⟩, .int .i64 0]) ∧ Below W.heap.size W w') := Lib.hid (fun W => code_Num cn (by omega) W)
  have N2 : Hid (∀ W : World, Calls Tryz.prog 59 #[.int .i64 (qn : Int)] W fun e w' => e = .returned (.tuple #[.string ⟨(numW qn).toArray⟩, .int .i64 0]) ∧ Below W.heap.size W w') := Lib.hid (fun W => code_Num qn (by omega) W)
  have N3 : Hid (∀ W : World, Calls Tryz.prog 60 #[.string ⟨f.toArray⟩] W fun e w' => e = .returned (.string ⟨(textW f).toArray⟩) ∧ Below W.heap.size W w') := Lib.hid (fun W => code_Text f (by omega) W)
  replace HG := Lib.hid (HG.out HYes.out)
  simp only [Int.toNat_natCast] at HG
  have HL : Hid ((numW cn).length ≤ 9 ∧ (textW f).length ≤ 1000009 ∧ (numW qn).length ≤ 9) := Lib.hid ⟨numW_len cn (by omega), by rw [textW, List.length_append]; have := numW_len f.length (by omega); omega, numW_len qn (by omega)⟩
  clear HB HYes hf h1 h2 h3 h4 h5 h6
  go_enter Tryz.func29, Tryz.ntmps29
  go_upto_region 1 with fail
  have F0 : Hid (Blk (w.alloc (.cells #[.int .i64 (cn : Int), .string ⟨f.toArray⟩, .int .i64 (qn : Int)] 34)) w.heap.size 34 #[.int .i64 (cn : Int), .string ⟨f.toArray⟩, .int .i64 (qn : Int)] ∧ Below w.heap.size w (w.alloc (.cells #[.int .i64 (cn : Int), .string ⟨f.toArray⟩, .int .i64 (qn : Int)] 34))) := Lib.hid ⟨Blk.new _ _ _, by go_grown⟩
  generalize w.alloc (.cells #[.int .i64 (cn : Int), .string ⟨f.toArray⟩, .int .i64 (qn : Int)] 34) = W0 at F0 ⊢
  have HLt := Lib.hid F0.out.1.lt
  have k0 : W0.cell? ⟨w.heap.size, 0, none⟩ = some (.int .i64 (cn : Int)) := F0.out.1.cell 0
  have k1 : W0.cell? ⟨w.heap.size, 1, none⟩ = some (.string ⟨f.toArray⟩) := F0.out.1.cell 1
  have k2 : W0.cell? ⟨w.heap.size, 2, none⟩ = some (.int .i64 (qn : Int)) := F0.out.1.cell 2
  generalize hB : w.heap.size = B at *
  clear hB
  go_wp2_with fail
  refine (N1.out _).mono ?_
  rintro e w1 ⟨rfl, hb⟩
  have F1 : Hid (W0.heap.size ≤ w1.heap.size ∧ Below B w w1) := Lib.hid ⟨hb.size, F0.out.2.trans (hb.mono (Nat.le_of_lt HLt.out))⟩
  have j0 := (hb.cell (p := ⟨B, 0, none⟩) HLt.out).trans k0
  have j1 := (hb.cell (p := ⟨B, 1, none⟩) HLt.out).trans k1
  have j2 := (hb.cell (p := ⟨B, 2, none⟩) HLt.out).trans k2
  clear hb k0 k1 k2
  go_wp2_with fail
  refine (N2.out _).mono ?_
  rintro e w2 ⟨rfl, hb⟩
  have F2 : Hid (W0.heap.size ≤ w2.heap.size ∧ Below B w w2) := Lib.hid ⟨Nat.le_trans F1.out.1 hb.size, F1.out.2.trans (hb.mono (Nat.le_of_lt (Nat.lt_of_lt_of_le HLt.out F1.out.1)))⟩
  have k1 := (hb.cell (p := ⟨B, 1, none⟩) (Nat.lt_of_lt_of_le HLt.out F1.out.1)).trans j1
  clear hb j0 j1 j2
  go_wp2_with fail
  refine (N3.out _).mono ?_
  rintro e w3 ⟨rfl, hb⟩
  have F3 : Hid (Below B w w3) := Lib.hid (F2.out.2.trans (hb.mono (Nat.le_of_lt (Nat.lt_of_lt_of_le HLt.out F2.out.1))))
  clear hb k1
  obtain ⟨l1, l2, l3⟩ := HL.out
  clear HL N1 N2 N3
  generalize numW cn = X at *
  generalize textW f = Y at *
  generalize numW qn = Z at *
  have m1 : X.length + Y.length ≤ 9223372036854775807 := by omega
  have m2 : X.length + Y.length + Z.length ≤ 9223372036854775807 := by omega
  have m3 : X.length + (Y.length + Z.length) ≤ 9223372036854775807 := by omega
  clear l1 l2 l3
  go_wp2
  first | exact HG.out _ F3.out | (simp only [List.append_assoc] at HG ⊢; exact HG.out _ F3.out)
end Go.Proofs.YtcjafcbekegmlaaGreatDoor

namespace Go.Proofs.YtcjafcbekegmlaaGreatDoor
set_option linter.unusedVariables false
open Go.RowKit Go.Instr
attribute [local go_sem] ba_get ByteArray.mk_append_mk
def decW (s : List UInt8) : (Nat × List UInt8 × Nat) × Nat :=
  if endS (numS (txtS (numS (s, 0)).2 6).2).2 ≠ 0 ∨ 1000 < (numS (s, 0)).1 ∨ ¬ rcOk ((numS (s, 0)).1 : Int) (txtS (numS (s, 0)).2 6).1 ((numS (txtS (numS (s, 0)).2 6).2).1 : Int) then ((0, [], 0), 3)
  else (((numS (s, 0)).1, (txtS (numS (s, 0)).2 6).1, (numS (txtS (numS (s, 0)).2 6).2).1), 0)
theorem txtS_len (s : List UInt8 × Nat) (m : Nat) : (txtS s m).1.length ≤ m := by
  unfold txtS
  split
  · simp
  split
  · unfold txtT
    split
    · simp
    split
    · simp
    split
    · simp
    · rw [List.length_take]; omega
  · simp
theorem decW_of {s t : List UInt8} {s1 s2 s3 : List UInt8 × Nat} {n q : Nat} (hA : numS (s, 0) = (n, s1)) (hT : txtS s1 6 = (t, s2)) (hQ : numS s2 = (q, s3)) :
    decW s = if endS s3 ≠ 0 ∨ 1000 < n ∨ ¬ rcOk (n : Int) t (q : Int) then ((0, [], 0), 3) else ((n, t, q), 0) := by
  simp only [decW, hA, hT, hQ]
theorem Rdr.below {w w' : World} {B g : Nat} {s : List UInt8 × Nat} (h : Rdr w g s) (hb : Below B w w') (hg : g < B) : Rdr w' g s := by
  obtain ⟨all, a, h1, h2⟩ := h
  exact ⟨all, a, Blk.below h1 hb hg, h2⟩
def DecEnd (w : World) (r : (Nat × List UInt8 × Nat) × Nat) (e : Ending) (w' : World) : Prop := e = .returned (.tuple #[rcV (r.1.1 : Int) r.1.2.1 (r.1.2.2 : Int), .int .i64 (r.2 : Int)]) ∧ Below w.heap.size w w'
structure DecS (w W : World) (R : Nat) (s : List UInt8 × Nat) : Prop where
  r : Blk W w.heap.size 34 #[.int .i64 0, .string ⟨#[]⟩, .int .i64 0]
  b : Below w.heap.size w W
  d : Rdr W R s
  l : w.heap.size < R
theorem DecS.next {w W W' : World} {R : Nat} {s s' : List UInt8 × Nat} (h : DecS w W R s) (hd : Rdr W' R s') (hg : W.grownBy W' (some R)) : DecS w W' R s' :=
  ⟨h.r.grown hg (by intro e; injection e with e; have := h.l; omega), h.b.grown hg (Nat.le_of_lt h.r.lt) (by intro k e; injection e with e; have := h.l; omega), hd, h.l⟩
structure DecX (w W : World) (R X : Nat) (s : List UInt8 × Nat) (c : Int) (t : List UInt8) (q : Int) : Prop extends DecS w W R s where
  x : Blk W X 34 #[.int .i64 c, .string ⟨t.toArray⟩, .int .i64 q]
  m : R < X
theorem DecX.next {w W W' : World} {R X : Nat} {s s' : List UInt8 × Nat} {c q : Int} {t : List UInt8} (h : DecX w W R X s c t q) (hd : Rdr W' R s') (hg : W.grownBy W' (some R)) : DecX w W' R X s' c t q :=
  ⟨h.toDecS.next hd hg, h.x.grown hg (by intro e; injection e with e; have := h.m; omega), h.m⟩
set_option maxRecDepth 100000 in
set_option maxHeartbeats 4000000 in
theorem receipt_Decode (s : List UInt8) (hs : s.length ≤ 1000000) (w : World) :
    Calls Tryz.prog 30 #[.string ⟨s.toArray⟩] w (DecEnd w (decW s)) := by
  have HL := Lib.hid (txtS_len (numS (s, 0)).2 6)
  have HB : Hid (∀ w', decW s = ((0, [], 0), 3) → Below w.heap.size w w' → DecEnd w (decW s) (.returned (.tuple #[.agg #[.int .i64 0, .string ⟨#[]⟩, .int .i64 0], .int .i64 3])) w') := Lib.hid (fun w' h hb => by
    rw [h]; exact ⟨rfl, hb⟩)
  have HG : Hid (∀ w' (n : Nat) t (q : Nat), decW s = ((n, t, q), 0) → Below w.heap.size w w' → DecEnd w (decW s) (.returned (.tuple #[.agg #[.int .i64 n, .string ⟨t.toArray⟩, .int .i64 q], .int .i64 0])) w') := Lib.hid (fun w' n t q h hb => by
    rw [h]; exact ⟨rfl, hb⟩)
  generalize DecEnd w (decW s) = P at HB HG ⊢
  obtain ⟨n, s1, hA⟩ : ∃ n s1, numS (s, 0) = (n, s1) := ⟨_, _, rfl⟩
  rw [hA] at HL
  obtain ⟨t, s2, hT⟩ : ∃ t s2, txtS s1 6 = (t, s2) := ⟨_, _, rfl⟩
  rw [hT] at HL
  obtain ⟨q, s3, hQ⟩ : ∃ q s3, numS s2 = (q, s3) := ⟨_, _, rfl⟩
  have HD := Lib.hid (decW_of hA hT hQ)
  have HA := Lib.hid hA
  have HT := Lib.hid hT
  have HQ := Lib.hid hQ
  have HS := Lib.hid hs
  clear hA hT hQ hs
  go_enter Tryz.func30, Tryz.ntmps30
  go_wp2_with fail
  refine (code_Read s _).mono ?_
  rintro e w1 ⟨rfl, rfl⟩
  have F1 : Hid (DecS w _ _ (s, 0)) := Lib.hid (show DecS w ((w.alloc (.cells #[.int .i64 0, .string ⟨#[]⟩, .int .i64 0] 34)).alloc (.cells #[.string ⟨s.toArray⟩, .int .i64 0, .int .i64 0] 144)) (w.alloc (.cells #[.int .i64 0, .string ⟨#[]⟩, .int .i64 0] 34)).heap.size (s, 0) from
    ⟨(Blk.new _ _ _).below (show Below (w.alloc (.cells #[.int .i64 0, .string ⟨#[]⟩, .int .i64 0] 34)).heap.size _ _ from by go_grown) (Blk.lt (Blk.new _ _ _)), by go_grown, ⟨s, 0, Blk.new _ _ _, Nat.zero_le _, HS.out, rfl⟩, Blk.lt (Blk.new _ _ _)⟩)
  generalize (w.alloc (.cells #[.int .i64 0, .string ⟨#[]⟩, .int .i64 0] 34)).alloc (.cells #[.string ⟨s.toArray⟩, .int .i64 0, .int .i64 0] 144) = W1 at F1 ⊢
  generalize (w.alloc (.cells #[.int .i64 0, .string ⟨#[]⟩, .int .i64 0] 34)).heap.size = R at F1 ⊢
  go_wp2_with fail
  refine (code_RNum _ R _ F1.out.d).mono ?_
  rw [HA.out]
  rintro e w2 ⟨rfl, hd, hg⟩
  have F2 := Lib.hid (F1.out.next hd hg)
  clear hd hg F1
  go_wp2_with fail
  refine (code_RText _ R _ F2.out.d 6 (by omega)).mono ?_
  rw [HT.out]
  rintro e w3 ⟨rfl, hd, hg⟩
  have F3 := Lib.hid (F2.out.next hd hg)
  clear hd hg F2
  go_wp2_with fail
  refine (code_RNum _ R _ F3.out.d).mono ?_
  rw [HQ.out]
  rintro e w4 ⟨rfl, hd, hg⟩
  have F4 := Lib.hid (F3.out.next hd hg)
  clear hd hg F3
  have f0 : w4.frozen? ⟨w.heap.size, 0, none⟩ = false := F4.out.r.frozen 0
  go_wp2_with fail
  have F5 : Hid (DecX w _ R w4.heap.size s3 0 t (q : Int)) := Lib.hid (show DecX w (w4.alloc (.cells #[.int .i64 0, .string ⟨t.toArray⟩, .int .i64 (q : Int)] 34)) R w4.heap.size s3 0 t (q : Int) from
    ⟨⟨F4.out.r.below (show Below w4.heap.size _ _ from by go_grown) F4.out.r.lt, F4.out.b.trans ((show Below w4.heap.size _ _ from by go_grown).mono (Nat.le_of_lt F4.out.r.lt)), F4.out.d.below (show Below w4.heap.size _ _ from by go_grown) F4.out.d.lt, F4.out.l⟩, Blk.new _ _ _, F4.out.d.lt⟩)
  generalize w4.alloc (.cells #[.int .i64 0, .string ⟨t.toArray⟩, .int .i64 (q : Int)] 34) = W5 at F5 ⊢
  clear f0 F4
  generalize w4.heap.size = X at F5 ⊢
  refine (code_REnd _ R _ F5.out.d).mono ?_
  rintro e w6 ⟨rfl, hd, hg⟩
  have F6 := Lib.hid (F5.out.next hd hg)
  have HR : Hid (Blk w6 w.heap.size 34 #[.int .i64 0, .string ⟨#[]⟩, .int .i64 0] ∧ Below w.heap.size w w6) := Lib.hid ⟨F6.out.r, F6.out.b⟩
  clear hd hg F5
  by_cases he : endS s3 = 0
  · by_cases hn : 1000 < n
    · have HZ : Hid (decW s = ((0, [], 0), 3)) := Lib.hid (by rw [HD.out, if_pos (Or.inr (Or.inl hn))])
      have gn : (1000 : Int) < (n : Int) := by omega
      rw [he]
      clear HD he hn F6
      have r0 : w6.cell? ⟨w.heap.size, 0, none⟩ = some (.int .i64 0) := HR.out.1.cell 0
      have r1 : w6.cell? ⟨w.heap.size, 1, none⟩ = some (.string ⟨#[]⟩) := HR.out.1.cell 1
      have r2 : w6.cell? ⟨w.heap.size, 2, none⟩ = some (.int .i64 0) := HR.out.1.cell 2
      have f0 : w6.frozen? ⟨w.heap.size, 0, none⟩ = false := HR.out.1.frozen 0
      have f1 : w6.frozen? ⟨w.heap.size, 1, none⟩ = false := HR.out.1.frozen 1
      have f2 : w6.frozen? ⟨w.heap.size, 2, none⟩ = false := HR.out.1.frozen 2
      go_wp2
      have HW9 : Hid (Blk (((w6.setCell ⟨w.heap.size, 0, none⟩ (.int .i64 0)).setCell ⟨w.heap.size, 1, none⟩ (.string ⟨#[]⟩)).setCell ⟨w.heap.size, 2, none⟩ (.int .i64 0)) w.heap.size 34 #[.int .i64 0, .string ⟨#[]⟩, .int .i64 0] ∧ Below w.heap.size w (((w6.setCell ⟨w.heap.size, 0, none⟩ (.int .i64 0)).setCell ⟨w.heap.size, 1, none⟩ (.string ⟨#[]⟩)).setCell ⟨w.heap.size, 2, none⟩ (.int .i64 0))) := Lib.hid
        ⟨((HR.out.1.set_ 0 (.int .i64 0)).set_ 1 (.string ⟨#[]⟩)).set_ 2 (.int .i64 0), ((HR.out.2.setCell (p := ⟨w.heap.size, 0, none⟩) (Nat.le_refl _) _).setCell (p := ⟨w.heap.size, 1, none⟩) (Nat.le_refl _) _).setCell (p := ⟨w.heap.size, 2, none⟩) (Nat.le_refl _) _⟩
      generalize ((w6.setCell ⟨w.heap.size, 0, none⟩ (.int .i64 0)).setCell ⟨w.heap.size, 1, none⟩ (.string ⟨#[]⟩)).setCell ⟨w.heap.size, 2, none⟩ (.int .i64 0) = W9 at HW9 ⊢
      have s0 : W9.cell? ⟨w.heap.size, 0, none⟩ = some (.int .i64 0) := HW9.out.1.cell 0
      have s1 : W9.cell? ⟨w.heap.size, 1, none⟩ = some (.string ⟨#[]⟩) := HW9.out.1.cell 1
      have s2 : W9.cell? ⟨w.heap.size, 2, none⟩ = some (.int .i64 0) := HW9.out.1.cell 2
      (try simp only [Exit.inBlock, Exit.then])
      refine bodyPost_ret (v := .tuple #[.agg #[.int .i64 0, .string ⟨#[]⟩, .int .i64 0], .int .i64 3]) (by simp [results, Tryz.results30, go_sem, s0, s1, s2]) rfl ?_
      exact HB.out _ HZ.out HW9.out.2
    · have gn : ((1000 : Int) < (n : Int)) = False := by simp; omega
      have c0 : w6.cell? ⟨X, 0, none⟩ = some (.int .i64 0) := F6.out.x.cell 0
      have c1 : w6.cell? ⟨X, 1, none⟩ = some (.string ⟨t.toArray⟩) := F6.out.x.cell 1
      have c2 : w6.cell? ⟨X, 2, none⟩ = some (.int .i64 (q : Int)) := F6.out.x.cell 2
      have g0 : w6.frozen? ⟨X, 0, none⟩ = false := F6.out.x.frozen 0
      rw [he]
      go_wp2_with fail
      have F7 : Hid (Blk (w6.setCell ⟨X, 0, none⟩ (.int .i64 (n : Int))) X 34 #[.int .i64 n, .string ⟨t.toArray⟩, .int .i64 (q : Int)] ∧ Blk (w6.setCell ⟨X, 0, none⟩ (.int .i64 (n : Int))) w.heap.size 34 #[.int .i64 0, .string ⟨#[]⟩, .int .i64 0] ∧ Below w.heap.size w (w6.setCell ⟨X, 0, none⟩ (.int .i64 (n : Int)))) := Lib.hid
        ⟨F6.out.x.set_ 0 (.int .i64 (n : Int)), HR.out.1.far (p := ⟨X, 0, none⟩) (by have := F6.out.l; have := F6.out.m; show w.heap.size ≠ X; omega) _, HR.out.2.setCell (p := ⟨X, 0, none⟩) (by have := F6.out.l; have := F6.out.m; show w.heap.size ≤ X; omega) _⟩
      clear HR F6 c0 c1 c2 g0
      generalize w6.setCell ⟨X, 0, none⟩ (.int .i64 (n : Int)) = W7 at F7 ⊢
      have HT6 := Lib.hid (Nat.le_trans HL.out (show 6 ≤ 9223372036854775807 by omega))
      refine (receipt_Encode (n : Int) t (q : Int) HT6.out W7).mono ?_
      rintro e w8 ⟨rfl, hb⟩
      have HX := Lib.hid (F7.out.1.below hb F7.out.1.lt)
      have HR : Hid (Blk w8 w.heap.size 34 #[.int .i64 0, .string ⟨#[]⟩, .int .i64 0] ∧ Below w.heap.size w w8) := Lib.hid ⟨F7.out.2.1.below hb F7.out.2.1.lt, F7.out.2.2.trans (hb.mono (Nat.le_of_lt F7.out.2.1.lt))⟩
      clear hb F7
      unfold encW
      by_cases hk : rcOk (n : Int) t (q : Int)
      · rw [if_pos hk]
        have HZ : Hid (decW s = ((n, t, q), 0)) := Lib.hid (by rw [HD.out, if_neg]; rintro (h | h | h); exact h he; exact hn h; exact h hk)
        have c0 : w8.cell? ⟨X, 0, none⟩ = some (.int .i64 n) := HX.out.cell 0
        have c1 : w8.cell? ⟨X, 1, none⟩ = some (.string ⟨t.toArray⟩) := HX.out.cell 1
        have c2 : w8.cell? ⟨X, 2, none⟩ = some (.int .i64 (q : Int)) := HX.out.cell 2
        generalize numW (n : Int).toNat ++ textW t ++ numW (q : Int).toNat = bytes
        clear HD he hn hk gn HB
        have HB : Hid (∀ w', decW s = ((n, t, q), 0) → Below w.heap.size w w' → P (.returned (.tuple #[.agg #[.int .i64 n, .string ⟨t.toArray⟩, .int .i64 q], .int .i64 0])) w') := Lib.hid (fun w' => HG.out w' n t q)
        have r0 : w8.cell? ⟨w.heap.size, 0, none⟩ = some (.int .i64 0) := HR.out.1.cell 0
        have r1 : w8.cell? ⟨w.heap.size, 1, none⟩ = some (.string ⟨#[]⟩) := HR.out.1.cell 1
        have r2 : w8.cell? ⟨w.heap.size, 2, none⟩ = some (.int .i64 0) := HR.out.1.cell 2
        have f0 : w8.frozen? ⟨w.heap.size, 0, none⟩ = false := HR.out.1.frozen 0
        have f1 : w8.frozen? ⟨w.heap.size, 1, none⟩ = false := HR.out.1.frozen 1
        have f2 : w8.frozen? ⟨w.heap.size, 2, none⟩ = false := HR.out.1.frozen 2
        go_wp2
        have HW9 : Hid (Blk (((w8.setCell ⟨w.heap.size, 0, none⟩ (.int .i64 (n : Int))).setCell ⟨w.heap.size, 1, none⟩ (.string ⟨t.toArray⟩)).setCell ⟨w.heap.size, 2, none⟩ (.int .i64 (q : Int))) w.heap.size 34 #[.int .i64 (n : Int), .string ⟨t.toArray⟩, .int .i64 (q : Int)] ∧ Below w.heap.size w (((w8.setCell ⟨w.heap.size, 0, none⟩ (.int .i64 (n : Int))).setCell ⟨w.heap.size, 1, none⟩ (.string ⟨t.toArray⟩)).setCell ⟨w.heap.size, 2, none⟩ (.int .i64 (q : Int)))) := Lib.hid
          ⟨((HR.out.1.set_ 0 (.int .i64 (n : Int))).set_ 1 (.string ⟨t.toArray⟩)).set_ 2 (.int .i64 (q : Int)), ((HR.out.2.setCell (p := ⟨w.heap.size, 0, none⟩) (Nat.le_refl _) _).setCell (p := ⟨w.heap.size, 1, none⟩) (Nat.le_refl _) _).setCell (p := ⟨w.heap.size, 2, none⟩) (Nat.le_refl _) _⟩
        generalize ((w8.setCell ⟨w.heap.size, 0, none⟩ (.int .i64 (n : Int))).setCell ⟨w.heap.size, 1, none⟩ (.string ⟨t.toArray⟩)).setCell ⟨w.heap.size, 2, none⟩ (.int .i64 (q : Int)) = W9 at HW9 ⊢
        have s0 : W9.cell? ⟨w.heap.size, 0, none⟩ = some (.int .i64 (n : Int)) := HW9.out.1.cell 0
        have s1 : W9.cell? ⟨w.heap.size, 1, none⟩ = some (.string ⟨t.toArray⟩) := HW9.out.1.cell 1
        have s2 : W9.cell? ⟨w.heap.size, 2, none⟩ = some (.int .i64 (q : Int)) := HW9.out.1.cell 2
        (try simp only [Exit.inBlock, Exit.then])
        refine bodyPost_ret (v := .tuple #[.agg #[.int .i64 (n : Int), .string ⟨t.toArray⟩, .int .i64 (q : Int)], .int .i64 0]) (by simp [results, Tryz.results30, go_sem, s0, s1, s2]) rfl ?_
        exact HB.out _ HZ.out HW9.out.2
      · rw [if_neg hk]
        have HZ : Hid (decW s = ((0, [], 0), 3)) := Lib.hid (by rw [HD.out, if_pos (Or.inr (Or.inr hk))])
        clear HD he hn hk gn
        have r0 : w8.cell? ⟨w.heap.size, 0, none⟩ = some (.int .i64 0) := HR.out.1.cell 0
        have r1 : w8.cell? ⟨w.heap.size, 1, none⟩ = some (.string ⟨#[]⟩) := HR.out.1.cell 1
        have r2 : w8.cell? ⟨w.heap.size, 2, none⟩ = some (.int .i64 0) := HR.out.1.cell 2
        have f0 : w8.frozen? ⟨w.heap.size, 0, none⟩ = false := HR.out.1.frozen 0
        have f1 : w8.frozen? ⟨w.heap.size, 1, none⟩ = false := HR.out.1.frozen 1
        have f2 : w8.frozen? ⟨w.heap.size, 2, none⟩ = false := HR.out.1.frozen 2
        go_wp2
        have HW9 : Hid (Blk (((w8.setCell ⟨w.heap.size, 0, none⟩ (.int .i64 0)).setCell ⟨w.heap.size, 1, none⟩ (.string ⟨#[]⟩)).setCell ⟨w.heap.size, 2, none⟩ (.int .i64 0)) w.heap.size 34 #[.int .i64 0, .string ⟨#[]⟩, .int .i64 0] ∧ Below w.heap.size w (((w8.setCell ⟨w.heap.size, 0, none⟩ (.int .i64 0)).setCell ⟨w.heap.size, 1, none⟩ (.string ⟨#[]⟩)).setCell ⟨w.heap.size, 2, none⟩ (.int .i64 0))) := Lib.hid
          ⟨((HR.out.1.set_ 0 (.int .i64 0)).set_ 1 (.string ⟨#[]⟩)).set_ 2 (.int .i64 0), ((HR.out.2.setCell (p := ⟨w.heap.size, 0, none⟩) (Nat.le_refl _) _).setCell (p := ⟨w.heap.size, 1, none⟩) (Nat.le_refl _) _).setCell (p := ⟨w.heap.size, 2, none⟩) (Nat.le_refl _) _⟩
        generalize ((w8.setCell ⟨w.heap.size, 0, none⟩ (.int .i64 0)).setCell ⟨w.heap.size, 1, none⟩ (.string ⟨#[]⟩)).setCell ⟨w.heap.size, 2, none⟩ (.int .i64 0) = W9 at HW9 ⊢
        have s0 : W9.cell? ⟨w.heap.size, 0, none⟩ = some (.int .i64 0) := HW9.out.1.cell 0
        have s1 : W9.cell? ⟨w.heap.size, 1, none⟩ = some (.string ⟨#[]⟩) := HW9.out.1.cell 1
        have s2 : W9.cell? ⟨w.heap.size, 2, none⟩ = some (.int .i64 0) := HW9.out.1.cell 2
        (try simp only [Exit.inBlock, Exit.then])
        refine bodyPost_ret (v := .tuple #[.agg #[.int .i64 0, .string ⟨#[]⟩, .int .i64 0], .int .i64 3]) (by simp [results, Tryz.results30, go_sem, s0, s1, s2]) rfl ?_
        exact HB.out _ HZ.out HW9.out.2
  · have HZ : Hid (decW s = ((0, [], 0), 3)) := Lib.hid (by rw [HD.out, if_pos (Or.inl he)])
    have gn : ((endS s3 : Int) == 0) = false := by simp; exact he
    have gn2 : ((endS s3 : Int) != 0) = true := by simp; exact he
    generalize endS s3 = ec at *
    clear HD he F6
    have r0 : w6.cell? ⟨w.heap.size, 0, none⟩ = some (.int .i64 0) := HR.out.1.cell 0
    have r1 : w6.cell? ⟨w.heap.size, 1, none⟩ = some (.string ⟨#[]⟩) := HR.out.1.cell 1
    have r2 : w6.cell? ⟨w.heap.size, 2, none⟩ = some (.int .i64 0) := HR.out.1.cell 2
    have f0 : w6.frozen? ⟨w.heap.size, 0, none⟩ = false := HR.out.1.frozen 0
    have f1 : w6.frozen? ⟨w.heap.size, 1, none⟩ = false := HR.out.1.frozen 1
    have f2 : w6.frozen? ⟨w.heap.size, 2, none⟩ = false := HR.out.1.frozen 2
    go_wp2
    have HW9 : Hid (Blk (((w6.setCell ⟨w.heap.size, 0, none⟩ (.int .i64 0)).setCell ⟨w.heap.size, 1, none⟩ (.string ⟨#[]⟩)).setCell ⟨w.heap.size, 2, none⟩ (.int .i64 0)) w.heap.size 34 #[.int .i64 0, .string ⟨#[]⟩, .int .i64 0] ∧ Below w.heap.size w (((w6.setCell ⟨w.heap.size, 0, none⟩ (.int .i64 0)).setCell ⟨w.heap.size, 1, none⟩ (.string ⟨#[]⟩)).setCell ⟨w.heap.size, 2, none⟩ (.int .i64 0))) := Lib.hid
      ⟨((HR.out.1.set_ 0 (.int .i64 0)).set_ 1 (.string ⟨#[]⟩)).set_ 2 (.int .i64 0), ((HR.out.2.setCell (p := ⟨w.heap.size, 0, none⟩) (Nat.le_refl _) _).setCell (p := ⟨w.heap.size, 1, none⟩) (Nat.le_refl _) _).setCell (p := ⟨w.heap.size, 2, none⟩) (Nat.le_refl _) _⟩
    generalize ((w6.setCell ⟨w.heap.size, 0, none⟩ (.int .i64 0)).setCell ⟨w.heap.size, 1, none⟩ (.string ⟨#[]⟩)).setCell ⟨w.heap.size, 2, none⟩ (.int .i64 0) = W9 at HW9 ⊢
    have s0 : W9.cell? ⟨w.heap.size, 0, none⟩ = some (.int .i64 0) := HW9.out.1.cell 0
    have s1 : W9.cell? ⟨w.heap.size, 1, none⟩ = some (.string ⟨#[]⟩) := HW9.out.1.cell 1
    have s2 : W9.cell? ⟨w.heap.size, 2, none⟩ = some (.int .i64 0) := HW9.out.1.cell 2
    (try simp only [Exit.inBlock, Exit.then])
    refine bodyPost_ret (v := .tuple #[.agg #[.int .i64 0, .string ⟨#[]⟩, .int .i64 0], .int .i64 3]) (by simp [results, Tryz.results30, go_sem, s0, s1, s2]) rfl ?_
    exact HB.out _ HZ.out HW9.out.2
end Go.Proofs.YtcjafcbekegmlaaGreatDoor

namespace Go.Proofs.YtcjafcbekegmlaaGreatDoor
namespace Trie
open Nib
inductive T where
  | nil
  | leaf (p v : List UInt8)
  | ext (p : List UInt8) (t : T)
  | branch (v : List UInt8) (kids : Fin 16 → T)
def isNil : T → Bool
  | .nil => true
  | _ => false
def isBranch : T → Bool
  | .branch _ _ => true
  | _ => false
def ix (b : UInt8) : Fin 16 := ⟨b.toNat % 16, Nat.mod_lt _ (by omega)⟩
def setKid (kids : Fin 16 → T) (b : UInt8) (t : T) : Fin 16 → T := fun i => if i = ix b then t else kids i
def noKids : Fin 16 → T := fun _ => .nil
def look : T → List UInt8 → List UInt8
  | .nil, _ => []
  | .leaf p v, q => if q = p then v else []
  | .ext p t, q => if common p q = p.length then look t (q.drop p.length) else []
  | .branch v kids, q => match q with
    | [] => v
    | b :: r => look (kids (ix b)) r
def joined (path : List UInt8) (t : T) : T :=
  if path = [] then t else match t with
    | .leaf p v => .leaf (path ++ p) v
    | .ext p s => .ext (path ++ p) s
    | t => .ext path t
def oneOwn (old : List UInt8) (w : List UInt8) : List UInt8 := match old with
  | [] => w
  | _ :: _ => []
def oneKids (old : List UInt8) (f : List UInt8 → T) : Fin 16 → T := match old with
  | [] => noKids
  | b :: r => setKid noKids b (f r)
def partedG (old : List UInt8) (f : List UInt8 → T) (w path v : List UInt8) : T := match path with
  | [] => .branch v (oneKids old f)
  | b :: r => .branch (oneOwn old w) (setKid (oneKids old f) b (.leaf r v))
def parted (t : T) (c : Nat) (path v : List UInt8) : T := match t with
  | .leaf p w => partedG (p.drop c) (fun r => .leaf r w) w path v
  | .ext p s => partedG (p.drop c) (fun r => joined r s) [] path v
  | t => t
def put : T → List UInt8 → List UInt8 → T
  | .nil, q, v => .leaf q v
  | .branch w kids, q, v => match q with
    | [] => .branch v kids
    | b :: r => .branch w (setKid kids b (put (kids (ix b)) r v))
  | .ext p t, q, v => if common p q = p.length then joined p (put t (q.drop (common p q)) v) else joined (q.take (common p q)) (parted (.ext p t) (common p q) (q.drop (common p q)) v)
  | .leaf p w, q, v => if common p q = p.length ∧ common p q = q.length then .leaf q v else joined (q.take (common p q)) (parted (.leaf p w) (common p q) (q.drop (common p q)) v)
def many (kids : Fin 16 → T) : Nat := ((List.finRange 16).filter fun i => !isNil (kids i)).length
def wf : T → Prop
  | .nil => True
  | .leaf p v => fit p = true ∧ v ≠ []
  | .ext p t => fit p = true ∧ p ≠ [] ∧ isBranch t = true ∧ wf t
  | .branch v kids => (∀ i, wf (kids i)) ∧ 2 ≤ many kids + (if v = [] then 0 else 1)
theorem fit_append {a b : List UInt8} : fit (a ++ b) = true ↔ fit a = true ∧ fit b = true := by
  unfold fit; rw [List.all_append, Bool.and_eq_true]
theorem fit_cons' {a : UInt8} {r : List UInt8} : fit (a :: r) = true ↔ a ≤ 15 ∧ fit r = true := by
  unfold fit; simp
theorem fit_drop {a : List UInt8} (n : Nat) (h : fit a = true) : fit (a.drop n) = true := by
  have : fit (a.take n ++ a.drop n) = true := by rw [List.take_append_drop]; exact h
  exact (fit_append.1 this).2
theorem fit_take {a : List UInt8} (n : Nat) (h : fit a = true) : fit (a.take n) = true := by
  have : fit (a.take n ++ a.drop n) = true := by rw [List.take_append_drop]; exact h
  exact (fit_append.1 this).1
theorem ix_of (i : Fin 16) : ix (UInt8.ofNat i.val) = i ∧ UInt8.ofNat i.val ≤ 15 := by
  have := i.isLt
  constructor
  · apply Fin.ext; simp [ix]
  · rw [UInt8.le_iff_toNat_le]; simp; omega
theorem ix_inj {a b : UInt8} (ha : a ≤ 15) (hb : b ≤ 15) (h : ix a = ix b) : a = b := by
  rw [UInt8.le_iff_toNat_le] at ha hb
  simp at ha hb
  have := congrArg Fin.val h
  simp [ix] at this
  exact UInt8.toNat_inj.1 (by omega)
theorem prefix_common {p q : List UInt8} : common p q = p.length ↔ q = p ++ q.drop p.length := by
  constructor
  · intro h
    have h1 := (common_take p q p.length).1 (by omega)
    conv => lhs; rw [← List.take_append_drop p.length q, ← h1.2.2]
    simp
  · intro h
    have hcl := common_le p q
    have : p.length ≤ common p q := by
      rw [common_take]
      refine ⟨Nat.le_refl _, ?_, ?_⟩
      · rw [h]; simp
      · rw [h]; simp
    omega
theorem common_self_append (p r : List UInt8) : common p (p ++ r) = p.length := prefix_common.2 (by simp)
theorem many_two {kids : Fin 16 → T} {v : List UInt8} (h : 2 ≤ many kids + (if v = [] then 0 else 1)) (b : UInt8) : v ≠ [] ∨ ∃ i, i ≠ ix b ∧ isNil (kids i) = false := by
  by_cases hv : v = []
  · right
    rw [if_pos hv] at h
    unfold many at h
    have hn : ((List.finRange 16).filter fun i => !isNil (kids i)).Nodup := (List.nodup_finRange 16).sublist List.filter_sublist
    generalize hl : ((List.finRange 16).filter fun i => !isNil (kids i)) = l at *
    have hmem : ∀ i ∈ l, isNil (kids i) = false := by
      intro i hi
      rw [← hl, List.mem_filter] at hi
      simpa using hi.2
    match l, h, hn with
    | x :: y :: l, _, hn =>
      by_cases hx : x = ix b
      · refine ⟨y, fun e => ?_, hmem y (by simp)⟩
        rw [List.nodup_cons] at hn
        exact hn.1 (by rw [hx, ← e]; simp)
      · exact ⟨x, hx, hmem x (by simp)⟩
  · exact .inl hv
theorem look_some (t : T) : wf t → isNil t = false → ∃ q, fit q = true ∧ look t q ≠ [] := by
  induction t with
  | nil => intro _ h; simp [isNil] at h
  | leaf p v => intro h _; exact ⟨p, h.1, by simp [look]; exact h.2⟩
  | ext p t ih =>
    intro h _
    obtain ⟨h1, h2, h3, h4⟩ := h
    obtain ⟨q, g1, g2⟩ := ih h4 (by cases t <;> simp_all [isBranch, isNil])
    refine ⟨p ++ q, fit_append.2 ⟨h1, g1⟩, ?_⟩
    simp only [look, common_self_append, if_pos]
    simpa using g2
  | branch v kids ih =>
    intro h _
    rcases many_two h.2 0 with hv | ⟨i, _, hi⟩
    · exact ⟨[], rfl, hv⟩
    · obtain ⟨q, g1, g2⟩ := ih i (h.1 i) hi
      obtain ⟨e1, e2⟩ := ix_of i
      exact ⟨UInt8.ofNat i.val :: q, fit_cons'.2 ⟨e2, g1⟩, by simp only [look, e1]; exact g2⟩
theorem branch_of {t : T} (h : isBranch t = true) : ∃ v kids, t = .branch v kids := by
  cases t with
  | branch v kids => exact ⟨v, kids, rfl⟩
  | nil => simp [isBranch] at h
  | leaf _ _ => simp [isBranch] at h
  | ext _ _ => simp [isBranch] at h
theorem look_ext_some {p : List UInt8} {t : T} {q : List UInt8} (h : look (.ext p t) q ≠ []) : q = p ++ q.drop p.length ∧ look t (q.drop p.length) ≠ [] := by
  simp only [look] at h
  split at h
  · rename_i hc; exact ⟨prefix_common.1 hc, h⟩
  · exact absurd rfl h
theorem look_ext (p : List UInt8) (t : T) (r : List UInt8) : look (.ext p t) (p ++ r) = look t r := by
  simp [look, common_self_append]
end Trie
end Go.Proofs.YtcjafcbekegmlaaGreatDoor

namespace Go.Proofs.YtcjafcbekegmlaaGreatDoor
namespace Trie
open Nib
theorem joined_look (path : List UInt8) (t : T) (h : t ≠ .nil) : ∀ q, look (joined path t) q = if q = path ++ q.drop path.length then look t (q.drop path.length) else [] := by
  intro q
  by_cases hp : path = []
  · subst hp; simp [joined]
  · have hcm : common path q = path.length ↔ q = path ++ q.drop path.length := prefix_common
    cases t with
    | nil => exact absurd rfl h
    | leaf p v =>
      simp only [joined, if_neg hp, look]
      by_cases hq : q = path ++ q.drop path.length
      · rw [if_pos hq]
        by_cases h2 : q.drop path.length = p
        · rw [if_pos h2, if_pos (by rw [← h2]; exact hq)]
        · rw [if_neg h2, if_neg (fun e => h2 (by rw [e]; simp))]
      · rw [if_neg hq, if_neg (fun e => hq (by rw [e]; simp))]
    | ext p s =>
      simp only [joined, if_neg hp, look]
      by_cases hq : q = path ++ q.drop path.length
      · rw [if_pos hq]
        generalize q.drop path.length = r at hq
        subst hq
        by_cases h2 : common p r = p.length
        · have h3 := prefix_common.1 h2
          rw [if_pos h2, if_pos (prefix_common.2 (by rw [h3]; simp)), List.length_append, ← List.drop_drop, List.drop_append_of_le_length (Nat.le_refl _), List.drop_length, List.nil_append]
        · rw [if_neg h2, if_neg]
          intro h3
          have h4 := prefix_common.1 h3
          rw [List.append_assoc] at h4
          have h5 := List.append_cancel_left h4
          exact h2 (prefix_common.2 (by
            conv => lhs; rw [h5]
            congr 1
            rw [List.length_append, ← List.drop_drop, List.drop_append_of_le_length (Nat.le_refl _), List.drop_length, List.nil_append]))
      · rw [if_neg hq, if_neg]
        intro h3
        have h4 := prefix_common.1 h3
        exact hq (by conv => lhs; rw [h4]
                     conv => rhs; rw [h4]
                     simp)
    | branch v kids =>
      simp only [joined, if_neg hp]
      show look (.ext path _) q = _
      simp only [look]
      by_cases hq : q = path ++ q.drop path.length
      · rw [if_pos hq, if_pos (hcm.2 hq)]
      · rw [if_neg hq, if_neg (fun e => hq (hcm.1 e))]
theorem joined_wf {path : List UInt8} {t : T} (hp : fit path = true) (h : wf t) (hn : t ≠ .nil) : wf (joined path t) := by
  by_cases h0 : path = []
  · subst h0; simpa [joined] using h
  · cases t with
    | nil => exact absurd rfl hn
    | leaf p v => simp only [joined, if_neg h0]; exact ⟨fit_append.2 ⟨hp, h.1⟩, h.2⟩
    | ext p s => simp only [joined, if_neg h0]; exact ⟨fit_append.2 ⟨hp, h.1⟩, by simp [h0], h.2.2⟩
    | branch v kids => simp only [joined, if_neg h0]; exact ⟨hp, h0, rfl, h⟩
theorem joined_nn {path : List UInt8} {t : T} (hn : t ≠ .nil) : joined path t ≠ .nil := by
  unfold joined
  split
  · exact hn
  · cases t <;> simp_all
theorem many_pos {kids : Fin 16 → T} {i : Fin 16} (h : isNil (kids i) = false) : 1 ≤ many kids := by
  unfold many
  exact List.length_pos_of_mem (List.mem_filter.2 ⟨List.mem_finRange i, by simp [h]⟩)
theorem two_of {l : List (Fin 16)} {i j : Fin 16} (hi : i ∈ l) (hj : j ∈ l) (hne : i ≠ j) : 2 ≤ l.length := by
  match l, hi, hj with
  | [x], hi, hj =>
    simp at hi hj
    exact absurd (hi.trans hj.symm) hne
  | x :: y :: l, _, _ => simp
theorem many_ge_two {kids : Fin 16 → T} {i j : Fin 16} (hi : isNil (kids i) = false) (hj : isNil (kids j) = false) (hne : i ≠ j) : 2 ≤ many kids :=
  two_of (List.mem_filter.2 ⟨List.mem_finRange i, by simp [hi]⟩) (List.mem_filter.2 ⟨List.mem_finRange j, by simp [hj]⟩) hne
theorem many_mono {k1 k2 : Fin 16 → T} (h : ∀ i, isNil (k1 i) = false → isNil (k2 i) = false) : many k1 ≤ many k2 := by
  unfold many
  have e : ((List.finRange 16).filter fun i => !isNil (k1 i)) = (((List.finRange 16).filter fun i => !isNil (k2 i))).filter fun i => !isNil (k1 i) := by
    rw [List.filter_filter]
    apply List.filter_congr
    intro i _
    cases h1 : isNil (k1 i) with
    | true => rfl
    | false => simp [h i h1]
  rw [e]
  exact List.length_filter_le _ _
theorem setKid_same (kids : Fin 16 → T) (b : UInt8) (t : T) : setKid kids b t (ix b) = t := by simp [setKid]
theorem setKid_other {kids : Fin 16 → T} {b : UInt8} {t : T} {i : Fin 16} (h : i ≠ ix b) : setKid kids b t i = kids i := by simp [setKid, h]
theorem partedG_spec (old w path v : List UInt8) (f : List UInt8 → T) (g : List UInt8 → List UInt8) (hfo : fit old = true) (hfp : fit path = true) (hv : v ≠ []) (hc : common old path = 0) (hnn : ¬ (old = [] ∧ path = []))
    (h0 : old = [] → w ≠ [] ∧ ∀ s, g s = if s = [] then w else [])
    (h1 : ∀ b r, old = b :: r → wf (f r) ∧ f r ≠ .nil ∧ (∀ s, fit s = true → look (f r) s = g (b :: s)) ∧ g [] = [] ∧ ∀ c s, c ≠ b → g (c :: s) = []) :
    wf (partedG old f w path v) ∧ (∀ r, fit r = true → look (partedG old f w path v) r = if r = path then v else g r) ∧ isBranch (partedG old f w path v) = true := by
  have isn : ∀ t : T, t ≠ .nil → isNil t = false := fun t h => by cases t <;> simp_all [isNil]
  cases path with
  | nil =>
    cases old with
    | nil => exact absurd ⟨rfl, rfl⟩ hnn
    | cons b r =>
      obtain ⟨k1, k2, k3, k4, k5⟩ := h1 b r rfl
      have hb := (fit_cons'.1 hfo).1
      refine ⟨⟨fun i => ?_, ?_⟩, fun s hs => ?_, rfl⟩
      · simp only [oneKids, setKid]; split
        · exact k1
        · trivial
      · rw [if_neg hv]
        exact Nat.succ_le_succ (many_pos (i := ix b) (by simp only [oneKids, setKid_same]; exact isn _ k2))
      · cases s with
        | nil => simp [partedG, look]
        | cons x s =>
          have hx := fit_cons'.1 hs
          simp only [partedG, look, oneKids]
          rw [if_neg (by simp)]
          by_cases hxb : x = b
          · subst hxb; rw [setKid_same]; exact k3 s hx.2
          · rw [setKid_other (fun e => hxb (ix_inj hx.1 hb e)), k5 x s hxb]; rfl
  | cons b r =>
    have hb := fit_cons'.1 hfp
    cases old with
    | nil =>
      obtain ⟨k1, k2⟩ := h0 rfl
      refine ⟨⟨fun i => ?_, ?_⟩, fun s hs => ?_, rfl⟩
      · simp only [oneKids, setKid]; split
        · exact ⟨hb.2, hv⟩
        · trivial
      · rw [if_neg (show ¬ oneOwn [] w = [] from k1)]
        exact Nat.succ_le_succ (many_pos (i := ix b) (by rw [setKid_same]; rfl))
      · cases s with
        | nil => simp [partedG, look, oneOwn, k2]
        | cons x s =>
          have hx := fit_cons'.1 hs
          simp only [partedG, look, oneKids]
          rw [k2, if_neg (show ¬ (x :: s = []) by simp)]
          by_cases hxb : x = b
          · subst hxb
            rw [setKid_same]
            simp only [look, List.cons.injEq, true_and]
          · rw [setKid_other (fun e => hxb (ix_inj hx.1 hb.1 e)), if_neg (by simp [hxb])]; rfl
    | cons a o =>
      obtain ⟨k1, k2, k3, k4, k5⟩ := h1 a o rfl
      have ha := (fit_cons'.1 hfo).1
      have hab : a ≠ b := by
        intro e; subst e; simp [common] at hc
      have hix : ix a ≠ ix b := fun e => hab (ix_inj ha hb.1 e)
      refine ⟨⟨fun i => ?_, ?_⟩, fun s hs => ?_, rfl⟩
      · simp only [oneKids, setKid]; split
        · exact ⟨hb.2, hv⟩
        · split
          · exact k1
          · trivial
      · exact Nat.le_add_right_of_le (many_ge_two (i := ix a) (j := ix b) (by rw [setKid_other hix]; simp only [oneKids]; rw [setKid_same]; exact isn _ k2) (by rw [setKid_same]; rfl) hix)
      · cases s with
        | nil => simp [partedG, look, oneOwn, k4]
        | cons x s =>
          have hx := fit_cons'.1 hs
          simp only [partedG, look, oneKids]
          by_cases hxb : x = b
          · subst hxb
            rw [setKid_same, k5 x s (fun e => hab e.symm)]
            simp only [look, List.cons.injEq, true_and]
          · rw [setKid_other (fun e => hxb (ix_inj hx.1 hb.1 e)), if_neg (by simp [hxb])]
            by_cases hxa : x = a
            · subst hxa; rw [setKid_same]; exact k3 s hx.2
            · rw [setKid_other (fun e => hxa (ix_inj hx.1 ha e)), k5 x s hxa]; rfl
theorem put_nn (t : T) (q v : List UInt8) : put t q v ≠ .nil := by
  have pg : ∀ old f w path v, partedG old f w path v ≠ .nil := by
    intro old f w path v; cases path <;> simp [partedG]
  induction t generalizing q with
  | nil => simp [put]
  | leaf p w =>
    simp only [put]; split
    · simp
    · exact joined_nn (pg _ _ _ _ _)
  | ext p t ih =>
    simp only [put]; split
    · exact joined_nn (ih _)
    · exact joined_nn (pg _ _ _ _ _)
  | branch w kids ih => cases q <;> simp [put]
theorem drop_common (p q : List UInt8) : common (p.drop (common p q)) (q.drop (common p q)) = 0 := by
  induction p generalizing q with
  | nil => simp [common]
  | cons a p ih =>
    cases q with
    | nil => simp [common]
    | cons b q =>
      by_cases h : a = b
      · subst h
        rw [show common (a :: p) (a :: q) = common p q + 1 from by simp [common]]
        simpa using ih q
      · rw [show common (a :: p) (b :: q) = 0 from by simp [common, h]]
        simp [common, h]
theorem take_common (p q : List UInt8) : p.take (common p q) = q.take (common p q) := ((common_take p q (common p q)).1 (Nat.le_refl _)).2.2
theorem split_common (p q r : List UInt8) : (r = p ↔ r = q.take (common p q) ++ r.drop (q.take (common p q)).length ∧ r.drop (q.take (common p q)).length = p.drop (common p q)) := by
  have hcl := common_le p q
  have ht := take_common p q
  have hl : (q.take (common p q)).length = common p q := by rw [List.length_take]; omega
  rw [hl, ← ht]
  constructor
  · intro e
    subst e
    exact ⟨by rw [List.take_append_drop], rfl⟩
  · rintro ⟨e1, e2⟩
    rw [e1, e2, List.take_append_drop]
theorem put_spec (t : T) : ∀ q v, wf t → fit q = true → v ≠ [] → wf (put t q v) ∧ (∀ r, fit r = true → look (put t q v) r = if r = q then v else look t r) ∧ (isBranch t = true → isBranch (put t q v) = true) := by
  induction t with
  | nil =>
    intro q v _ hq hv
    exact ⟨⟨hq, hv⟩, fun r _ => by simp [put, look], fun h => by simp [isBranch] at h⟩
  | leaf p w =>
    intro q v h hq hv
    simp only [put]
    have hcl := common_le p q
    by_cases hc : common p q = p.length ∧ common p q = q.length
    · rw [if_pos hc]
      have hpq : p = q := by
        have := take_common p q
        rw [List.take_of_length_le (by omega), List.take_of_length_le (by omega)] at this
        exact this
      subst hpq
      exact ⟨⟨hq, hv⟩, fun r _ => by simp only [look]; split <;> rfl, fun h => by simp [isBranch] at h⟩
    · rw [if_neg hc]
      have hl : (q.take (common p q)).length = common p q := by rw [List.length_take]; omega
      obtain ⟨s1, s2, s3⟩ := partedG_spec (p.drop (common p q)) w (q.drop (common p q)) v (fun r => .leaf r w) (fun s => if s = p.drop (common p q) then w else [])
        (fit_drop _ h.1) (fit_drop _ hq) hv (drop_common p q)
        (by
          rintro ⟨e1, e2⟩
          have l1 := congrArg List.length e1
          have l2 := congrArg List.length e2
          simp at l1 l2
          exact hc ⟨by omega, by omega⟩)
        (by intro e; exact ⟨h.2, fun s => by simp only [e]⟩)
        (by
          intro b r e
          refine ⟨⟨?_, h.2⟩, by simp, ?_, ?_, ?_⟩
          · have := fit_drop (common p q) h.1
            rw [e] at this
            exact (fit_cons'.1 this).2
          · intro s _; simp only [look, e, List.cons.injEq, true_and]
          · rw [e, if_neg (by simp)]
          · intro c s hcb; rw [e, if_neg (by simp [hcb])])
      refine ⟨joined_wf (fit_take _ hq) s1 (by intro e; simp only [parted] at e; rw [e] at s3; simp [isBranch] at s3), fun r hr => ?_, fun h => by simp [isBranch] at h⟩
      rw [joined_look _ _ (by intro e; simp only [parted] at e; rw [e] at s3; simp [isBranch] at s3)]
      simp only [parted, look]
      rw [s2 _ (fit_drop _ hr)]
      have e1 := split_common p q r
      have e2 := split_common q p r
      have hcs := common_symm p q
      rw [hl] at e1 ⊢
      by_cases hr1 : r = q.take (common p q) ++ r.drop (common p q)
      · rw [if_pos hr1]
        by_cases h1 : r.drop (common p q) = q.drop (common p q)
        · have : r = q := by rw [hr1, h1, List.take_append_drop]
          rw [if_pos h1, if_pos this]
        · rw [if_neg h1, if_neg (show ¬ r = q from fun e => h1 (by rw [e]))]
          by_cases h2 : r.drop (common p q) = p.drop (common p q)
          · rw [if_pos h2, if_pos (e1.2 ⟨hr1, h2⟩)]
          · rw [if_neg h2, if_neg (show ¬ r = p from fun e => h2 (e1.1 e).2)]
      · rw [if_neg hr1, if_neg (show ¬ r = q from fun e => hr1 (by rw [e, List.take_append_drop])), if_neg (show ¬ r = p from fun e => hr1 (e1.1 e).1)]
  | ext p t ih =>
    intro q v h hq hv
    obtain ⟨h1, h2, h3, h4⟩ := h
    simp only [put]
    have hcl := common_le p q
    have htn : t ≠ .nil := fun e => by rw [e] at h3; simp [isBranch] at h3
    by_cases hc : common p q = p.length
    · rw [if_pos hc]
      obtain ⟨s1, s2, s3⟩ := ih (q.drop (common p q)) v h4 (fit_drop _ hq) hv
      have hpq := prefix_common.1 hc
      refine ⟨joined_wf h1 s1 (put_nn _ _ _), fun r hr => ?_, fun h => by simp [isBranch] at h⟩
      rw [joined_look _ _ (put_nn _ _ _), hc]
      simp only [look]
      by_cases hr1 : r = p ++ r.drop p.length
      · rw [if_pos hr1, if_pos (prefix_common.2 hr1)]
        rw [hc] at s2
        rw [s2 _ (fit_drop _ hr)]
        by_cases h5 : r.drop p.length = q.drop p.length
        · rw [if_pos h5, if_pos (by rw [hr1, h5, ← hpq])]
        · rw [if_neg h5, if_neg (show ¬ r = q from fun e => h5 (by rw [e]))]
      · rw [if_neg hr1, if_neg (show ¬ r = q from fun e => hr1 (by rw [e]; exact hpq)), if_neg (fun e => hr1 (prefix_common.1 e))]
    · rw [if_neg hc]
      have hl : (q.take (common p q)).length = common p q := by rw [List.length_take]; omega
      have hop : p.drop (common p q) ≠ [] := by
        intro e; have := congrArg List.length e; simp at this; omega
      obtain ⟨s1, s2, s3⟩ := partedG_spec (p.drop (common p q)) [] (q.drop (common p q)) v (fun r => joined r t) (fun s => look (.ext (p.drop (common p q)) t) s)
        (fit_drop _ h1) (fit_drop _ hq) hv (drop_common p q)
        (fun e => hop e.1) (fun e => absurd e hop)
        (by
          intro b r e
          have hfr : fit r = true := by
            have := fit_drop (common p q) h1
            rw [e] at this
            exact (fit_cons'.1 this).2
          refine ⟨joined_wf hfr h4 htn, joined_nn htn, ?_, ?_, ?_⟩
          · intro s _
            rw [joined_look _ _ htn, e]
            simp only [look, common, if_true, List.length_cons, List.drop_succ_cons]
            by_cases h5 : s = r ++ s.drop r.length
            · rw [if_pos h5, if_pos (by rw [prefix_common.2 h5])]
            · rw [if_neg h5, if_neg (fun e => h5 (prefix_common.1 (by omega)))]
          · rw [e]; simp [look, common]
          · intro c s hcb
            rw [e]
            simp [look, common, Ne.symm hcb])
      have hne : partedG (p.drop (common p q)) (fun r => joined r t) [] (q.drop (common p q)) v ≠ .nil := by intro e; rw [e] at s3; simp [isBranch] at s3
      refine ⟨joined_wf (fit_take _ hq) s1 hne, fun r hr => ?_, fun h => by simp [isBranch] at h⟩
      simp only [parted]
      rw [joined_look _ _ hne]
      rw [s2 _ (fit_drop _ hr), hl]
      by_cases hr1 : r = q.take (common p q) ++ r.drop (common p q)
      · rw [if_pos hr1]
        by_cases h5 : r.drop (common p q) = q.drop (common p q)
        · rw [if_pos h5, if_pos (by rw [hr1, h5, List.take_append_drop])]
        · rw [if_neg h5, if_neg (show ¬ r = q from fun e => h5 (by rw [e]))]
          simp only [look, List.length_drop]
          have ht := take_common p q
          by_cases h6 : common p r = p.length
          · have h7 := prefix_common.1 h6
            have h8 : common (p.drop (common p q)) (r.drop (common p q)) = p.length - common p q := by
              have := prefix_common (p := p.drop (common p q)) (q := r.drop (common p q))
              rw [List.length_drop] at this
              refine this.2 ?_
              conv => lhs; rw [h7]
              rw [List.drop_append_of_le_length hcl.1, List.drop_drop]
              congr 2
              omega
            rw [if_pos h8, if_pos h6, List.drop_drop]
            congr 2
            omega
          · rw [if_neg h6, if_neg]
            intro h8
            have := prefix_common (p := p.drop (common p q)) (q := r.drop (common p q))
            rw [List.length_drop] at this
            have h9 := this.1 h8
            refine h6 (prefix_common.2 ?_)
            conv => lhs; rw [hr1, ← ht, h9]
            rw [← List.append_assoc, List.take_append_drop, List.drop_drop]
            congr 2
            omega
      · rw [if_neg hr1, if_neg (show ¬ r = q from fun e => hr1 (by rw [e, List.take_append_drop]))]
        simp only [look]
        rw [if_neg]
        intro h6
        have h7 := prefix_common.1 h6
        refine hr1 ?_
        have ht := take_common p q
        have : r.take (common p q) = q.take (common p q) := by
          rw [h7, List.take_append_of_le_length hcl.1, ht]
        rw [← this, List.take_append_drop]
  | branch w kids ih =>
    intro q v h hq hv
    cases q with
    | nil =>
      simp only [put]
      refine ⟨⟨h.1, ?_⟩, fun r _ => ?_, fun _ => rfl⟩
      · have := h.2
        rw [if_neg hv]
        split at this <;> omega
      · cases r <;> simp [look]
    | cons b q =>
      have hb := fit_cons'.1 hq
      obtain ⟨s1, s2, _⟩ := ih (ix b) q v (h.1 _) hb.2 hv
      have isn : isNil (put (kids (ix b)) q v) = false := by
        have := put_nn (kids (ix b)) q v
        generalize put (kids (ix b)) q v = t at *
        cases t <;> simp_all [isNil]
      simp only [put]
      refine ⟨⟨fun i => ?_, ?_⟩, fun r hr => ?_, fun _ => rfl⟩
      · simp only [setKid]; split
        · exact s1
        · exact h.1 i
      · have h2 := h.2
        have hm : many kids ≤ many (setKid kids b (put (kids (ix b)) q v)) := many_mono (fun i hi => by
          by_cases e : i = ix b
          · subst e; rw [setKid_same]; exact isn
          · rw [setKid_other e]; exact hi)
        omega
      · cases r with
        | nil => simp [look]
        | cons x r =>
          have hx := fit_cons'.1 hr
          simp only [look]
          by_cases hxb : x = b
          · subst hxb
            rw [setKid_same, s2 r hx.2]
            simp only [List.cons.injEq, true_and]
          · rw [setKid_other (fun e => hxb (ix_inj hx.1 hb.1 e)), if_neg (by simp [hxb])]
end Trie
end Go.Proofs.YtcjafcbekegmlaaGreatDoor
