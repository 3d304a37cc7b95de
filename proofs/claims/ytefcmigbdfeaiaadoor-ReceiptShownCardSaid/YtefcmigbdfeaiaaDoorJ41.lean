import Derived.Test.YtefcmigbdfeaiaaDoorJ08
import Derived.Test.YtefcmigbdfeaiaaDoorJ10
import Derived.Test.YtefcmigbdfeaiaaDoorJ25
set_option linter.unusedSimpArgs false
set_option linter.unusedVariables false
namespace Go.Proofs.YtefcmigbdfeaiaaDoor
set_option linter.unusedVariables false
open Go.RowKit Go.Instr
attribute [local go_sem] ba_get ByteArray.mk_append_mk
def rcV (c : Int) (f : List UInt8) (q : Int) : Value := .agg #[.int .i64 c, .string ⟨f.toArray⟩, .int .i64 q]
def rcOk (c : Int) (f : List UInt8) (q : Int) : Prop := 0 ≤ c ∧ c ≤ 1000 ∧ f ≠ [] ∧ f.length ≤ 6 ∧ 0 ≤ q ∧ q ≤ 1099511627776
instance (c : Int) (f : List UInt8) (q : Int) : Decidable (rcOk c f q) := by unfold rcOk; infer_instance
def encW (c : Int) (f : List UInt8) (q : Int) : List UInt8 × Nat := if rcOk c f q then (numW c.toNat ++ textW f ++ numW q.toNat, 0) else ([], 3)
def REncEnd (w : World) (r : List UInt8 × Nat) (e : Ending) (w' : World) : Prop := e = .returned (.tuple #[.string ⟨r.1.toArray⟩, .int .i64 (r.2 : Int)]) ∧ Below w.heap.size w w'
set_option maxRecDepth 100000 in
set_option maxHeartbeats 4000000 in
theorem receipt_Encode (c : Int) (f : List UInt8) (q : Int) (hf : f.length ≤ 9223372036854775807) (w : World) :
    Calls Tryd.prog 75 #[rcV c f q] w (REncEnd w (encW c f q)) := by
  have HB : Hid (¬ rcOk c f q → ∀ w', Below w.heap.size w w' → REncEnd w (encW c f q) (.returned (.tuple #[.string ⟨#[]⟩, .int .i64 3])) w') := Lib.hid (fun h w' hb => by
    rw [encW, if_neg h]; exact ⟨rfl, hb⟩)
  have HG : Hid (rcOk c f q → ∀ w', Below w.heap.size w w' → REncEnd w (encW c f q) (.returned (.tuple #[.string ⟨(numW c.toNat ++ textW f ++ numW q.toNat).toArray⟩, .int .i64 0])) w') := Lib.hid (fun h w' hb => by
    rw [encW, if_pos h]; exact ⟨rfl, hb⟩)
  generalize REncEnd w (encW c f q) = P at HB HG ⊢
  unfold rcV
  by_cases h1 : c < 0
  · have HNo : Hid (¬ rcOk c f q) := Lib.hid (fun h => by have := h.1; omega)
    have g1 : (c < 0) = True := by simp [h1]
    clear hf h1
    clear HG
    go_enter Tryd.func75, Tryd.ntmps75
    go_upto_region 1 with fail
    have F0 : Hid (Blk (w.alloc (.cells #[.int .i64 c, .string ⟨f.toArray⟩, .int .i64 q] 76)) w.heap.size 76 #[.int .i64 c, .string ⟨f.toArray⟩, .int .i64 q] ∧ Below w.heap.size w (w.alloc (.cells #[.int .i64 c, .string ⟨f.toArray⟩, .int .i64 q] 76))) := Lib.hid ⟨Blk.new _ _ _, by go_grown⟩
    generalize w.alloc (.cells #[.int .i64 c, .string ⟨f.toArray⟩, .int .i64 q] 76) = W0 at F0 ⊢
    have k0 : W0.cell? ⟨w.heap.size, 0, none⟩ = some (.int .i64 c) := F0.out.1.cell 0
    have k1 : W0.cell? ⟨w.heap.size, 1, none⟩ = some (.string ⟨f.toArray⟩) := F0.out.1.cell 1
    have k2 : W0.cell? ⟨w.heap.size, 2, none⟩ = some (.int .i64 q) := F0.out.1.cell 2
    generalize w.heap.size = B at *
    go_wp2
    first | exact HB.out HNo.out _ F0.out.2 | (go_ret; exact HB.out HNo.out _ F0.out.2)
  have g1 : (c < 0) = False := by simp; omega
  by_cases h2 : 1000 < c
  · have HNo : Hid (¬ rcOk c f q) := Lib.hid (fun h => by have := h.2.1; omega)
    clear hf h1
    clear HG
    go_enter Tryd.func75, Tryd.ntmps75
    go_upto_region 1 with fail
    have F0 : Hid (Blk (w.alloc (.cells #[.int .i64 c, .string ⟨f.toArray⟩, .int .i64 q] 76)) w.heap.size 76 #[.int .i64 c, .string ⟨f.toArray⟩, .int .i64 q] ∧ Below w.heap.size w (w.alloc (.cells #[.int .i64 c, .string ⟨f.toArray⟩, .int .i64 q] 76))) := Lib.hid ⟨Blk.new _ _ _, by go_grown⟩
    generalize w.alloc (.cells #[.int .i64 c, .string ⟨f.toArray⟩, .int .i64 q] 76) = W0 at F0 ⊢
    have k0 : W0.cell? ⟨w.heap.size, 0, none⟩ = some (.int .i64 c) := F0.out.1.cell 0
    have k1 : W0.cell? ⟨w.heap.size, 1, none⟩ = some (.string ⟨f.toArray⟩) := F0.out.1.cell 1
    have k2 : W0.cell? ⟨w.heap.size, 2, none⟩ = some (.int .i64 q) := F0.out.1.cell 2
    generalize w.heap.size = B at *
    go_wp2
    first | exact HB.out HNo.out _ F0.out.2 | (go_ret; exact HB.out HNo.out _ F0.out.2)
  have g2 : (1000 < c) = False := by simp; omega
  by_cases h3 : f = []
  · have HNo : Hid (¬ rcOk c f q) := Lib.hid (fun h => h.2.2.1 h3)
    subst h3
    clear hf h1 h2
    clear HG
    go_enter Tryd.func75, Tryd.ntmps75
    go_upto_region 1 with fail
    have F0 : Hid (Blk (w.alloc (.cells #[.int .i64 c, .string ⟨#[]⟩, .int .i64 q] 76)) w.heap.size 76 #[.int .i64 c, .string ⟨#[]⟩, .int .i64 q] ∧ Below w.heap.size w (w.alloc (.cells #[.int .i64 c, .string ⟨#[]⟩, .int .i64 q] 76))) := Lib.hid ⟨Blk.new _ _ _, by go_grown⟩
    generalize w.alloc (.cells #[.int .i64 c, .string ⟨#[]⟩, .int .i64 q] 76) = W0 at F0 ⊢
    have k0 : W0.cell? ⟨w.heap.size, 0, none⟩ = some (.int .i64 c) := F0.out.1.cell 0
    have k1 : W0.cell? ⟨w.heap.size, 1, none⟩ = some (.string ⟨#[]⟩) := F0.out.1.cell 1
    have k2 : W0.cell? ⟨w.heap.size, 2, none⟩ = some (.int .i64 q) := F0.out.1.cell 2
    generalize w.heap.size = B at *
    go_wp2
    first | exact HB.out HNo.out _ F0.out.2 | (go_ret; exact HB.out HNo.out _ F0.out.2)
  have g3 : (f = []) = False := by simp [h3]
  have g3b : f.isEmpty = false := by simp [h3]
  by_cases h4 : 6 < f.length
  · have HNo : Hid (¬ rcOk c f q) := Lib.hid (fun h => by have := h.2.2.2.1; omega)
    have g4 : (6 : Int) < (f.length : Int) := by omega
    clear hf h1 h2 h3 h4
    clear HG
    go_enter Tryd.func75, Tryd.ntmps75
    go_upto_region 1 with fail
    have F0 : Hid (Blk (w.alloc (.cells #[.int .i64 c, .string ⟨f.toArray⟩, .int .i64 q] 76)) w.heap.size 76 #[.int .i64 c, .string ⟨f.toArray⟩, .int .i64 q] ∧ Below w.heap.size w (w.alloc (.cells #[.int .i64 c, .string ⟨f.toArray⟩, .int .i64 q] 76))) := Lib.hid ⟨Blk.new _ _ _, by go_grown⟩
    generalize w.alloc (.cells #[.int .i64 c, .string ⟨f.toArray⟩, .int .i64 q] 76) = W0 at F0 ⊢
    have k0 : W0.cell? ⟨w.heap.size, 0, none⟩ = some (.int .i64 c) := F0.out.1.cell 0
    have k1 : W0.cell? ⟨w.heap.size, 1, none⟩ = some (.string ⟨f.toArray⟩) := F0.out.1.cell 1
    have k2 : W0.cell? ⟨w.heap.size, 2, none⟩ = some (.int .i64 q) := F0.out.1.cell 2
    generalize w.heap.size = B at *
    go_wp2
    first | exact HB.out HNo.out _ F0.out.2 | (go_ret; exact HB.out HNo.out _ F0.out.2)
  have g4 : ((6 : Int) < (f.length : Int)) = False := by simp; omega
  by_cases h5 : q < 0
  · have HNo : Hid (¬ rcOk c f q) := Lib.hid (fun h => by have := h.2.2.2.2.1; omega)
    clear hf h1 h2 h3 h4
    clear HG
    go_enter Tryd.func75, Tryd.ntmps75
    go_upto_region 1 with fail
    have F0 : Hid (Blk (w.alloc (.cells #[.int .i64 c, .string ⟨f.toArray⟩, .int .i64 q] 76)) w.heap.size 76 #[.int .i64 c, .string ⟨f.toArray⟩, .int .i64 q] ∧ Below w.heap.size w (w.alloc (.cells #[.int .i64 c, .string ⟨f.toArray⟩, .int .i64 q] 76))) := Lib.hid ⟨Blk.new _ _ _, by go_grown⟩
    generalize w.alloc (.cells #[.int .i64 c, .string ⟨f.toArray⟩, .int .i64 q] 76) = W0 at F0 ⊢
    have k0 : W0.cell? ⟨w.heap.size, 0, none⟩ = some (.int .i64 c) := F0.out.1.cell 0
    have k1 : W0.cell? ⟨w.heap.size, 1, none⟩ = some (.string ⟨f.toArray⟩) := F0.out.1.cell 1
    have k2 : W0.cell? ⟨w.heap.size, 2, none⟩ = some (.int .i64 q) := F0.out.1.cell 2
    generalize w.heap.size = B at *
    go_wp2
    first | exact HB.out HNo.out _ F0.out.2 | (go_ret; exact HB.out HNo.out _ F0.out.2)
  have g5 : (q < 0) = False := by simp; omega
  by_cases h6 : 1099511627776 < q
  · have HNo : Hid (¬ rcOk c f q) := Lib.hid (fun h => by have := h.2.2.2.2.2; omega)
    clear hf h1 h2 h3 h4 h5
    clear HG
    go_enter Tryd.func75, Tryd.ntmps75
    go_upto_region 1 with fail
    have F0 : Hid (Blk (w.alloc (.cells #[.int .i64 c, .string ⟨f.toArray⟩, .int .i64 q] 76)) w.heap.size 76 #[.int .i64 c, .string ⟨f.toArray⟩, .int .i64 q] ∧ Below w.heap.size w (w.alloc (.cells #[.int .i64 c, .string ⟨f.toArray⟩, .int .i64 q] 76))) := Lib.hid ⟨Blk.new _ _ _, by go_grown⟩
    generalize w.alloc (.cells #[.int .i64 c, .string ⟨f.toArray⟩, .int .i64 q] 76) = W0 at F0 ⊢
    have k0 : W0.cell? ⟨w.heap.size, 0, none⟩ = some (.int .i64 c) := F0.out.1.cell 0
    have k1 : W0.cell? ⟨w.heap.size, 1, none⟩ = some (.string ⟨f.toArray⟩) := F0.out.1.cell 1
    have k2 : W0.cell? ⟨w.heap.size, 2, none⟩ = some (.int .i64 q) := F0.out.1.cell 2
    generalize w.heap.size = B at *
    go_wp2
    first | exact HB.out HNo.out _ F0.out.2 | (go_ret; exact HB.out HNo.out _ F0.out.2)
  have g6 : (1099511627776 < q) = False := by simp; omega
  have HYes : Hid (rcOk c f q) := Lib.hid ⟨by omega, by omega, h3, by omega, by omega, by omega⟩
  obtain ⟨cn, rfl⟩ := Int.eq_ofNat_of_zero_le (show 0 ≤ c by omega)
  obtain ⟨qn, rfl⟩ := Int.eq_ofNat_of_zero_le (show 0 ≤ q by omega)
  have N1 : Hid (∀ W : World, Calls Tryd.prog 98 #[.int .i64 (cn : Int)] W fun e w' => e = .returned (.tuple #[.string ⟨(numW cn).toArray⟩, .int .i64 0]) ∧ Below W.heap.size W w') := Lib.hid (fun W => code_Num cn (by omega) W)
  have N2 : Hid (∀ W : World, Calls Tryd.prog 98 #[.int .i64 (qn : Int)] W fun e w' => e = .returned (.tuple #[.string ⟨(numW qn).toArray⟩, .int .i64 0]) ∧ Below W.heap.size W w') := Lib.hid (fun W => code_Num qn (by omega) W)
  have N3 : Hid (∀ W : World, Calls Tryd.prog 99 #[.string ⟨f.toArray⟩] W fun e w' => e = .returned (.string ⟨(textW f).toArray⟩) ∧ Below W.heap.size W w') := Lib.hid (fun W => code_Text f (by omega) W)
  replace HG := Lib.hid (HG.out HYes.out)
  simp only [Int.toNat_natCast] at HG
  have HL : Hid ((numW cn).length ≤ 9 ∧ (textW f).length ≤ 1000009 ∧ (numW qn).length ≤ 9) := Lib.hid ⟨numW_len cn (by omega), by rw [textW, List.length_append]; have := numW_len f.length (by omega); omega, numW_len qn (by omega)⟩
  clear HB HYes hf h1 h2 h3 h4 h5 h6
  go_enter Tryd.func75, Tryd.ntmps75
  go_upto_region 1 with fail
  have F0 : Hid (Blk (w.alloc (.cells #[.int .i64 (cn : Int), .string ⟨f.toArray⟩, .int .i64 (qn : Int)] 76)) w.heap.size 76 #[.int .i64 (cn : Int), .string ⟨f.toArray⟩, .int .i64 (qn : Int)] ∧ Below w.heap.size w (w.alloc (.cells #[.int .i64 (cn : Int), .string ⟨f.toArray⟩, .int .i64 (qn : Int)] 76))) := Lib.hid ⟨Blk.new _ _ _, by go_grown⟩
  generalize w.alloc (.cells #[.int .i64 (cn : Int), .string ⟨f.toArray⟩, .int .i64 (qn : Int)] 76) = W0 at F0 ⊢
  have HLt := Lib.hid F0.out.1.lt
  have k0 : W0.cell? ⟨w.heap.size, 0, none⟩ = some (.int .i64 (cn : Int)) := F0.out.1.cell 0
  have k1 : W0.cell? ⟨w.heap.size, 1, none⟩ = some (.string ⟨f.toArray⟩) := F0.out.1.cell 1
  have k2 : W0.cell? ⟨w.heap.size, 2, none⟩ = some (.int .i64 (qn : Int)) := F0.out.1.cell 2
  generalize hB : w.heap.size = B at *
  clear hB
  go_wp2_with fail
  refine (N1.out _).mono ?_
  rintro e w1 ⟨rfl, hb⟩
  have F1 : Hid (W0.heap.size ≤ w1.heap.size ∧ Below B w w1) := Lib.hid ⟨hb.size, F0.out.2.trans (hb.mono (Nat.le_of_lt HLt.out))⟩
  have j0 := (hb.cell (p := ⟨B, 0, none⟩) HLt.out).trans k0
  have j1 := (hb.cell (p := ⟨B, 1, none⟩) HLt.out).trans k1
  have j2 := (hb.cell (p := ⟨B, 2, none⟩) HLt.out).trans k2
  clear hb k0 k1 k2
  go_wp2_with fail
  refine (N2.out _).mono ?_
  rintro e w2 ⟨rfl, hb⟩
  have F2 : Hid (W0.heap.size ≤ w2.heap.size ∧ Below B w w2) := Lib.hid ⟨Nat.le_trans F1.out.1 hb.size, F1.out.2.trans (hb.mono (Nat.le_of_lt (Nat.lt_of_lt_of_le HLt.out F1.out.1)))⟩
  have k1 := (hb.cell (p := ⟨B, 1, none⟩) (Nat.lt_of_lt_of_le HLt.out F1.out.1)).trans j1
  clear hb j0 j1 j2
  go_wp2_with fail
  refine (N3.out _).mono ?_
  rintro e w3 ⟨rfl, hb⟩
  have F3 : Hid (Below B w w3) := Lib.hid (F2.out.2.trans (hb.mono (Nat.le_of_lt (Nat.lt_of_lt_of_le HLt.out F2.out.1))))
  clear hb k1
  obtain ⟨l1, l2, l3⟩ := HL.out
  clear HL N1 N2 N3
  generalize numW cn = X at *
  generalize textW f = Y at *
  generalize numW qn = Z at *
  have m1 : X.length + Y.length ≤ 9223372036854775807 := by omega
  have m2 : X.length + Y.length + Z.length ≤ 9223372036854775807 := by omega
  have m3 : X.length + (Y.length + Z.length) ≤ 9223372036854775807 := by omega
  clear l1 l2 l3
  go_wp2
  first | exact HG.out _ F3.out | (simp only [List.append_assoc] at HG ⊢; exact HG.out _ F3.out)
end Go.Proofs.YtefcmigbdfeaiaaDoor

namespace Go.Proofs.YtefcmigbdfeaiaaDoor
set_option linter.unusedVariables false
open Go.RowKit Go.Instr
attribute [local go_sem] ba_get ByteArray.mk_append_mk
def decW (s : List UInt8) : (Nat × List UInt8 × Nat) × Nat :=
  if endS (numS (txtS (numS (s, 0)).2 6).2).2 ≠ 0 ∨ 1000 < (numS (s, 0)).1 ∨ ¬ rcOk ((numS (s, 0)).1 : Int) (txtS (numS (s, 0)).2 6).1 ((numS (txtS (numS (s, 0)).2 6).2).1 : Int) then ((0, [], 0), 3)
  else (((numS (s, 0)).1, (txtS (numS (s, 0)).2 6).1, (numS (txtS (numS (s, 0)).2 6).2).1), 0)
theorem txtS_len (s : List UInt8 × Nat) (m : Nat) : (txtS s m).1.length ≤ m := by
  unfold txtS
  split
  · simp
  split
  · unfold txtT
    split
    · simp
    split
    · simp
    split
    · simp
    · rw [List.length_take]; omega
  · simp
theorem decW_of {s t : List UInt8} {s1 s2 s3 : List UInt8 × Nat} {n q : Nat} (hA : numS (s, 0) = (n, s1)) (hT : txtS s1 6 = (t, s2)) (hQ : numS s2 = (q, s3)) :
    decW s = if endS s3 ≠ 0 ∨ 1000 < n ∨ ¬ rcOk (n : Int) t (q : Int) then ((0, [], 0), 3) else ((n, t, q), 0) := by
  simp only [decW, hA, hT, hQ]
theorem Rdr.below {w w' : World} {B g : Nat} {s : List UInt8 × Nat} (h : Rdr w g s) (hb : Below B w w') (hg : g < B) : Rdr w' g s := by
  obtain ⟨all, a, h1, h2⟩ := h
  exact ⟨all, a, Blk.below h1 hb hg, h2⟩
def DecEnd (w : World) (r : (Nat × List UInt8 × Nat) × Nat) (e : Ending) (w' : World) : Prop := e = .returned (.tuple #[rcV (r.1.1 : Int) r.1.2.1 (r.1.2.2 : Int), .int .i64 (r.2 : Int)]) ∧ Below w.heap.size w w'
structure DecS (w W : World) (R : Nat) (s : List UInt8 × Nat) : Prop where
  r : Blk W w.heap.size 76 #[.int .i64 0, .string ⟨#[]⟩, .int .i64 0]
  b : Below w.heap.size w W
  d : Rdr W R s
  l : w.heap.size < R
theorem DecS.next {w W W' : World} {R : Nat} {s s' : List UInt8 × Nat} (h : DecS w W R s) (hd : Rdr W' R s') (hg : W.grownBy W' (some R)) : DecS w W' R s' :=
  ⟨h.r.grown hg (by intro e; injection e with e; have := h.l; omega), h.b.grown hg (Nat.le_of_lt h.r.lt) (by intro k e; injection e with e; have := h.l; omega), hd, h.l⟩
structure DecX (w W : World) (R X : Nat) (s : List UInt8 × Nat) (c : Int) (t : List UInt8) (q : Int) : Prop extends DecS w W R s where
  x : Blk W X 76 #[.int .i64 c, .string ⟨t.toArray⟩, .int .i64 q]
  m : R < X
theorem DecX.next {w W W' : World} {R X : Nat} {s s' : List UInt8 × Nat} {c q : Int} {t : List UInt8} (h : DecX w W R X s c t q) (hd : Rdr W' R s') (hg : W.grownBy W' (some R)) : DecX w W' R X s' c t q :=
  ⟨h.toDecS.next hd hg, h.x.grown hg (by intro e; injection e with e; have := h.m; omega), h.m⟩
set_option maxRecDepth 100000 in
set_option maxHeartbeats 4000000 in
theorem receipt_Decode (s : List UInt8) (hs : s.length ≤ 1000000) (w : World) :
    Calls Tryd.prog 76 #[.string ⟨s.toArray⟩] w (DecEnd w (decW s)) := by
  have HL := Lib.hid (txtS_len (numS (s, 0)).2 6)
  have HB : Hid (∀ w', decW s = ((0, [], 0), 3) → Below w.heap.size w w' → DecEnd w (decW s) (.returned (.tuple #[.agg #[.int .i64 0, .string ⟨#[]⟩, .int .i64 0], .int .i64 3])) w') := Lib.hid (fun w' h hb => by
    rw [h]; exact ⟨rfl, hb⟩)
  have HG : Hid (∀ w' (n : Nat) t (q : Nat), decW s = ((n, t, q), 0) → Below w.heap.size w w' → DecEnd w (decW s) (.returned (.tuple #[.agg #[.int .i64 n, .string ⟨t.toArray⟩, .int .i64 q], .int .i64 0])) w') := Lib.hid (fun w' n t q h hb => by
    rw [h]; exact ⟨rfl, hb⟩)
  generalize DecEnd w (decW s) = P at HB HG ⊢
  obtain ⟨n, s1, hA⟩ : ∃ n s1, numS (s, 0) = (n, s1) := ⟨_, _, rfl⟩
  rw [hA] at HL
  obtain ⟨t, s2, hT⟩ : ∃ t s2, txtS s1 6 = (t, s2) := ⟨_, _, rfl⟩
  rw [hT] at HL
  obtain ⟨q, s3, hQ⟩ : ∃ q s3, numS s2 = (q, s3) := ⟨_, _, rfl⟩
  have HD := Lib.hid (decW_of hA hT hQ)
  have HA := Lib.hid hA
  have HT := Lib.hid hT
  have HQ := Lib.hid hQ
  have HS := Lib.hid hs
  clear hA hT hQ hs
  go_enter Tryd.func76, Tryd.ntmps76
  go_wp2_with fail
  refine (code_Read s _).mono ?_
  rintro e w1 ⟨rfl, rfl⟩
  have F1 : Hid (DecS w _ _ (s, 0)) := Lib.hid (show DecS w ((w.alloc (.cells #[.int .i64 0, .string ⟨#[]⟩, .int .i64 0] 76)).alloc (.cells #[.string ⟨s.toArray⟩, .int .i64 0, .int .i64 0] 167)) (w.alloc (.cells #[.int .i64 0, .string ⟨#[]⟩, .int .i64 0] 76)).heap.size (s, 0) from
    ⟨(Blk.new _ _ _).below (show Below (w.alloc (.cells #[.int .i64 0, .string ⟨#[]⟩, .int .i64 0] 76)).heap.size _ _ from by go_grown) (Blk.lt (Blk.new _ _ _)), by go_grown, ⟨s, 0, Blk.new _ _ _, Nat.zero_le _, HS.out, rfl⟩, Blk.lt (Blk.new _ _ _)⟩)
  generalize (w.alloc (.cells #[.int .i64 0, .string ⟨#[]⟩, .int .i64 0] 76)).alloc (.cells #[.string ⟨s.toArray⟩, .int .i64 0, .int .i64 0] 167) = W1 at F1 ⊢
  generalize (w.alloc (.cells #[.int .i64 0, .string ⟨#[]⟩, .int .i64 0] 76)).heap.size = R at F1 ⊢
  go_wp2_with fail
  refine (code_RNum _ R _ F1.out.d).mono ?_
  rw [HA.out]
  rintro e w2 ⟨rfl, hd, hg⟩
  have F2 := Lib.hid (F1.out.next hd hg)
  clear hd hg F1
  go_wp2_with fail
  refine (code_RText _ R _ F2.out.d 6 (by omega)).mono ?_
  rw [HT.out]
  rintro e w3 ⟨rfl, hd, hg⟩
  have F3 := Lib.hid (F2.out.next hd hg)
  clear hd hg F2
  go_wp2_with fail
  refine (code_RNum _ R _ F3.out.d).mono ?_
  rw [HQ.out]
  rintro e w4 ⟨rfl, hd, hg⟩
  have F4 := Lib.hid (F3.out.next hd hg)
  clear hd hg F3
  have f0 : w4.frozen? ⟨w.heap.size, 0, none⟩ = false := F4.out.r.frozen 0
  go_wp2_with fail
  have F5 : Hid (DecX w _ R w4.heap.size s3 0 t (q : Int)) := Lib.hid (show DecX w (w4.alloc (.cells #[.int .i64 0, .string ⟨t.toArray⟩, .int .i64 (q : Int)] 76)) R w4.heap.size s3 0 t (q : Int) from
    ⟨⟨F4.out.r.below (show Below w4.heap.size _ _ from by go_grown) F4.out.r.lt, F4.out.b.trans ((show Below w4.heap.size _ _ from by go_grown).mono (Nat.le_of_lt F4.out.r.lt)), F4.out.d.below (show Below w4.heap.size _ _ from by go_grown) F4.out.d.lt, F4.out.l⟩, Blk.new _ _ _, F4.out.d.lt⟩)
  generalize w4.alloc (.cells #[.int .i64 0, .string ⟨t.toArray⟩, .int .i64 (q : Int)] 76) = W5 at F5 ⊢
  clear f0 F4
  generalize w4.heap.size = X at F5 ⊢
  refine (code_REnd _ R _ F5.out.d).mono ?_
  rintro e w6 ⟨rfl, hd, hg⟩
  have F6 := Lib.hid (F5.out.next hd hg)
  have HR : Hid (Blk w6 w.heap.size 76 #[.int .i64 0, .string ⟨#[]⟩, .int .i64 0] ∧ Below w.heap.size w w6) := Lib.hid ⟨F6.out.r, F6.out.b⟩
  clear hd hg F5
  by_cases he : endS s3 = 0
  · by_cases hn : 1000 < n
    · have HZ : Hid (decW s = ((0, [], 0), 3)) := Lib.hid (by rw [HD.out, if_pos (Or.inr (Or.inl hn))])
      have gn : (1000 : Int) < (n : Int) := by omega
      rw [he]
      clear HD he hn F6
      have r0 : w6.cell? ⟨w.heap.size, 0, none⟩ = some (.int .i64 0) := HR.out.1.cell 0
      have r1 : w6.cell? ⟨w.heap.size, 1, none⟩ = some (.string ⟨#[]⟩) := HR.out.1.cell 1
      have r2 : w6.cell? ⟨w.heap.size, 2, none⟩ = some (.int .i64 0) := HR.out.1.cell 2
      have f0 : w6.frozen? ⟨w.heap.size, 0, none⟩ = false := HR.out.1.frozen 0
      have f1 : w6.frozen? ⟨w.heap.size, 1, none⟩ = false := HR.out.1.frozen 1
      have f2 : w6.frozen? ⟨w.heap.size, 2, none⟩ = false := HR.out.1.frozen 2
      go_wp2
      have HW9 : Hid (Blk (((w6.setCell ⟨w.heap.size, 0, none⟩ (.int .i64 0)).setCell ⟨w.heap.size, 1, none⟩ (.string ⟨#[]⟩)).setCell ⟨w.heap.size, 2, none⟩ (.int .i64 0)) w.heap.size 76 #[.int .i64 0, .string ⟨#[]⟩, .int .i64 0] ∧ Below w.heap.size w (((w6.setCell ⟨w.heap.size, 0, none⟩ (.int .i64 0)).setCell ⟨w.heap.size, 1, none⟩ (.string ⟨#[]⟩)).setCell ⟨w.heap.size, 2, none⟩ (.int .i64 0))) := Lib.hid
        ⟨((HR.out.1.set_ 0 (.int .i64 0)).set_ 1 (.string ⟨#[]⟩)).set_ 2 (.int .i64 0), ((HR.out.2.setCell (p := ⟨w.heap.size, 0, none⟩) (Nat.le_refl _) _).setCell (p := ⟨w.heap.size, 1, none⟩) (Nat.le_refl _) _).setCell (p := ⟨w.heap.size, 2, none⟩) (Nat.le_refl _) _⟩
      generalize ((w6.setCell ⟨w.heap.size, 0, none⟩ (.int .i64 0)).setCell ⟨w.heap.size, 1, none⟩ (.string ⟨#[]⟩)).setCell ⟨w.heap.size, 2, none⟩ (.int .i64 0) = W9 at HW9 ⊢
      have s0 : W9.cell? ⟨w.heap.size, 0, none⟩ = some (.int .i64 0) := HW9.out.1.cell 0
      have s1 : W9.cell? ⟨w.heap.size, 1, none⟩ = some (.string ⟨#[]⟩) := HW9.out.1.cell 1
      have s2 : W9.cell? ⟨w.heap.size, 2, none⟩ = some (.int .i64 0) := HW9.out.1.cell 2
      (try simp only [Exit.inBlock, Exit.then])
      refine bodyPost_ret (v := .tuple #[.agg #[.int .i64 0, .string ⟨#[]⟩, .int .i64 0], .int .i64 3]) (by simp [results, Tryd.results76, go_sem, s0, s1, s2]) rfl ?_
      exact HB.out _ HZ.out HW9.out.2
    · have gn : ((1000 : Int) < (n : Int)) = False := by simp; omega
      have c0 : w6.cell? ⟨X, 0, none⟩ = some (.int .i64 0) := F6.out.x.cell 0
      have c1 : w6.cell? ⟨X, 1, none⟩ = some (.string ⟨t.toArray⟩) := F6.out.x.cell 1
      have c2 : w6.cell? ⟨X, 2, none⟩ = some (.int .i64 (q : Int)) := F6.out.x.cell 2
      have g0 : w6.frozen? ⟨X, 0, none⟩ = false := F6.out.x.frozen 0
      rw [he]
      go_wp2_with fail
      have F7 : Hid (Blk (w6.setCell ⟨X, 0, none⟩ (.int .i64 (n : Int))) X 76 #[.int .i64 n, .string ⟨t.toArray⟩, .int .i64 (q : Int)] ∧ Blk (w6.setCell ⟨X, 0, none⟩ (.int .i64 (n : Int))) w.heap.size 76 #[.int .i64 0, .string ⟨#[]⟩, .int .i64 0] ∧ Below w.heap.size w (w6.setCell ⟨X, 0, none⟩ (.int .i64 (n : Int)))) := Lib.hid
        ⟨F6.out.x.set_ 0 (.int .i64 (n : Int)), HR.out.1.far (p := ⟨X, 0, none⟩) (by have := F6.out.l; have := F6.out.m; show w.heap.size ≠ X; omega) _, HR.out.2.setCell (p := ⟨X, 0, none⟩) (by have := F6.out.l; have := F6.out.m; show w.heap.size ≤ X; omega) _⟩
      clear HR F6 c0 c1 c2 g0
      generalize w6.setCell ⟨X, 0, none⟩ (.int .i64 (n : Int)) = W7 at F7 ⊢
      have HT6 := Lib.hid (Nat.le_trans HL.out (show 6 ≤ 9223372036854775807 by omega))
      refine (receipt_Encode (n : Int) t (q : Int) HT6.out W7).mono ?_
      rintro e w8 ⟨rfl, hb⟩
      have HX := Lib.hid (F7.out.1.below hb F7.out.1.lt)
      have HR : Hid (Blk w8 w.heap.size 76 #[.int .i64 0, .string ⟨#[]⟩, .int .i64 0] ∧ Below w.heap.size w w8) := Lib.hid ⟨F7.out.2.1.below hb F7.out.2.1.lt, F7.out.2.2.trans (hb.mono (Nat.le_of_lt F7.out.2.1.lt))⟩
      clear hb F7
      unfold encW
      by_cases hk : rcOk (n : Int) t (q : Int)
      · rw [if_pos hk]
        have HZ : Hid (decW s = ((n, t, q), 0)) := Lib.hid (by rw [HD.out, if_neg]; rintro (h | h | h); exact h he; exact hn h; exact h hk)
        have c0 : w8.cell? ⟨X, 0, none⟩ = some (.int .i64 n) := HX.out.cell 0
        have c1 : w8.cell? ⟨X, 1, none⟩ = some (.string ⟨t.toArray⟩) := HX.out.cell 1
        have c2 : w8.cell? ⟨X, 2, none⟩ = some (.int .i64 (q : Int)) := HX.out.cell 2
        generalize numW (n : Int).toNat ++ textW t ++ numW (q : Int).toNat = bytes
        clear HD he hn hk gn HB
        have HB : Hid (∀ w', decW s = ((n, t, q), 0) → Below w.heap.size w w' → P (.returned (.tuple #[.agg #[.int .i64 n, .string ⟨t.toArray⟩, .int .i64 q], .int .i64 0])) w') := Lib.hid (fun w' => HG.out w' n t q)
        have r0 : w8.cell? ⟨w.heap.size, 0, none⟩ = some (.int .i64 0) := HR.out.1.cell 0
        have r1 : w8.cell? ⟨w.heap.size, 1, none⟩ = some (.string ⟨#[]⟩) := HR.out.1.cell 1
        have r2 : w8.cell? ⟨w.heap.size, 2, none⟩ = some (.int .i64 0) := HR.out.1.cell 2
        have f0 : w8.frozen? ⟨w.heap.size, 0, none⟩ = false := HR.out.1.frozen 0
        have f1 : w8.frozen? ⟨w.heap.size, 1, none⟩ = false := HR.out.1.frozen 1
        have f2 : w8.frozen? ⟨w.heap.size, 2, none⟩ = false := HR.out.1.frozen 2
        go_wp2
        have HW9 : Hid (Blk (((w8.setCell ⟨w.heap.size, 0, none⟩ (.int .i64 (n : Int))).setCell ⟨w.heap.size, 1, none⟩ (.string ⟨t.toArray⟩)).setCell ⟨w.heap.size, 2, none⟩ (.int .i64 (q : Int))) w.heap.size 76 #[.int .i64 (n : Int), .string ⟨t.toArray⟩, .int .i64 (q : Int)] ∧ Below w.heap.size w (((w8.setCell ⟨w.heap.size, 0, none⟩ (.int .i64 (n : Int))).setCell ⟨w.heap.size, 1, none⟩ (.string ⟨t.toArray⟩)).setCell ⟨w.heap.size, 2, none⟩ (.int .i64 (q : Int)))) := Lib.hid
          ⟨((HR.out.1.set_ 0 (.int .i64 (n : Int))).set_ 1 (.string ⟨t.toArray⟩)).set_ 2 (.int .i64 (q : Int)), ((HR.out.2.setCell (p := ⟨w.heap.size, 0, none⟩) (Nat.le_refl _) _).setCell (p := ⟨w.heap.size, 1, none⟩) (Nat.le_refl _) _).setCell (p := ⟨w.heap.size, 2, none⟩) (Nat.le_refl _) _⟩
        generalize ((w8.setCell ⟨w.heap.size, 0, none⟩ (.int .i64 (n : Int))).setCell ⟨w.heap.size, 1, none⟩ (.string ⟨t.toArray⟩)).setCell ⟨w.heap.size, 2, none⟩ (.int .i64 (q : Int)) = W9 at HW9 ⊢
        have s0 : W9.cell? ⟨w.heap.size, 0, none⟩ = some (.int .i64 (n : Int)) := HW9.out.1.cell 0
        have s1 : W9.cell? ⟨w.heap.size, 1, none⟩ = some (.string ⟨t.toArray⟩) := HW9.out.1.cell 1
        have s2 : W9.cell? ⟨w.heap.size, 2, none⟩ = some (.int .i64 (q : Int)) := HW9.out.1.cell 2
        (try simp only [Exit.inBlock, Exit.then])
        refine bodyPost_ret (v := .tuple #[.agg #[.int .i64 (n : Int), .string ⟨t.toArray⟩, .int .i64 (q : Int)], .int .i64 0]) (by simp [results, Tryd.results76, go_sem, s0, s1, s2]) rfl ?_
        exact HB.out _ HZ.out HW9.out.2
      · rw [if_neg hk]
        have HZ : Hid (decW s = ((0, [], 0), 3)) := Lib.hid (by rw [HD.out, if_pos (Or.inr (Or.inr hk))])
        clear HD he hn hk gn
        have r0 : w8.cell? ⟨w.heap.size, 0, none⟩ = some (.int .i64 0) := HR.out.1.cell 0
        have r1 : w8.cell? ⟨w.heap.size, 1, none⟩ = some (.string ⟨#[]⟩) := HR.out.1.cell 1
        have r2 : w8.cell? ⟨w.heap.size, 2, none⟩ = some (.int .i64 0) := HR.out.1.cell 2
        have f0 : w8.frozen? ⟨w.heap.size, 0, none⟩ = false := HR.out.1.frozen 0
        have f1 : w8.frozen? ⟨w.heap.size, 1, none⟩ = false := HR.out.1.frozen 1
        have f2 : w8.frozen? ⟨w.heap.size, 2, none⟩ = false := HR.out.1.frozen 2
        go_wp2
        have HW9 : Hid (Blk (((w8.setCell ⟨w.heap.size, 0, none⟩ (.int .i64 0)).setCell ⟨w.heap.size, 1, none⟩ (.string ⟨#[]⟩)).setCell ⟨w.heap.size, 2, none⟩ (.int .i64 0)) w.heap.size 76 #[.int .i64 0, .string ⟨#[]⟩, .int .i64 0] ∧ Below w.heap.size w (((w8.setCell ⟨w.heap.size, 0, none⟩ (.int .i64 0)).setCell ⟨w.heap.size, 1, none⟩ (.string ⟨#[]⟩)).setCell ⟨w.heap.size, 2, none⟩ (.int .i64 0))) := Lib.hid
          ⟨((HR.out.1.set_ 0 (.int .i64 0)).set_ 1 (.string ⟨#[]⟩)).set_ 2 (.int .i64 0), ((HR.out.2.setCell (p := ⟨w.heap.size, 0, none⟩) (Nat.le_refl _) _).setCell (p := ⟨w.heap.size, 1, none⟩) (Nat.le_refl _) _).setCell (p := ⟨w.heap.size, 2, none⟩) (Nat.le_refl _) _⟩
        generalize ((w8.setCell ⟨w.heap.size, 0, none⟩ (.int .i64 0)).setCell ⟨w.heap.size, 1, none⟩ (.string ⟨#[]⟩)).setCell ⟨w.heap.size, 2, none⟩ (.int .i64 0) = W9 at HW9 ⊢
        have s0 : W9.cell? ⟨w.heap.size, 0, none⟩ = some (.int .i64 0) := HW9.out.1.cell 0
        have s1 : W9.cell? ⟨w.heap.size, 1, none⟩ = some (.string ⟨#[]⟩) := HW9.out.1.cell 1
        have s2 : W9.cell? ⟨w.heap.size, 2, none⟩ = some (.int .i64 0) := HW9.out.1.cell 2
        (try simp only [Exit.inBlock, Exit.then])
        refine bodyPost_ret (v := .tuple #[.agg #[.int .i64 0, .string ⟨#[]⟩, .int .i64 0], .int .i64 3]) (by simp [results, Tryd.results76, go_sem, s0, s1, s2]) rfl ?_
        exact HB.out _ HZ.out HW9.out.2
  · have HZ : Hid (decW s = ((0, [], 0), 3)) := Lib.hid (by rw [HD.out, if_pos (Or.inl he)])
    have gn : ((endS s3 : Int) == 0) = false := by simp; exact he
    have gn2 : ((endS s3 : Int) != 0) = true := by simp; exact he
    generalize endS s3 = ec at *
    clear HD he F6
    have r0 : w6.cell? ⟨w.heap.size, 0, none⟩ = some (.int .i64 0) := HR.out.1.cell 0
    have r1 : w6.cell? ⟨w.heap.size, 1, none⟩ = some (.string ⟨#[]⟩) := HR.out.1.cell 1
    have r2 : w6.cell? ⟨w.heap.size, 2, none⟩ = some (.int .i64 0) := HR.out.1.cell 2
    have f0 : w6.frozen? ⟨w.heap.size, 0, none⟩ = false := HR.out.1.frozen 0
    have f1 : w6.frozen? ⟨w.heap.size, 1, none⟩ = false := HR.out.1.frozen 1
    have f2 : w6.frozen? ⟨w.heap.size, 2, none⟩ = false := HR.out.1.frozen 2
    go_wp2
    have HW9 : Hid (Blk (((w6.setCell ⟨w.heap.size, 0, none⟩ (.int .i64 0)).setCell ⟨w.heap.size, 1, none⟩ (.string ⟨#[]⟩)).setCell ⟨w.heap.size, 2, none⟩ (.int .i64 0)) w.heap.size 76 #[.int .i64 0, .string ⟨#[]⟩, .int .i64 0] ∧ Below w.heap.size w (((w6.setCell ⟨w.heap.size, 0, none⟩ (.int .i64 0)).setCell ⟨w.heap.size, 1, none⟩ (.string ⟨#[]⟩)).setCell ⟨w.heap.size, 2, none⟩ (.int .i64 0))) := Lib.hid
      ⟨((HR.out.1.set_ 0 (.int .i64 0)).set_ 1 (.string ⟨#[]⟩)).set_ 2 (.int .i64 0), ((HR.out.2.setCell (p := ⟨w.heap.size, 0, none⟩) (Nat.le_refl _) _).setCell (p := ⟨w.heap.size, 1, none⟩) (Nat.le_refl _) _).setCell (p := ⟨w.heap.size, 2, none⟩) (Nat.le_refl _) _⟩
    generalize ((w6.setCell ⟨w.heap.size, 0, none⟩ (.int .i64 0)).setCell ⟨w.heap.size, 1, none⟩ (.string ⟨#[]⟩)).setCell ⟨w.heap.size, 2, none⟩ (.int .i64 0) = W9 at HW9 ⊢
    have s0 : W9.cell? ⟨w.heap.size, 0, none⟩ = some (.int .i64 0) := HW9.out.1.cell 0
    have s1 : W9.cell? ⟨w.heap.size, 1, none⟩ = some (.string ⟨#[]⟩) := HW9.out.1.cell 1
    have s2 : W9.cell? ⟨w.heap.size, 2, none⟩ = some (.int .i64 0) := HW9.out.1.cell 2
    (try simp only [Exit.inBlock, Exit.then])
    refine bodyPost_ret (v := .tuple #[.agg #[.int .i64 0, .string ⟨#[]⟩, .int .i64 0], .int .i64 3]) (by simp [results, Tryd.results76, go_sem, s0, s1, s2]) rfl ?_
    exact HB.out _ HZ.out HW9.out.2
end Go.Proofs.YtefcmigbdfeaiaaDoor

namespace Go.Proofs.YtefcmigbdfeaiaaDoor
set_option linter.unusedVariables false
open Go.RowKit Go.Instr
attribute [local go_sem] ba_get ByteArray.mk_append_mk
theorem encW_len {c q : Int} {f : List UInt8} (h : rcOk c f q) : (encW c f q).1 ≠ [] ∧ (encW c f q).1.length ≤ 32 := by
  obtain ⟨h1, h2, h3, h4, h5, h6⟩ := id h
  have a1 := beB_len 2 c.toNat (by omega)
  have a2 := beB_len 1 f.length (by omega)
  have a3 := beB_len 6 q.toNat (by omega)
  rw [encW, if_pos h]
  refine ⟨by simp [numW], ?_⟩
  simp only [numW, textW, List.length_append, List.length_cons]
  omega
def rcells (l : List (Int × List UInt8 × Int)) : List Value := l.flatMap fun x => [.int .i64 x.1, .string ⟨x.2.1.toArray⟩, .int .i64 x.2.2]
theorem rcells_at {l : List (Int × List UInt8 × Int)} {i : Nat} (h : i < l.length) : (rcells l)[3 * i]? = some (.int .i64 l[i].1) ∧ (rcells l)[3 * i + 1]? = some (.string ⟨l[i].2.1.toArray⟩) ∧ (rcells l)[3 * i + 2]? = some (.int .i64 l[i].2.2) := by
  induction l generalizing i with
  | nil => simp at h
  | cons a l ih =>
    rcases i with _ | i
    · simp [rcells]
    · have := ih (show i < l.length by simpa using h)
      rw [show 3 * (i + 1) = 3 * i + 1 + 1 + 1 by omega]
      simpa [rcells] using this
theorem rcells_length (l : List (Int × List UInt8 × Int)) : (rcells l).length = 3 * l.length := by
  induction l with
  | nil => rfl
  | cons a l ih =>
    rw [show rcells (a :: l) = .int .i64 a.1 :: .string ⟨a.2.1.toArray⟩ :: .int .i64 a.2.2 :: rcells l from rfl, List.length_cons, List.length_cons, List.length_cons, ih, List.length_cons]; omega
def treeW : Trie.T → Nat → List (Int × List UInt8 × Int) → Trie.T × Nat
  | t, k, [] => (t, 0)
  | t, k, x :: l => if rcOk x.1 x.2.1 x.2.2 then treeW (Trie.put t (Nib.of [UInt8.ofNat k]) (encW x.1 x.2.1 x.2.2).1) (k + 1) l else (.nil, 3)
theorem put_receipt {c q : Int} {f : List UInt8} (h : rcOk c f q) (k : UInt8) : Trie.putCode [k] (encW c f q).1 = 0 := by
  have := encW_len h
  unfold Trie.putCode Trie.keyedW
  rw [if_pos (by simp), if_neg]
  simp
  exact this
set_option maxRecDepth 100000 in
theorem receipt_key (k : Nat) (hk : k < 256) (w : World) :
    Calls Tryd.prog 78 #[.int .i64 (k : Int)] w fun e w' => e = .returned (.string ⟨#[UInt8.ofNat k]⟩) ∧ Below w.heap.size w w' := by
  have HP : Hid (∀ w', Below w.heap.size w w' → (fun e w' => e = Ending.returned (.string ⟨#[UInt8.ofNat k]⟩) ∧ Below w.heap.size w w') (Ending.returned (.string ⟨#[UInt8.ofNat k]⟩)) w') := Lib.hid (fun w' hb => ⟨rfl, hb⟩)
  generalize (fun e w' => e = Ending.returned (.string ⟨#[UInt8.ofNat k]⟩) ∧ Below w.heap.size w w') = P at HP ⊢
  have cv := conv1d w (k : Int) (by omega) (by omega)
  have cv2 := conv1 w (k : Int) (by omega) (by omega)
  rw [show UInt8.ofNat ((k : Int)).toNat = UInt8.ofNat k by congr 1] at cv cv2
  have ew : (k : Int) % 256 = (k : Int) := by omega
  rw [← ew] at cv cv2
  clear ew hk
  have HG : Hid (∀ f, Below w.heap.size w (w.alloc (.cells f 5))) := Lib.hid (fun f => by go_grown)
  go_enter Tryd.func78, Tryd.ntmps78
  go_wp2
  exact HP.out _ (HG.out _)
set_option maxRecDepth 100000 in
set_option maxHeartbeats 1000000 in
theorem receipt_tree (l : List (Int × List UInt8 × Int)) (hl : l.length ≤ 8) (hs : ∀ x ∈ l, x.2.1.length ≤ 9223372036854775807) (w : World) (hT : Tbl w) (A : Option Addr) (c : Nat) (HR : Reads w w.heap.size 3 A l.length (rcells l)) :
    Calls Tryd.prog 77 #[.slice A l.length c] w (TPutEnd w (treeW .nil 0 l).1 (treeW .nil 0 l).2) := by
  have HP : Hid (∀ (t' : Trie.T) (c : Nat) v' w', treeW .nil 0 l = (t', c) → Below w.heap.size w w' → (c = 0 → TrieP w' t' v') → (c ≠ 0 → v' = .pointer none) → TPutEnd w (treeW .nil 0 l).1 (treeW .nil 0 l).2 (.returned (.tuple #[v', .int .i64 (c : Int)])) w') := Lib.hid (fun t' c v' w' h1 h2 h3 h4 => ⟨v', by rw [h1], h2, by rw [h1]; exact h3, by rw [h1]; exact h4⟩)
  generalize TPutEnd w (treeW .nil 0 l).1 (treeW .nil 0 l).2 = P at HP ⊢
  have HRR := Lib.hid HR
  have HS := Lib.hid hs
  have HTb := Lib.hid hT
  have HL := Lib.hid hl
  have hl1 : ((8 : Int) < (l.length : Int)) = False := by simp; omega
  clear HR hs hT
  go_enter Tryd.func77, Tryd.ntmps77
  go_wp2_with (go_at_call 49; refine (trie_New _).mono ?_; rintro e w1 ⟨v0, rfl, hk0, hb0⟩; have H0 := Lib.hid (And.intro hk0 hb0); clear hk0 hb0)
  refine wp_loop_ghost_k (fun k a wr => ∀ Φ : Act → Prop, (∀ (s1 s2 s3 s5 s6 s7 s8 s9 s10 s11 s12 s15 s16 s17 s18 s19 s20 s21 s22 s23 s24 s25 s26 s27 s28 s29 s30 s31 s32 s33 s34 s35 s36 s37 s38 s39 s40 : Value) (i : Nat) (t : Trie.T) (v : Value), (i + k = l.length ∧ treeW .nil 0 l = treeW t i (l.drop i) ∧ Trie.count t ≤ i ∧ TrieP wr t v ∧ Below w.heap.size w wr) → Φ { tmps := #[.slice A l.length c, s1, s2, s3, v, s5, s6, s7, s8, s9, s10, s11, s12, .int .i64 l.length, .int .i64 (i : Int), s15, s16, s17, s18, s19, s20, s21, s22, s23, s24, s25, s26, s27, s28, s29, s30, s31, s32, s33, s34, s35, s36, s37, s38, s39, s40], defers := [] }) → Φ a) (l.length) ?_ ?_
  · refine fun Φ hΦ => hΦ _ _ _ _ _ _ _ _ _ _ _ _ _ _ _ _ _ _ _ _ _ _ _ _ _ _ _ _ _ _ _ _ _ _ _ _ _ (0) (.nil) (v0) ?_
    exact ⟨by omega, rfl, by simp [Trie.count], H0.out.1, H0.out.2⟩
  · intro k1 a1 wr1 hI1 J1 K1 hJ1 hK1
    refine hI1 (fun a => Code.wp _ _ _ a _) ?_
    clear hI1 a1
    intro s0 s1 s2 s3 s4 s5 s6 s7 s8 s9 s10 s11 s12 s13 s14 s15 s16 s17 s18 s19 s20 s21 s22 s23 s24 s25 s26 s27 s28 s29 s30 s31 s32 s33 s34 s35 s36 i t v hrel
    show Code.wp _ _ _ _ _
    obtain ⟨h1, h2, h3, hk, hb⟩ := hrel
    by_cases hi : i < l.length
    · obtain ⟨ad, off, rfl, hbl, hcell⟩ := HRR.out.form (by omega) (by omega)
      have ic := rcells_at hi
      have hil := rcells_length l
      have e0 : (rcells l)[3 * i]'(by omega) = .int .i64 l[i].1 := by
        have := ic.1; rw [List.getElem?_eq_getElem (by omega)] at this; exact Option.some.inj this
      have e1 : (rcells l)[3 * i + 1]'(by omega) = .string ⟨l[i].2.1.toArray⟩ := by
        have := ic.2.1; rw [List.getElem?_eq_getElem (by omega)] at this; exact Option.some.inj this
      have e2 : (rcells l)[3 * i + 2]'(by omega) = .int .i64 l[i].2.2 := by
        have := ic.2.2; rw [List.getElem?_eq_getElem (by omega)] at this; exact Option.some.inj this
      have q0 := hcell (3 * i) (by omega)
      have q1 := hcell (3 * i + 1) (by omega)
      have q2 := hcell (3 * i + 2) (by omega)
      rw [e0] at q0
      rw [e1] at q1
      rw [e2] at q2
      have r0 : wr1.cell? ⟨ad, off + i * 3, none⟩ = some (.int .i64 l[i].1) := by rw [show i * 3 = 3 * i by omega]; exact (hb.cell (p := ⟨ad, off + 3 * i, none⟩) hbl).trans q0
      have r1 : wr1.cell? ⟨ad, off + i * 3 + 1, none⟩ = some (.string ⟨l[i].2.1.toArray⟩) := by rw [show off + i * 3 + 1 = off + (3 * i + 1) by omega]; exact (hb.cell (p := ⟨ad, off + (3 * i + 1), none⟩) hbl).trans q1
      have r2 : wr1.cell? ⟨ad, off + i * 3 + 2, none⟩ = some (.int .i64 l[i].2.2) := by rw [show off + i * 3 + 2 = off + (3 * i + 2) by omega]; exact (hb.cell (p := ⟨ad, off + (3 * i + 2), none⟩) hbl).trans q2
      have hi1 : (i : Int) < l.length := by omega
      have hi0 : (0 : Int) ≤ i := by omega
      have hd : l.drop i = l[i] :: l.drop (i + 1) := List.drop_eq_getElem_cons hi
      have hlen := HS.out _ (List.getElem_mem hi)
      have HI := Lib.hid (And.intro h1 (And.intro h2 (And.intro h3 (And.intro hk (And.intro hb hd)))))
      have HI8 := Lib.hid (show i < 8 from Nat.lt_of_lt_of_le hi HL.out)
      clear ic hil e0 e1 e2 q0 q1 q2 h1 h2 h3 hk hb hcell hd
      generalize l[i] = x at *
      obtain ⟨rc, rf, rq⟩ := x
      have HEnc : Hid (∀ W, Calls Tryd.prog 75 #[.agg #[.int .i64 rc, .string ⟨rf.toArray⟩, .int .i64 rq]] W (REncEnd W (encW rc rf rq))) := Lib.hid (fun W => receipt_Encode rc rf rq hlen W)
      have HKey : Hid (∀ W, Calls Tryd.prog 78 #[.int .i64 (i : Int)] W fun e w' => e = .returned (.string ⟨#[UInt8.ofNat i]⟩) ∧ Below W.heap.size W w') := Lib.hid (fun W => receipt_key i (Nat.lt_trans HI8.out (by omega)) W)
      by_cases hok : rcOk rc rf rq
      · have hen := encW_len hok
        have hpc := put_receipt hok (UInt8.ofNat i)
        have HPut : Hid (∀ W, Below wr1.heap.size wr1 W → Calls Tryd.prog 50 #[v, .string ⟨#[UInt8.ofNat i]⟩, .string ⟨(encW rc rf rq).1.toArray⟩] W (TPutEnd W (Trie.put t (Nib.of [UInt8.ofNat i]) (encW rc rf rq).1) 0)) := Lib.hid (fun W hW => by
          rw [← hpc]
          exact trie_Put W t v (HI.out.2.2.2.1.next hW) (by have := HI.out.2.2.1; have := HI8.out; omega) (HTb.out.next (HI.out.2.2.2.2.1.nxt hW)) [UInt8.ofNat i] (encW rc rf rq).1 (by simp) (by omega))
        have HQ : Hid (treeW t i (l.drop i) = treeW (Trie.put t (Nib.of [UInt8.ofNat i]) (encW rc rf rq).1) (i + 1) (l.drop (i + 1))) := Lib.hid (by rw [HI.out.2.2.2.2.2, treeW, if_pos hok])
        have HCn : Hid (Trie.count (Trie.put t (Nib.of [UInt8.ofNat i]) (encW rc rf rq).1) ≤ i + 1) := Lib.hid (by have := Trie.count_put t (Nib.of [UInt8.ofNat i]) (encW rc rf rq).1; have := HI.out.2.2.1; omega)
        have he2 : (encW rc rf rq).2 = 0 := by rw [encW, if_pos hok]
        unfold REncEnd at HEnc
        rw [he2] at HEnc
        clear hen hpc hok hlen he2
        generalize Trie.put t (Nib.of [UInt8.ofNat i]) (encW rc rf rq).1 = t2 at *
        generalize (encW rc rf rq).1 = bytes at *
        go_wp2_with fail
        refine (HEnc.out _).mono ?_
        rintro e w2 ⟨rfl, hb2⟩
        have HB2 := Lib.hid hb2
        clear hb2
        go_wp2_with fail
        refine (HKey.out _).mono ?_
        rintro e w3 ⟨rfl, hb3⟩
        have HB3 := Lib.hid (HB2.out.nxt hb3)
        clear hb3
        go_wp2_with fail
        refine (HPut.out _ HB3.out).mono ?_
        rintro e w4 ⟨v3, rfl, hb4, hk3, hn3⟩
        have HB4 := Lib.hid (And.intro (HB3.out.nxt hb4) (hk3 (by first | exact trivial | rfl)))
        clear hb4 hk3 hn3
        go_wp2_with fail
        refine Handed.intro (l.length - (i + 1)) ?_ (hJ1 _ _ _ (fun Φ hΦ => hΦ _ _ _ _ _ _ _ _ _ _ _ _ _ _ _ _ _ _ _ _ _ _ _ _ _ _ _ _ _ _ _ _ _ _ _ _ _ (i + 1) (t2) (v3) ?_))
        · have := HI.out.1; omega
        exact ⟨by have := HI.out.1; omega, HI.out.2.1.trans HQ.out, HCn.out, HB4.out.2, HI.out.2.2.2.2.1.nxt HB4.out.1⟩
      · have HQ : Hid (treeW t i (l.drop i) = (.nil, 3)) := Lib.hid (by rw [HI.out.2.2.2.2.2, treeW, if_neg hok])
        have he2 : encW rc rf rq = ([], 3) := by rw [encW, if_neg hok]
        rw [he2] at HEnc
        clear hok hlen he2
        go_wp2_with fail
        refine (HEnc.out _).mono ?_
        rintro e w2 ⟨rfl, hb2⟩
        have HB2 := Lib.hid hb2
        clear hb2
        go_wp2_with fail
        exact HP.out .nil 3 _ _ (HI.out.2.1.trans HQ.out) (HI.out.2.2.2.2.1.nxt HB2.out) (fun h => by cases h) (fun _ => rfl)
    · have hi1 : ((i : Int) < l.length) = False := by simp; omega
      have HQ : Hid (treeW t i (l.drop i) = (t, 0)) := Lib.hid (by rw [List.drop_of_length_le (by omega), treeW])
      have HI := Lib.hid (And.intro h2 (And.intro hk hb))
      clear h1 h2 h3 hk hb hi
      go_wp2_with fail
      exact HP.out _ _ _ _ (HI.out.1.trans HQ.out) HI.out.2.2 (fun _ => HI.out.2.1) (fun h => absurd rfl h)
end Go.Proofs.YtefcmigbdfeaiaaDoor
