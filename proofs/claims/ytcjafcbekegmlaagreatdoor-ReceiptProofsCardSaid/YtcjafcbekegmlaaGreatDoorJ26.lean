import Derived.Test.YtcjafcbekegmlaaGreatDoorJ19
import Derived.Test.YtcjafcbekegmlaaGreatDoorJ25
import Derived.Test.YtcjafcbekegmlaaGreatDoorJ22
import Derived.Test.YtcjafcbekegmlaaGreatDoorJ20
import Derived.Test.YtcjafcbekegmlaaGreatDoorJ15
set_option linter.unusedSimpArgs false
set_option linter.unusedVariables false
namespace Go.Proofs.YtcjafcbekegmlaaGreatDoor
set_option linter.unusedVariables false
open Go.RowKit Go.Instr
attribute [local go_sem] ba_get ByteArray.mk_append_mk
attribute [local go_sem ↓] Go.wp_at_zero Go.wp_at_succ
def treeF (l : List (Int × List UInt8 × Int)) : Trie.T × Nat := if 8 < l.length then (.nil, 2) else treeW .nil 0 l
theorem treeW_count : ∀ (l : List (Int × List UInt8 × Int)) (t : Trie.T) (k : Nat), Trie.count (treeW t k l).1 ≤ Trie.count t + l.length
  | [], t, k => by simp [treeW]
  | x :: l, t, k => by
    rw [treeW]
    split
    · have h1 := treeW_count l (Trie.put t (Nib.of [UInt8.ofNat k]) (encW x.1 x.2.1 x.2.2).1) (k + 1)
      have h2 := Trie.count_put t (Nib.of [UInt8.ofNat k]) (encW x.1 x.2.1 x.2.2).1
      rw [List.length_cons]; omega
    · simp [Trie.count]
theorem treeF_count (l : List (Int × List UInt8 × Int)) : Trie.count (treeF l).1 ≤ 8 := by
  unfold treeF
  split
  · simp [Trie.count]
  · have := treeW_count l .nil 0
    simp only [Trie.count] at this; omega
set_option maxRecDepth 100000 in
theorem receipt_treeF (l : List (Int × List UInt8 × Int)) (hs : ∀ x ∈ l, x.2.1.length ≤ 9223372036854775807) (w : World) (hT : Tbl w) (A : Option Addr) (c : Nat) (HR : Reads w w.heap.size 3 A l.length (rcells l)) :
    Calls Tryz.prog 31 #[.slice A l.length c] w (TPutEnd w (treeF l).1 (treeF l).2) := by
  by_cases hl : 8 < l.length
  · have HP : Hid (∀ w', Below w.heap.size w w' → TPutEnd w (treeF l).1 (treeF l).2 (.returned (.tuple #[.pointer none, .int .i64 2])) w') := Lib.hid (fun w' hb => by
      unfold treeF
      rw [if_pos hl]
      exact ⟨_, rfl, hb, fun h => (by cases h), fun _ => rfl⟩)
    generalize TPutEnd w (treeF l).1 (treeF l).2 = P at HP ⊢
    have hl1 : (8 : Int) < (l.length : Int) := by omega
    clear hl HR hT hs
    go_enter Tryz.func31, Tryz.ntmps31
    go_wp2_with fail
    exact HP.out _ (Below.refl _ _)
  · have := receipt_tree l (by omega) hs w hT A c HR
    unfold treeF
    rwa [if_neg hl]
set_option maxRecDepth 100000 in
set_option maxHeartbeats 1000000 in
theorem receipt_RootF (l : List (Int × List UInt8 × Int)) (hs : ∀ x ∈ l, x.2.1.length ≤ 9223372036854775807) (w : World) (hT : Tbl w) (A : Option Addr) (c : Nat) (HR : Reads w w.heap.size 3 A l.length (rcells l)) :
    Calls Tryz.prog 9 #[.slice A l.length c] w (RRootEnd w (treeF l)) := by
  have HTr := Lib.hid (receipt_treeF l hs w hT A c HR)
  generalize treeF l = r at *
  obtain ⟨t, cd⟩ := r
  clear HR hT hs
  by_cases hc : cd = 0
  · subst hc
    have HP : Hid (∀ w', Below w.heap.size w w' → RRootEnd w (t, 0) (.returned (.tuple #[.string ⟨(Trie.sumT t).toArray⟩, .int .i64 0])) w') := Lib.hid (fun w' hb => ⟨rfl, hb⟩)
    generalize RRootEnd w (t, 0) = P at HP ⊢
    go_enter Tryz.func9, Tryz.ntmps9
    go_wp2_with fail
    refine HTr.out.mono ?_
    rintro e w1 ⟨v, rfl, hb, hk, _⟩
    have HB := Lib.hid hb
    have HK := Lib.hid (hk (by first | exact trivial | rfl))
    clear hb hk
    go_wp2_with fail
    refine (trie_Root _ _ _ HK.out).mono ?_
    rintro e w2 ⟨rfl, rfl⟩
    go_wp2_with fail
    exact HP.out _ HB.out
  · have HP : Hid (∀ w', Below w.heap.size w w' → RRootEnd w (t, cd) (.returned (.tuple #[.string ⟨#[]⟩, .int .i64 (cd : Int)])) w') := Lib.hid (fun w' hb => ⟨by simp [hc], hb⟩)
    generalize RRootEnd w (t, cd) = P at HP ⊢
    have hc1 : ((cd : Int) != 0) = true := by simp; exact hc
    clear hc
    go_enter Tryz.func9, Tryz.ntmps9
    go_wp2_with fail
    refine HTr.out.mono ?_
    rintro e w1 ⟨v, rfl, hb, _, _⟩
    have HB := Lib.hid hb
    clear hb
    go_wp2_with fail
    exact HP.out _ HB.out
def proveF (l : List (Int × List UInt8 × Int)) (at_ : Int) : List (List UInt8) × Nat :=
  if (treeF l).2 ≠ 0 then ([], (treeF l).2) else if at_ < 0 ∨ 255 < at_ then ([], 1) else proveW (treeF l).1 [UInt8.ofNat at_.toNat]
set_option maxRecDepth 100000 in
set_option maxHeartbeats 1000000 in
theorem receipt_Prove (l : List (Int × List UInt8 × Int)) (hs : ∀ x ∈ l, x.2.1.length ≤ 9223372036854775807) (at_ : Int) (w : World) (hT : Tbl w) (A : Option Addr) (c : Nat) (HR : Reads w w.heap.size 3 A l.length (rcells l)) :
    Calls Tryz.prog 11 #[.slice A l.length c, .int .i64 at_] w (TextsCEnd w (proveF l at_)) := by
  have HTr := Lib.hid (receipt_treeF l hs w hT A c HR)
  have hcn := treeF_count l
  have HX : Hid (proveF l at_ = if (treeF l).2 ≠ 0 then ([], (treeF l).2) else if at_ < 0 ∨ 255 < at_ then ([], 1) else proveW (treeF l).1 [UInt8.ofNat at_.toNat]) := Lib.hid rfl
  have HP : Hid (∀ q (cd : Nat), proveF l at_ = (q, cd) → ∀ A n c w', n = q.length → w'.ownsRow w.heap.size 9 1 (.slice A n c) n (strv q) → Below w.heap.size w w' → TextsCEnd w (proveF l at_) (.returned (.tuple #[.slice A n c, .int .i64 (cd : Int)])) w') := Lib.hid (fun q cd e A n c w' h1 h2 h3 => by rw [e]; exact ⟨A, n, c, rfl, h1, h2, h3⟩)
  generalize TextsCEnd w (proveF l at_) = P at HP ⊢
  generalize treeF l = r at *
  obtain ⟨t, cd⟩ := r
  simp only at hcn HX
  clear HR hT hs
  by_cases hc : cd = 0
  rotate_left
  · have hc1 : ((cd : Int) != 0) = true := by simp; exact hc
    have HE : Hid (proveF l at_ = ([], cd)) := Lib.hid (by rw [HX.out, if_pos hc])
    clear hc HX
    go_enter Tryz.func11, Tryz.ntmps11
    go_wp2_with fail
    refine HTr.out.mono ?_
    rintro e w1 ⟨v, rfl, hb, _, _⟩
    have HB := Lib.hid hb
    clear hb
    go_wp2_with fail
    exact HP.out [] cd HE.out none 0 0 w1 rfl (World.ownsRow_nil _ _ _ _) HB.out
  subst hc
  by_cases hat : at_ < 0 ∨ 255 < at_
  · have HE : Hid (proveF l at_ = ([], 1)) := Lib.hid (by rw [HX.out, if_neg (by simp), if_pos hat])
    clear HX
    rcases hat with h | h
    · have g1 : (at_ < 0) = True := by simp [h]
      clear h
      go_enter Tryz.func11, Tryz.ntmps11
      go_wp2_with fail
      refine HTr.out.mono ?_
      rintro e w1 ⟨v, rfl, hb, hk, _⟩
      obtain ⟨_, tb, tx, rfl, _⟩ := hk rfl
      have HB := Lib.hid hb
      clear hb hk
      go_wp2_with fail
      exact HP.out [] 1 HE.out none 0 0 w1 rfl (World.ownsRow_nil _ _ _ _) HB.out
    · have g1 : (at_ < 0) = False := by simp; omega
      have g2 : (255 < at_) = True := by simp [h]
      clear h
      go_enter Tryz.func11, Tryz.ntmps11
      go_wp2_with fail
      refine HTr.out.mono ?_
      rintro e w1 ⟨v, rfl, hb, hk, _⟩
      obtain ⟨_, tb, tx, rfl, _⟩ := hk rfl
      have HB := Lib.hid hb
      clear hb hk
      go_wp2_with fail
      exact HP.out [] 1 HE.out none 0 0 w1 rfl (World.ownsRow_nil _ _ _ _) HB.out
  · have g1 : (at_ < 0) = False := by simp; omega
    have g2 : (255 < at_) = False := by simp; omega
    have HE : Hid (proveF l at_ = proveW t [UInt8.ofNat at_.toNat]) := Lib.hid (by rw [HX.out, if_neg (by simp), if_neg hat])
    obtain ⟨k, rfl⟩ := Int.eq_ofNat_of_zero_le (show 0 ≤ at_ by omega)
    simp only [Int.toNat_natCast] at HE
    have HKey := Lib.hid (fun W => receipt_key k (by omega) W)
    clear HX hat
    go_enter Tryz.func11, Tryz.ntmps11
    go_wp2_with fail
    refine HTr.out.mono ?_
    rintro e w1 ⟨v, rfl, hb, hk, _⟩
    have HK := Lib.hid (hk rfl)
    obtain ⟨_, tb, tx, rfl, _⟩ := hk rfl
    have HB := Lib.hid hb
    clear hb hk
    go_wp2_with fail
    refine (HKey.out _).mono ?_
    rintro e w2 ⟨rfl, hb2⟩
    have HB2 := Lib.hid (HB.out.nxt hb2)
    have HPr := Lib.hid (proof_Prove w2 t _ (HK.out.next hb2) (by omega) [UInt8.ofNat k] (by simp))
    obtain ⟨q, qc, hq⟩ : ∃ q qc, proveW t [UInt8.ofNat k] = (q, qc) := ⟨_, _, rfl⟩
    rw [hq] at HPr HE
    clear hb2 hq
    go_wp2_with fail
    refine HPr.out.mono ?_
    rintro e w3 ⟨A3, n3, c3, rfl, hn3, own3, hb3⟩
    have HO := Lib.hid (And.intro hn3 (own_lower own3 HB2.out.size))
    have HB3 := Lib.hid (HB2.out.nxt hb3)
    clear own3 hb3 hn3
    go_wp2_with fail
    exact HP.out q qc HE.out A3 n3 c3 w3 HO.out.1 HO.out.2 HB3.out
theorem stepW_short {n : Nd} {l : List UInt8} (hv : n.2.2.1.length ≤ 32) : (stepW n l).2.length ≤ 32 + l.length ∧ ((stepW n l).1 ≠ [] → (stepW n l).2.length ≤ l.length) := by
  unfold stepW
  split
  · simp
  · split
    · simp; omega
    · split
      · simp
      · split
        · exact ⟨by simp only; omega, fun h => absurd rfl h⟩
        · split
          · simp
          · simp; omega
theorem followW_short : ∀ (r : List (List UInt8)) (s l : List UInt8) (k : Nat), (followW s l r k).1.length ≤ 32 + l.length
  | [], _, _, _ => by simp [followW]
  | x :: r, s, l, k => by
    rw [followW_cons]
    split
    · simp
    · rename_i h
      simp only [not_or, ne_eq, Decidable.not_not] at h
      obtain ⟨h1, h2, _⟩ := decN_ok (s := x) (n := (decN x).1) (by rw [← h.2])
      obtain ⟨_, _, _, hv, _⟩ := fineN_parts h2
      obtain ⟨a, b⟩ := stepW_short (n := (decN x).1) (l := l) hv
      split
      · exact a
      · rename_i hne
        have := followW_short r (stepW (decN x).1 l).1 (stepW (decN x).1 l).2 (k + 1)
        have := b hne
        omega
theorem verifyW_short (root key : List UInt8) (nodes : List (List UInt8)) (hk : key.length ≤ 100) : (verifyW root key nodes).1.length ≤ 1000 := by
  unfold verifyW
  split
  · simp
  · split
    · split <;> simp
    · split
      · have := followW_short nodes root (Nib.of key) 0
        rw [Nib.of_length] at this
        simp only; omega
      · simp
def verifyF (root : List UInt8) (at_ : Int) (nodes : List (List UInt8)) : (Nat × List UInt8 × Nat) × Bool × Nat :=
  if at_ < 0 ∨ 255 < at_ then ((0, [], 0), false, 1)
  else if (verifyW root [UInt8.ofNat at_.toNat] nodes).2.2 ≠ 0 ∨ (verifyW root [UInt8.ofNat at_.toNat] nodes).2.1 = false then ((0, [], 0), false, (verifyW root [UInt8.ofNat at_.toNat] nodes).2.2)
  else if (decW (verifyW root [UInt8.ofNat at_.toNat] nodes).1).2 ≠ 0 then ((0, [], 0), false, (decW (verifyW root [UInt8.ofNat at_.toNat] nodes).1).2)
  else ((decW (verifyW root [UInt8.ofNat at_.toNat] nodes).1).1, true, 0)
def RVerEnd (w : World) (r : (Nat × List UInt8 × Nat) × Bool × Nat) (e : Ending) (w' : World) : Prop := e = .returned (.tuple #[rcV (r.1.1 : Int) r.1.2.1 (r.1.2.2 : Int), .bool r.2.1, .int .i64 (r.2.2 : Int)]) ∧ Below w.heap.size w w'
set_option maxRecDepth 100000 in
set_option maxHeartbeats 4000000 in
theorem receipt_Verify (root : List UInt8) (at_ : Int) (w : World) (hT : Tbl w) (nodes : List (List UInt8)) (A : Option Addr) (c : Nat) (HRd : Reads w w.heap.size 1 A nodes.length (strv nodes)) (hn : nodes.length ≤ 100000) (hs : ∀ x ∈ nodes, x.length ≤ 999999) :
    Calls Tryz.prog 14 #[.string ⟨root.toArray⟩, .int .i64 at_, .slice A nodes.length c] w (RVerEnd w (verifyF root at_ nodes)) := by
  have HP : Hid (∀ (x : Nat × List UInt8 × Nat) b (cd : Nat) w', verifyF root at_ nodes = (x, b, cd) → Below w.heap.size w w' → RVerEnd w (verifyF root at_ nodes) (.returned (.tuple #[.agg #[.int .i64 (x.1 : Int), .string ⟨x.2.1.toArray⟩, .int .i64 (x.2.2 : Int)], .bool b, .int .i64 (cd : Int)])) w') := Lib.hid (fun x b cd w' e h => by rw [e]; exact ⟨rfl, h⟩)
  generalize hPd : RVerEnd w (verifyF root at_ nodes) = P at HP ⊢
  clear hPd
  have b0 : Hid (Blk (w.alloc (.cells #[.int .i64 0, .string ⟨#[]⟩, .int .i64 0] 34)) w.heap.size 34 #[.int .i64 0, .string ⟨#[]⟩, .int .i64 0] ∧ Below w.heap.size w (w.alloc (.cells #[.int .i64 0, .string ⟨#[]⟩, .int .i64 0] 34))) := Lib.hid ⟨Blk.new w _ _, by go_grown⟩
  by_cases hat : at_ < 0 ∨ 255 < at_
  · have HZ : Hid (verifyF root at_ nodes = ((0, [], 0), false, 1)) := Lib.hid (by unfold verifyF; rw [if_pos hat])
    clear HRd hT hn hs
    rcases hat with h | h
    · have g1 : (at_ < 0) = True := by simp [h]
      clear h
      go_enter Tryz.func14, Tryz.ntmps14
      go_upto_region 1 with fail
      generalize w.alloc (.cells #[.int .i64 0, .string ⟨#[]⟩, .int .i64 0] 34) = W0 at b0 ⊢
      have HR := b0
      have r0 : W0.cell? ⟨w.heap.size, 0, none⟩ = some (.int .i64 0) := HR.out.1.cell 0
      have r1 : W0.cell? ⟨w.heap.size, 1, none⟩ = some (.string ⟨#[]⟩) := HR.out.1.cell 1
      have r2 : W0.cell? ⟨w.heap.size, 2, none⟩ = some (.int .i64 0) := HR.out.1.cell 2
      have f0 : W0.frozen? ⟨w.heap.size, 0, none⟩ = false := HR.out.1.frozen 0
      have f1 : W0.frozen? ⟨w.heap.size, 1, none⟩ = false := HR.out.1.frozen 1
      have f2 : W0.frozen? ⟨w.heap.size, 2, none⟩ = false := HR.out.1.frozen 2
      go_wp2
      have HW9 : Hid (Blk (((W0.setCell ⟨w.heap.size, 0, none⟩ (.int .i64 0)).setCell ⟨w.heap.size, 1, none⟩ (.string ⟨#[]⟩)).setCell ⟨w.heap.size, 2, none⟩ (.int .i64 0)) w.heap.size 34 #[.int .i64 0, .string ⟨#[]⟩, .int .i64 0] ∧ Below w.heap.size w (((W0.setCell ⟨w.heap.size, 0, none⟩ (.int .i64 0)).setCell ⟨w.heap.size, 1, none⟩ (.string ⟨#[]⟩)).setCell ⟨w.heap.size, 2, none⟩ (.int .i64 0))) := Lib.hid
        ⟨((HR.out.1.set_ 0 (.int .i64 0)).set_ 1 (.string ⟨#[]⟩)).set_ 2 (.int .i64 0), ((HR.out.2.setCell (p := ⟨w.heap.size, 0, none⟩) (Nat.le_refl _) _).setCell (p := ⟨w.heap.size, 1, none⟩) (Nat.le_refl _) _).setCell (p := ⟨w.heap.size, 2, none⟩) (Nat.le_refl _) _⟩
      generalize ((W0.setCell ⟨w.heap.size, 0, none⟩ (.int .i64 0)).setCell ⟨w.heap.size, 1, none⟩ (.string ⟨#[]⟩)).setCell ⟨w.heap.size, 2, none⟩ (.int .i64 0) = W9 at HW9 ⊢
      have s0 : W9.cell? ⟨w.heap.size, 0, none⟩ = some (.int .i64 0) := HW9.out.1.cell 0
      have s1 : W9.cell? ⟨w.heap.size, 1, none⟩ = some (.string ⟨#[]⟩) := HW9.out.1.cell 1
      have s2 : W9.cell? ⟨w.heap.size, 2, none⟩ = some (.int .i64 0) := HW9.out.1.cell 2
      (try simp only [Exit.inBlock, Exit.then])
      refine bodyPost_ret (v := .tuple #[.agg #[.int .i64 0, .string ⟨#[]⟩, .int .i64 0], .bool false, .int .i64 1]) (by simp [results, Tryz.results14, go_sem, s0, s1, s2]) rfl ?_
      exact HP.out _ _ _ _ HZ.out HW9.out.2
    · have g1 : (at_ < 0) = False := by simp; omega
      have g2 : (255 < at_) = True := by simp [h]
      clear h
      go_enter Tryz.func14, Tryz.ntmps14
      go_upto_region 1 with fail
      generalize w.alloc (.cells #[.int .i64 0, .string ⟨#[]⟩, .int .i64 0] 34) = W0 at b0 ⊢
      have HR := b0
      have r0 : W0.cell? ⟨w.heap.size, 0, none⟩ = some (.int .i64 0) := HR.out.1.cell 0
      have r1 : W0.cell? ⟨w.heap.size, 1, none⟩ = some (.string ⟨#[]⟩) := HR.out.1.cell 1
      have r2 : W0.cell? ⟨w.heap.size, 2, none⟩ = some (.int .i64 0) := HR.out.1.cell 2
      have f0 : W0.frozen? ⟨w.heap.size, 0, none⟩ = false := HR.out.1.frozen 0
      have f1 : W0.frozen? ⟨w.heap.size, 1, none⟩ = false := HR.out.1.frozen 1
      have f2 : W0.frozen? ⟨w.heap.size, 2, none⟩ = false := HR.out.1.frozen 2
      go_wp2
      have HW9 : Hid (Blk (((W0.setCell ⟨w.heap.size, 0, none⟩ (.int .i64 0)).setCell ⟨w.heap.size, 1, none⟩ (.string ⟨#[]⟩)).setCell ⟨w.heap.size, 2, none⟩ (.int .i64 0)) w.heap.size 34 #[.int .i64 0, .string ⟨#[]⟩, .int .i64 0] ∧ Below w.heap.size w (((W0.setCell ⟨w.heap.size, 0, none⟩ (.int .i64 0)).setCell ⟨w.heap.size, 1, none⟩ (.string ⟨#[]⟩)).setCell ⟨w.heap.size, 2, none⟩ (.int .i64 0))) := Lib.hid
        ⟨((HR.out.1.set_ 0 (.int .i64 0)).set_ 1 (.string ⟨#[]⟩)).set_ 2 (.int .i64 0), ((HR.out.2.setCell (p := ⟨w.heap.size, 0, none⟩) (Nat.le_refl _) _).setCell (p := ⟨w.heap.size, 1, none⟩) (Nat.le_refl _) _).setCell (p := ⟨w.heap.size, 2, none⟩) (Nat.le_refl _) _⟩
      generalize ((W0.setCell ⟨w.heap.size, 0, none⟩ (.int .i64 0)).setCell ⟨w.heap.size, 1, none⟩ (.string ⟨#[]⟩)).setCell ⟨w.heap.size, 2, none⟩ (.int .i64 0) = W9 at HW9 ⊢
      have s0 : W9.cell? ⟨w.heap.size, 0, none⟩ = some (.int .i64 0) := HW9.out.1.cell 0
      have s1 : W9.cell? ⟨w.heap.size, 1, none⟩ = some (.string ⟨#[]⟩) := HW9.out.1.cell 1
      have s2 : W9.cell? ⟨w.heap.size, 2, none⟩ = some (.int .i64 0) := HW9.out.1.cell 2
      (try simp only [Exit.inBlock, Exit.then])
      refine bodyPost_ret (v := .tuple #[.agg #[.int .i64 0, .string ⟨#[]⟩, .int .i64 0], .bool false, .int .i64 1]) (by simp [results, Tryz.results14, go_sem, s0, s1, s2]) rfl ?_
      exact HP.out _ _ _ _ HZ.out HW9.out.2
  have g1 : (at_ < 0) = False := by simp; omega
  have g2 : (255 < at_) = False := by simp; omega
  have HX : Hid (verifyF root at_ nodes = if (verifyW root [UInt8.ofNat at_.toNat] nodes).2.2 ≠ 0 ∨ (verifyW root [UInt8.ofNat at_.toNat] nodes).2.1 = false then ((0, [], 0), false, (verifyW root [UInt8.ofNat at_.toNat] nodes).2.2)
  else if (decW (verifyW root [UInt8.ofNat at_.toNat] nodes).1).2 ≠ 0 then ((0, [], 0), false, (decW (verifyW root [UInt8.ofNat at_.toNat] nodes).1).2)
  else ((decW (verifyW root [UInt8.ofNat at_.toNat] nodes).1).1, true, 0)) := Lib.hid (by rw [verifyF, if_neg hat])
  obtain ⟨k, rfl⟩ := Int.eq_ofNat_of_zero_le (show 0 ≤ at_ by omega)
  simp only [Int.toNat_natCast] at HX
  have HKey := Lib.hid (fun W => receipt_key k (by omega) W)
  have HV := Lib.hid (fun W (hW : Below w.heap.size w W) => proof_Verify W root [UInt8.ofNat k] (by simp) nodes A c ((HRd.below hW).more hW.size) hn hs (hT.next hW))
  have HSh := verifyW_short root [UInt8.ofNat k] nodes (by simp)
  generalize verifyW root [UInt8.ofNat k] nodes = r at *
  obtain ⟨v, th, cd⟩ := r
  simp only at HSh HX
  have HDc := Lib.hid (fun W => receipt_Decode v (by omega) W)
  generalize decW v = d at *
  obtain ⟨⟨n, t, q⟩, dc⟩ := d
  simp only at HX
  clear HRd hT hn hs hat HSh
  go_enter Tryz.func14, Tryz.ntmps14
  go_upto_region 1 with fail
  generalize w.alloc (.cells #[.int .i64 0, .string ⟨#[]⟩, .int .i64 0] 34) = W0 at b0 ⊢
  go_wp2_with fail
  refine (HKey.out _).mono ?_
  rintro e w2 ⟨rfl, hb2⟩
  have B2 : Hid (Blk w2 w.heap.size 34 #[.int .i64 0, .string ⟨#[]⟩, .int .i64 0] ∧ Below w.heap.size w w2) := Lib.hid ⟨b0.out.1.below hb2 b0.out.1.lt, b0.out.2.nxt hb2⟩
  clear hb2 b0
  go_wp2_with fail
  refine (HV.out _ B2.out.2).mono ?_
  rintro e w3 ⟨rfl, hb3⟩
  have HR : Hid (Blk w3 w.heap.size 34 #[.int .i64 0, .string ⟨#[]⟩, .int .i64 0] ∧ Below w.heap.size w w3) := Lib.hid ⟨B2.out.1.below hb3 B2.out.1.lt, B2.out.2.nxt hb3⟩
  clear hb3 B2
  simp only
  by_cases hcd : cd = 0
  rotate_left
  · have HZ : Hid (verifyF root (k : Int) nodes = ((0, [], 0), false, cd)) := Lib.hid (by rw [HX.out, if_pos (.inl hcd)])
    have hc1 : ((cd : Int) != 0) = true := by simp; exact hcd
    clear hcd HX
    have r0 : w3.cell? ⟨w.heap.size, 0, none⟩ = some (.int .i64 0) := HR.out.1.cell 0
    have r1 : w3.cell? ⟨w.heap.size, 1, none⟩ = some (.string ⟨#[]⟩) := HR.out.1.cell 1
    have r2 : w3.cell? ⟨w.heap.size, 2, none⟩ = some (.int .i64 0) := HR.out.1.cell 2
    have f0 : w3.frozen? ⟨w.heap.size, 0, none⟩ = false := HR.out.1.frozen 0
    have f1 : w3.frozen? ⟨w.heap.size, 1, none⟩ = false := HR.out.1.frozen 1
    have f2 : w3.frozen? ⟨w.heap.size, 2, none⟩ = false := HR.out.1.frozen 2
    go_wp2
    have HW9 : Hid (Blk (((w3.setCell ⟨w.heap.size, 0, none⟩ (.int .i64 0)).setCell ⟨w.heap.size, 1, none⟩ (.string ⟨#[]⟩)).setCell ⟨w.heap.size, 2, none⟩ (.int .i64 0)) w.heap.size 34 #[.int .i64 0, .string ⟨#[]⟩, .int .i64 0] ∧ Below w.heap.size w (((w3.setCell ⟨w.heap.size, 0, none⟩ (.int .i64 0)).setCell ⟨w.heap.size, 1, none⟩ (.string ⟨#[]⟩)).setCell ⟨w.heap.size, 2, none⟩ (.int .i64 0))) := Lib.hid
      ⟨((HR.out.1.set_ 0 (.int .i64 0)).set_ 1 (.string ⟨#[]⟩)).set_ 2 (.int .i64 0), ((HR.out.2.setCell (p := ⟨w.heap.size, 0, none⟩) (Nat.le_refl _) _).setCell (p := ⟨w.heap.size, 1, none⟩) (Nat.le_refl _) _).setCell (p := ⟨w.heap.size, 2, none⟩) (Nat.le_refl _) _⟩
    generalize ((w3.setCell ⟨w.heap.size, 0, none⟩ (.int .i64 0)).setCell ⟨w.heap.size, 1, none⟩ (.string ⟨#[]⟩)).setCell ⟨w.heap.size, 2, none⟩ (.int .i64 0) = W9 at HW9 ⊢
    have s0 : W9.cell? ⟨w.heap.size, 0, none⟩ = some (.int .i64 0) := HW9.out.1.cell 0
    have s1 : W9.cell? ⟨w.heap.size, 1, none⟩ = some (.string ⟨#[]⟩) := HW9.out.1.cell 1
    have s2 : W9.cell? ⟨w.heap.size, 2, none⟩ = some (.int .i64 0) := HW9.out.1.cell 2
    (try simp only [Exit.inBlock, Exit.then])
    refine bodyPost_ret (v := .tuple #[.agg #[.int .i64 0, .string ⟨#[]⟩, .int .i64 0], .bool false, .int .i64 (cd : Int)]) (by simp [results, Tryz.results14, go_sem, s0, s1, s2]) rfl ?_
    exact HP.out _ _ _ _ HZ.out HW9.out.2
  subst hcd
  cases th with
  | false =>
    have HZ : Hid (verifyF root (k : Int) nodes = ((0, [], 0), false, 0)) := Lib.hid (by rw [HX.out, if_pos (.inr rfl)])
    clear HX
    have r0 : w3.cell? ⟨w.heap.size, 0, none⟩ = some (.int .i64 0) := HR.out.1.cell 0
    have r1 : w3.cell? ⟨w.heap.size, 1, none⟩ = some (.string ⟨#[]⟩) := HR.out.1.cell 1
    have r2 : w3.cell? ⟨w.heap.size, 2, none⟩ = some (.int .i64 0) := HR.out.1.cell 2
    have f0 : w3.frozen? ⟨w.heap.size, 0, none⟩ = false := HR.out.1.frozen 0
    have f1 : w3.frozen? ⟨w.heap.size, 1, none⟩ = false := HR.out.1.frozen 1
    have f2 : w3.frozen? ⟨w.heap.size, 2, none⟩ = false := HR.out.1.frozen 2
    go_wp2
    have HW9 : Hid (Blk (((w3.setCell ⟨w.heap.size, 0, none⟩ (.int .i64 0)).setCell ⟨w.heap.size, 1, none⟩ (.string ⟨#[]⟩)).setCell ⟨w.heap.size, 2, none⟩ (.int .i64 0)) w.heap.size 34 #[.int .i64 0, .string ⟨#[]⟩, .int .i64 0] ∧ Below w.heap.size w (((w3.setCell ⟨w.heap.size, 0, none⟩ (.int .i64 0)).setCell ⟨w.heap.size, 1, none⟩ (.string ⟨#[]⟩)).setCell ⟨w.heap.size, 2, none⟩ (.int .i64 0))) := Lib.hid
      ⟨((HR.out.1.set_ 0 (.int .i64 0)).set_ 1 (.string ⟨#[]⟩)).set_ 2 (.int .i64 0), ((HR.out.2.setCell (p := ⟨w.heap.size, 0, none⟩) (Nat.le_refl _) _).setCell (p := ⟨w.heap.size, 1, none⟩) (Nat.le_refl _) _).setCell (p := ⟨w.heap.size, 2, none⟩) (Nat.le_refl _) _⟩
    generalize ((w3.setCell ⟨w.heap.size, 0, none⟩ (.int .i64 0)).setCell ⟨w.heap.size, 1, none⟩ (.string ⟨#[]⟩)).setCell ⟨w.heap.size, 2, none⟩ (.int .i64 0) = W9 at HW9 ⊢
    have s0 : W9.cell? ⟨w.heap.size, 0, none⟩ = some (.int .i64 0) := HW9.out.1.cell 0
    have s1 : W9.cell? ⟨w.heap.size, 1, none⟩ = some (.string ⟨#[]⟩) := HW9.out.1.cell 1
    have s2 : W9.cell? ⟨w.heap.size, 2, none⟩ = some (.int .i64 0) := HW9.out.1.cell 2
    (try simp only [Exit.inBlock, Exit.then])
    refine bodyPost_ret (v := .tuple #[.agg #[.int .i64 0, .string ⟨#[]⟩, .int .i64 0], .bool false, .int .i64 0]) (by simp [results, Tryz.results14, go_sem, s0, s1, s2]) rfl ?_
    exact HP.out _ _ _ _ HZ.out HW9.out.2
  | true =>
  go_wp2_with fail
  refine (HDc.out _).mono ?_
  rintro e w4 ⟨rfl, hb4⟩
  have HR4 : Hid (Blk w4 w.heap.size 34 #[.int .i64 0, .string ⟨#[]⟩, .int .i64 0] ∧ Below w.heap.size w w4) := Lib.hid ⟨HR.out.1.below hb4 HR.out.1.lt, HR.out.2.nxt hb4⟩
  clear hb4 HR
  unfold rcV
  simp only
  have f0 : w4.frozen? ⟨w.heap.size, 0, none⟩ = false := HR4.out.1.frozen 0
  have f1 : w4.frozen? ⟨w.heap.size, 1, none⟩ = false := HR4.out.1.frozen 1
  have f2 : w4.frozen? ⟨w.heap.size, 2, none⟩ = false := HR4.out.1.frozen 2
  have r0 : w4.cell? ⟨w.heap.size, 0, none⟩ = some (.int .i64 0) := HR4.out.1.cell 0
  have r1 : w4.cell? ⟨w.heap.size, 1, none⟩ = some (.string ⟨#[]⟩) := HR4.out.1.cell 1
  have r2 : w4.cell? ⟨w.heap.size, 2, none⟩ = some (.int .i64 0) := HR4.out.1.cell 2
  go_upto_region 7 with fail
  have HR : Hid (Blk (((w4.setCell ⟨w.heap.size, 0, none⟩ (.int .i64 (n : Int))).setCell ⟨w.heap.size, 1, none⟩ (.string ⟨t.toArray⟩)).setCell ⟨w.heap.size, 2, none⟩ (.int .i64 (q : Int))) w.heap.size 34 #[.int .i64 (n : Int), .string ⟨t.toArray⟩, .int .i64 (q : Int)] ∧ Below w.heap.size w (((w4.setCell ⟨w.heap.size, 0, none⟩ (.int .i64 (n : Int))).setCell ⟨w.heap.size, 1, none⟩ (.string ⟨t.toArray⟩)).setCell ⟨w.heap.size, 2, none⟩ (.int .i64 (q : Int)))) := Lib.hid
    ⟨((HR4.out.1.set_ 0 (.int .i64 (n : Int))).set_ 1 (.string ⟨t.toArray⟩)).set_ 2 (.int .i64 (q : Int)), ((HR4.out.2.setCell (p := ⟨w.heap.size, 0, none⟩) (Nat.le_refl _) _).setCell (p := ⟨w.heap.size, 1, none⟩) (Nat.le_refl _) _).setCell (p := ⟨w.heap.size, 2, none⟩) (Nat.le_refl _) _⟩
  generalize ((w4.setCell ⟨w.heap.size, 0, none⟩ (.int .i64 (n : Int))).setCell ⟨w.heap.size, 1, none⟩ (.string ⟨t.toArray⟩)).setCell ⟨w.heap.size, 2, none⟩ (.int .i64 (q : Int)) = W7 at HR ⊢
  clear f0 f1 f2 r0 r1 r2 HR4
  by_cases hdc : dc = 0
  rotate_left
  · have HZ : Hid (verifyF root (k : Int) nodes = ((0, [], 0), false, dc)) := Lib.hid (by rw [HX.out, if_neg (by simp), if_pos hdc])
    have hc1 : ((dc : Int) != 0) = true := by simp; exact hdc
    clear hdc HX
    have r0 : W7.cell? ⟨w.heap.size, 0, none⟩ = some (.int .i64 (n : Int)) := HR.out.1.cell 0
    have r1 : W7.cell? ⟨w.heap.size, 1, none⟩ = some (.string ⟨t.toArray⟩) := HR.out.1.cell 1
    have r2 : W7.cell? ⟨w.heap.size, 2, none⟩ = some (.int .i64 (q : Int)) := HR.out.1.cell 2
    have f0 : W7.frozen? ⟨w.heap.size, 0, none⟩ = false := HR.out.1.frozen 0
    have f1 : W7.frozen? ⟨w.heap.size, 1, none⟩ = false := HR.out.1.frozen 1
    have f2 : W7.frozen? ⟨w.heap.size, 2, none⟩ = false := HR.out.1.frozen 2
    go_wp2
    have HW9 : Hid (Blk (((W7.setCell ⟨w.heap.size, 0, none⟩ (.int .i64 0)).setCell ⟨w.heap.size, 1, none⟩ (.string ⟨#[]⟩)).setCell ⟨w.heap.size, 2, none⟩ (.int .i64 0)) w.heap.size 34 #[.int .i64 0, .string ⟨#[]⟩, .int .i64 0] ∧ Below w.heap.size w (((W7.setCell ⟨w.heap.size, 0, none⟩ (.int .i64 0)).setCell ⟨w.heap.size, 1, none⟩ (.string ⟨#[]⟩)).setCell ⟨w.heap.size, 2, none⟩ (.int .i64 0))) := Lib.hid
      ⟨((HR.out.1.set_ 0 (.int .i64 0)).set_ 1 (.string ⟨#[]⟩)).set_ 2 (.int .i64 0), ((HR.out.2.setCell (p := ⟨w.heap.size, 0, none⟩) (Nat.le_refl _) _).setCell (p := ⟨w.heap.size, 1, none⟩) (Nat.le_refl _) _).setCell (p := ⟨w.heap.size, 2, none⟩) (Nat.le_refl _) _⟩
    generalize ((W7.setCell ⟨w.heap.size, 0, none⟩ (.int .i64 0)).setCell ⟨w.heap.size, 1, none⟩ (.string ⟨#[]⟩)).setCell ⟨w.heap.size, 2, none⟩ (.int .i64 0) = W9 at HW9 ⊢
    have s0 : W9.cell? ⟨w.heap.size, 0, none⟩ = some (.int .i64 0) := HW9.out.1.cell 0
    have s1 : W9.cell? ⟨w.heap.size, 1, none⟩ = some (.string ⟨#[]⟩) := HW9.out.1.cell 1
    have s2 : W9.cell? ⟨w.heap.size, 2, none⟩ = some (.int .i64 0) := HW9.out.1.cell 2
    (try simp only [Exit.inBlock, Exit.then])
    refine bodyPost_ret (v := .tuple #[.agg #[.int .i64 0, .string ⟨#[]⟩, .int .i64 0], .bool false, .int .i64 (dc : Int)]) (by simp [results, Tryz.results14, go_sem, s0, s1, s2]) rfl ?_
    exact HP.out _ _ _ _ HZ.out HW9.out.2
  subst hdc
  have HZ : Hid (verifyF root (k : Int) nodes = ((n, t, q), true, 0)) := Lib.hid (by rw [HX.out, if_neg (by simp), if_neg (by simp)])
  clear HX
  have r0 : W7.cell? ⟨w.heap.size, 0, none⟩ = some (.int .i64 (n : Int)) := HR.out.1.cell 0
  have r1 : W7.cell? ⟨w.heap.size, 1, none⟩ = some (.string ⟨t.toArray⟩) := HR.out.1.cell 1
  have r2 : W7.cell? ⟨w.heap.size, 2, none⟩ = some (.int .i64 (q : Int)) := HR.out.1.cell 2
  have f0 : W7.frozen? ⟨w.heap.size, 0, none⟩ = false := HR.out.1.frozen 0
  have f1 : W7.frozen? ⟨w.heap.size, 1, none⟩ = false := HR.out.1.frozen 1
  have f2 : W7.frozen? ⟨w.heap.size, 2, none⟩ = false := HR.out.1.frozen 2
  go_wp2
  have HW9 : Hid (Blk (((W7.setCell ⟨w.heap.size, 0, none⟩ (.int .i64 (n : Int))).setCell ⟨w.heap.size, 1, none⟩ (.string ⟨t.toArray⟩)).setCell ⟨w.heap.size, 2, none⟩ (.int .i64 (q : Int))) w.heap.size 34 #[.int .i64 (n : Int), .string ⟨t.toArray⟩, .int .i64 (q : Int)] ∧ Below w.heap.size w (((W7.setCell ⟨w.heap.size, 0, none⟩ (.int .i64 (n : Int))).setCell ⟨w.heap.size, 1, none⟩ (.string ⟨t.toArray⟩)).setCell ⟨w.heap.size, 2, none⟩ (.int .i64 (q : Int)))) := Lib.hid
    ⟨((HR.out.1.set_ 0 (.int .i64 (n : Int))).set_ 1 (.string ⟨t.toArray⟩)).set_ 2 (.int .i64 (q : Int)), ((HR.out.2.setCell (p := ⟨w.heap.size, 0, none⟩) (Nat.le_refl _) _).setCell (p := ⟨w.heap.size, 1, none⟩) (Nat.le_refl _) _).setCell (p := ⟨w.heap.size, 2, none⟩) (Nat.le_refl _) _⟩
  generalize ((W7.setCell ⟨w.heap.size, 0, none⟩ (.int .i64 (n : Int))).setCell ⟨w.heap.size, 1, none⟩ (.string ⟨t.toArray⟩)).setCell ⟨w.heap.size, 2, none⟩ (.int .i64 (q : Int)) = W9 at HW9 ⊢
  have s0 : W9.cell? ⟨w.heap.size, 0, none⟩ = some (.int .i64 (n : Int)) := HW9.out.1.cell 0
  have s1 : W9.cell? ⟨w.heap.size, 1, none⟩ = some (.string ⟨t.toArray⟩) := HW9.out.1.cell 1
  have s2 : W9.cell? ⟨w.heap.size, 2, none⟩ = some (.int .i64 (q : Int)) := HW9.out.1.cell 2
  (try simp only [Exit.inBlock, Exit.then])
  refine bodyPost_ret (v := .tuple #[.agg #[.int .i64 (n : Int), .string ⟨t.toArray⟩, .int .i64 (q : Int)], .bool true, .int .i64 0]) (by simp [results, Tryz.results14, go_sem, s0, s1, s2]) rfl ?_
  exact HP.out _ _ _ _ HZ.out HW9.out.2
end Go.Proofs.YtcjafcbekegmlaaGreatDoor

namespace Go.Proofs.YtcjafcbekegmlaaGreatDoor
set_option linter.unusedVariables false
namespace Trie
theorem byte_ne {a b : Nat} (ha : a < 256) (hb : b < 256) (h : a ≠ b) : Nib.of [UInt8.ofNat a] ≠ Nib.of [UInt8.ofNat b] := fun e => by
  have := Nib.of_inj e
  injection this with this _
  have := congrArg UInt8.toNat this
  simp at this
  omega
theorem keyed_one (b : UInt8) : keyedW [b] = true := by simp [keyedW]
theorem treeW_look : ∀ (l : List (Int × List UInt8 × Int)) (t : T) (k : Nat), Good t → k + l.length ≤ 256 → (treeW t k l).2 = 0 →
    Good (treeW t k l).1 ∧ (∀ x ∈ l, rcOk x.1 x.2.1 x.2.2) ∧ (∀ i (hi : i < l.length), look (treeW t k l).1 (Nib.of [UInt8.ofNat (k + i)]) = (encW l[i].1 l[i].2.1 l[i].2.2).1) ∧
    ∀ r, Nib.fit r = true → (∀ i, i < l.length → r ≠ Nib.of [UInt8.ofNat (k + i)]) → look (treeW t k l).1 r = look t r
  | [], t, k, hg, _, _ => ⟨hg, (fun x hx => by cases hx), (fun i hi => absurd hi (Nat.not_lt_zero i)), fun r _ _ => rfl⟩
  | x :: l, t, k, hg, hk, h => by
    rw [List.length_cons] at hk
    rw [treeW] at h ⊢
    by_cases hx : rcOk x.1 x.2.1 x.2.2
    rotate_left
    · rw [if_neg hx] at h; cases h
    rw [if_pos hx] at h ⊢
    have hen := encW_len hx
    have hg1 := hg.put (keyed_one (UInt8.ofNat k)) hen.1 hen.2
    have hps := (put_spec t (Nib.of [UInt8.ofNat k]) (encW x.1 x.2.1 x.2.2).1 hg.wf (Nib.fit_of _) hen.1).2.1
    obtain ⟨a1, a2, a3, a4⟩ := treeW_look l (put t (Nib.of [UInt8.ofNat k]) (encW x.1 x.2.1 x.2.2).1) (k + 1) hg1 (by omega) h
    refine ⟨a1, fun y hy => ?_, fun i hi => ?_, fun r hr hne => ?_⟩
    · rcases List.mem_cons.1 hy with rfl | hy
      · exact hx
      · exact a2 y hy
    · cases i with
      | zero =>
        rw [Nat.add_zero, a4 _ (Nib.fit_of _) (fun i hi => byte_ne (by omega) (by omega) (by omega)), hps _ (Nib.fit_of _), Nat.add_zero, if_pos rfl]
        rfl
      | succ i =>
        have := a3 i (by simpa using hi)
        rw [show k + 1 + i = k + (i + 1) by omega] at this
        rw [this]
        rfl
    · rw [a4 r hr (fun i hi => by
        have := hne (i + 1) (by rw [List.length_cons]; omega)
        rwa [show k + (i + 1) = k + 1 + i by omega] at this), hps r hr, if_neg]
      have := hne 0 (by rw [List.length_cons]; omega)
      rwa [Nat.add_zero] at this
theorem treeF_look {l : List (Int × List UInt8 × Int)} (h : (treeF l).2 = 0) : l.length ≤ 8 ∧ Good (treeF l).1 ∧ (∀ x ∈ l, rcOk x.1 x.2.1 x.2.2) ∧ (∀ i (hi : i < l.length), look (treeF l).1 (Nib.of [UInt8.ofNat i]) = (encW l[i].1 l[i].2.1 l[i].2.2).1) ∧
    ∀ r, Nib.fit r = true → (∀ i, i < l.length → r ≠ Nib.of [UInt8.ofNat i]) → look (treeF l).1 r = [] := by
  unfold treeF at h ⊢
  split at h
  · cases h
  · rename_i hl
    rw [if_neg hl]
    have := treeW_look l .nil 0 Good.nil (by omega) h
    simp only [Nat.zero_add] at this
    exact ⟨by omega, this⟩
theorem treeF_good (l : List (Int × List UInt8 × Int)) : Good (treeF l).1 := by
  by_cases h : (treeF l).2 = 0
  · exact (treeF_look h).2.1
  · have : ∀ (l : List (Int × List UInt8 × Int)) t k, (treeW t k l).2 ≠ 0 → (treeW t k l).1 = .nil := by
      intro l
      induction l with
      | nil => intro t k h; exact absurd rfl h
      | cons x l ih =>
        intro t k h
        rw [treeW] at h ⊢
        split
        · rename_i hx
          rw [if_pos hx] at h
          exact ih _ _ h
        · rfl
    have e : (treeF l).1 = .nil := by
      unfold treeF at h ⊢
      split
      · rfl
      · rename_i hl
        rw [if_neg hl] at h
        exact this _ _ _ h
    rw [e]
    exact Good.nil
theorem shown_at {l : List (Int × List UInt8 × Int)} (h : (treeF l).2 = 0) (k : Nat) (hk : k < 256) : (proveF l (k : Int)).2 = 0 ∧ (proveF l (k : Int)).1.length ≤ 17 ∧
    verifyF (sumT (treeF l).1) (k : Int) (proveF l (k : Int)).1 = (if hi : k < l.length then ((l[k].1.toNat, l[k].2.1, l[k].2.2.toNat), true, 0) else ((0, [], 0), false, 0)) := by
  obtain ⟨h8, hg, hok, hat, hno⟩ := treeF_look h
  have hp : proveF l (k : Int) = (toldW (trailW (Nib.of [UInt8.ofNat k])) (treeF l).1, 0) := by
    unfold proveF
    rw [if_neg (by simp [h]), if_neg (by omega), Int.toNat_natCast, proveW, if_pos (keyed_one _)]
  have hv := verify_whole hg (keyed_one (UInt8.ofNat k))
  refine ⟨by rw [hp], ?_, ?_⟩
  · rw [hp]
    simp only
    rw [told_trail hg.wf (Nib.fit_of _), List.length_map]
    have : ∀ (t : T) q, wf t → (trailT t q).length ≤ q.length + 1 := by
      intro t
      induction t with
      | nil => intro q _; exact Nat.zero_le _
      | leaf p v => intro q _; simp [trailT]
      | ext p t ih =>
        intro q hw
        simp only [trailT, List.length_cons]
        split
        · rename_i hc
          have h1 := ih (q.drop p.length) hw.2.2.2
          have h2 : 0 < p.length := List.length_pos_iff.2 hw.2.1
          have h3 := (Nib.common_le p q).2
          rw [List.length_drop] at h1
          omega
        · simp
      | branch v kids ih =>
        intro q hw
        cases q with
        | nil => simp [trailT]
        | cons b r =>
          have := ih (ix b) r (hw.1 _)
          simp only [trailT, List.length_cons]
          omega
    have h1 := this (treeF l).1 (Nib.of [UInt8.ofNat k]) hg.wf
    rw [Nib.of_length] at h1
    simp at h1
    omega
  · rw [hp]
    unfold verifyF
    rw [if_neg (by omega), Int.toNat_natCast, hv]
    simp only
    by_cases hi : k < l.length
    · rw [dif_pos hi, hat k hi]
      have hx := hok _ (List.getElem_mem hi)
      rw [if_neg (by simp [(encW_len hx).1]), decW_encW hx, if_neg (by simp)]
    · rw [dif_neg hi, hno _ (Nib.fit_of _) (fun i hi2 => byte_ne hk (by omega) (by omega))]
      rfl
end Trie
end Go.Proofs.YtcjafcbekegmlaaGreatDoor

namespace Go.Proofs.YtcjafcbekegmlaaGreatDoor
set_option linter.unusedVariables false
namespace Trie
theorem mem_itemsW {t : T} (h : Good t) (k v : List UInt8) : (k, v) ∈ itemsW t ↔ look t (Nib.of k) = v ∧ v ≠ [] := by
  rw [itemsW, List.mem_map]
  constructor
  · rintro ⟨x, hx, e⟩
    obtain ⟨q, hq, rfl, hn⟩ := (mem_items t [] x h.wf).1 hx
    injection e with e1 e2
    subst e1
    simp only [List.nil_append] at e2 ⊢
    rw [Nib.of_joined q hq (h.even q hq hn).1, ← e2]
    exact ⟨rfl, hn⟩
  · rintro ⟨e, hn⟩
    subst e
    exact ⟨(Nib.of k, look t (Nib.of k)), (mem_items t [] _ h.wf).2 ⟨Nib.of k, Nib.fit_of k, rfl, hn⟩, by simp [Nib.joined_of]⟩
end Trie
end Go.Proofs.YtcjafcbekegmlaaGreatDoor

namespace Go.Proofs.YtcjafcbekegmlaaGreatDoor
set_option linter.unusedVariables false
namespace Trie
abbrev KV := List UInt8 × List UInt8
def rises (l : List KV) : Prop := l.Pairwise fun x y => Op.bytesLess x.1 y.1 = true
theorem rises_itemsW {t : T} (h : Good t) : rises (itemsW t) := by
  rw [rises, itemsW, List.pairwise_map]
  refine (sorted_items t [] h.wf).imp_of_mem ?_
  intro x y hx hy hlt
  obtain ⟨q, hq, rfl, hqn⟩ := (mem_items t [] x h.wf).1 hx
  obtain ⟨r, hr, rfl, hrn⟩ := (mem_items t [] y h.wf).1 hy
  simp only [List.nil_append] at hlt ⊢
  rw [← Nib.blt_of, Nib.of_joined q hq (h.even q hq hqn).1, Nib.of_joined r hr (h.even r hr hrn).1]
  exact hlt
theorem rises_ext : ∀ (a b : List KV), rises a → rises b → (∀ x, x ∈ a ↔ x ∈ b) → a = b
  | [], [], _, _, _ => rfl
  | [], y :: b, _, _, h => by have := (h y).2 (by simp); simp at this
  | x :: a, [], _, _, h => by have := (h x).1 (by simp); simp at this
  | x :: a, y :: b, ha, hb, h => by
    obtain ⟨ha1, ha2⟩ := List.pairwise_cons.1 ha
    obtain ⟨hb1, hb2⟩ := List.pairwise_cons.1 hb
    have hxy : x = y := by
      rcases List.mem_cons.1 ((h x).1 (by simp)) with e | hx
      · exact e
      rcases List.mem_cons.1 ((h y).2 (by simp)) with e | hy
      · exact e.symm
      have h1 := bl_trans _ _ _ (hb1 x hx) (ha1 y hy)
      rw [Nib.blt_irrefl] at h1; cases h1
    subst hxy
    congr 1
    refine rises_ext a b ha2 hb2 fun z => ⟨fun hz => ?_, fun hz => ?_⟩
    · rcases List.mem_cons.1 ((h z).1 (by simp [hz])) with e | hz2
      · subst e; have h1 := ha1 z hz; rw [Nib.blt_irrefl] at h1; cases h1
      · exact hz2
    · rcases List.mem_cons.1 ((h z).2 (by simp [hz])) with e | hz2
      · subst e; have h1 := hb1 z hz; rw [Nib.blt_irrefl] at h1; cases h1
      · exact hz2
end Trie
end Go.Proofs.YtcjafcbekegmlaaGreatDoor
