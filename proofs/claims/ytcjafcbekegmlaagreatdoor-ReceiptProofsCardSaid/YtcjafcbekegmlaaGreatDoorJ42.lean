import Derived.Test.YtcjafcbekegmlaaGreatDoorJ41
import Derived.Test.YtcjafcbekegmlaaGreatDoorJ26
import Derived.Test.YtcjafcbekegmlaaGreatDoorJ29
import Derived.Test.YtcjafcbekegmlaaGreatDoorJ27
set_option linter.unusedSimpArgs false
set_option linter.unusedVariables false
namespace Go.Proofs.YtcjafcbekegmlaaGreatDoor
set_option linter.unusedVariables false
open Go.RowKit Go.Instr
attribute [local go_sem] ba_get ByteArray.mk_append_mk
attribute [local go_sem ↓] Go.wp_at_zero Go.wp_at_succ
theorem itemsF_cases (l : List (Int × List UInt8 × Int)) : ((treeF l).2 = 0 ∧ Trie.itemsF l = (Trie.itemsW (treeF l).1, 0)) ∨ ((treeF l).2 ≠ 0 ∧ Trie.itemsF l = ([], (treeF l).2)) := by
  unfold Trie.itemsF
  by_cases h : (treeF l).2 = 0
  · exact .inl ⟨h, by rw [if_pos h, Trie.itemsF_eq h]⟩
  · exact .inr ⟨h, by rw [if_neg h]⟩
set_option maxRecDepth 100000 in
set_option maxHeartbeats 1000000 in
theorem ref17_Root (l : List (Int × List UInt8 × Int)) (hs : ∀ x ∈ l, x.2.1.length ≤ 9223372036854775807) (w : World) (A : Option Addr) (c : Nat) (HR : Reads w w.heap.size 3 A l.length (rcells l)) :
    Calls Tryz.prog 10 #[.slice A l.length c] w (RRootEnd w (treeF l)) := by
  have HIt := Lib.hid (ref17_Items l hs w A c HR)
  have hg := Trie.treeF_good l
  have hcn := treeF_count l
  have hcs := itemsF_cases l
  generalize Trie.itemsF l = q at *
  obtain ⟨q, qc⟩ := q
  generalize treeF l = r at *
  obtain ⟨t, cd⟩ := r
  simp only at hcs hg hcn
  clear HR hs
  rcases hcs with ⟨hc, he⟩ | ⟨hc, he⟩
  · injection he with he1 he2
    subst hc he1 he2
    have HP : Hid (∀ w', Below w.heap.size w w' → RRootEnd w (t, 0) (.returned (.tuple #[.string ⟨(Trie.sumT t).toArray⟩, .int .i64 0])) w') := Lib.hid (fun w' hb => ⟨rfl, hb⟩)
    generalize RRootEnd w (t, 0) = P at HP ⊢
    go_enter Tryz.func10, Tryz.ntmps10
    go_wp2_with fail
    refine HIt.out.mono ?_
    rintro e w1 ⟨A1, n1, c1, rfl, hn1, own1, hb1⟩
    simp only at hn1 own1
    have HB := Lib.hid hb1
    have HRt := Lib.hid (ref10_Root w1 t hg (by omega) A1 c1 (by rw [← hn1]; exact Reads.of_own own1))
    rw [← hn1] at HRt
    clear own1 hb1 hn1
    go_wp2_with fail
    refine HRt.out.mono ?_
    rintro e w2 ⟨rfl, hb2⟩
    have HB2 := Lib.hid (HB.out.nxt hb2)
    clear hb2
    go_wp2_with fail
    exact HP.out _ HB2.out
  · injection he with he1 he2
    subst he1 he2
    have HP : Hid (∀ w', Below w.heap.size w w' → RRootEnd w (t, qc) (.returned (.tuple #[.string ⟨#[]⟩, .int .i64 (qc : Int)])) w') := Lib.hid (fun w' hb => ⟨by simp [hc], hb⟩)
    generalize RRootEnd w (t, qc) = P at HP ⊢
    have hc1 : ((qc : Int) != 0) = true := by simp; exact hc
    clear hc
    go_enter Tryz.func10, Tryz.ntmps10
    go_wp2_with fail
    refine HIt.out.mono ?_
    rintro e w1 ⟨A1, n1, c1, rfl, hn1, own1, hb1⟩
    obtain rfl : n1 = 0 := hn1
    have HB := Lib.hid hb1
    clear own1 hb1
    go_wp2_with fail
    exact HP.out _ HB.out
theorem Trie.itemsW_len (t : Trie.T) : (Trie.itemsW t).length = Trie.count t := by rw [Trie.itemsW, List.length_map, Trie.length_items]
theorem Trie.goT_nn (may : List UInt8 → Bool) (t : Trie.T) : ∀ pl, ∀ x ∈ Trie.goT may t pl, x.2 ≠ .nil := by
  induction t with
  | nil => intro pl x hx; cases hx
  | leaf p v =>
    intro pl x hx
    simp only [Trie.goT] at hx
    split at hx
    · rw [List.mem_singleton] at hx; subst hx; simp
    · cases hx
  | ext p t ih =>
    intro pl x hx
    simp only [Trie.goT] at hx
    split at hx
    · rcases List.mem_cons.1 hx with rfl | hx
      · simp
      · exact ih _ x hx
    · cases hx
  | branch v kids ih =>
    intro pl x hx
    simp only [Trie.goT] at hx
    split at hx
    · rcases List.mem_cons.1 hx with rfl | hx
      · simp
      · obtain ⟨i, _, hx⟩ := List.mem_flatMap.1 hx
        exact ih i _ x hx
    · cases hx
theorem Trie.goT_at' (may : List UInt8 → Bool) (t : Trie.T) : ∀ pl, Trie.At pl t → ∀ x ∈ Trie.goT may t pl, Trie.At x.1 x.2 := by
  induction t with
  | nil => intro pl _ x hx; cases hx
  | leaf p v =>
    intro pl ha x hx
    simp only [Trie.goT] at hx
    split at hx
    · rw [List.mem_singleton] at hx; subst hx; exact ha
    · cases hx
  | ext p t ih =>
    intro pl ha x hx
    simp only [Trie.goT] at hx
    split at hx
    · rcases List.mem_cons.1 hx with rfl | hx
      · exact ha
      · exact ih _ ha.below x hx
    · cases hx
  | branch v kids ih =>
    intro pl ha x hx
    simp only [Trie.goT] at hx
    split at hx
    · rcases List.mem_cons.1 hx with rfl | hx
      · exact ha
      · obtain ⟨i, _, hx⟩ := List.mem_flatMap.1 hx
        exact ih i _ (ha.kid i) x hx
    · cases hx
theorem goT_all_len {t : Trie.T} (h : Trie.Good t) (hc : Trie.count t ≤ 8) : (Trie.goT allW t []).length ≤ 100000 ∧ ∀ x ∈ Trie.goT allW t [], x.1.length ≤ 1000 := by
  refine ⟨Trie.goT_short h.wf (by omega) _ _, fun x hx => ?_⟩
  have := (Trie.goT_at' allW t [] (Trie.At.top h) x hx)
  have := this.len (Trie.goT_nn allW t [] x hx)
  omega
set_option maxRecDepth 100000 in
set_option maxHeartbeats 1000000 in
theorem ref17_Prove (l : List (Int × List UInt8 × Int)) (hs : ∀ x ∈ l, x.2.1.length ≤ 9223372036854775807) (at_ : Int) (w : World) (A : Option Addr) (c : Nat) (HR : Reads w w.heap.size 3 A l.length (rcells l)) :
    Calls Tryz.prog 12 #[.slice A l.length c, .int .i64 at_] w (TextsCEnd w (proveF l at_)) := by
  have HIt := Lib.hid (ref17_Items l hs w A c HR)
  have hg := Trie.treeF_good l
  have hcn := treeF_count l
  have hcs := itemsF_cases l
  have HX : Hid (proveF l at_ = if (treeF l).2 ≠ 0 then ([], (treeF l).2) else if at_ < 0 ∨ 255 < at_ then ([], 1) else proveW (treeF l).1 [UInt8.ofNat at_.toNat]) := Lib.hid rfl
  have HP : Hid (∀ q (cd : Nat), proveF l at_ = (q, cd) → ∀ A n c w', n = q.length → w'.ownsRow w.heap.size 9 1 (.slice A n c) n (strv q) → Below w.heap.size w w' → TextsCEnd w (proveF l at_) (.returned (.tuple #[.slice A n c, .int .i64 (cd : Int)])) w') := Lib.hid (fun q cd e A n c w' h1 h2 h3 => by rw [e]; exact ⟨A, n, c, rfl, h1, h2, h3⟩)
  generalize TextsCEnd w (proveF l at_) = P at HP ⊢
  generalize Trie.itemsF l = q at *
  obtain ⟨q, qc⟩ := q
  generalize treeF l = r at *
  obtain ⟨t, cd⟩ := r
  simp only at hcs hg hcn HX
  clear HR hs
  rcases hcs with ⟨hc, he⟩ | ⟨hc, he⟩
  rotate_left
  · injection he with he1 he2
    subst he1 he2
    have HE : Hid (proveF l at_ = ([], qc)) := Lib.hid (by rw [HX.out, if_pos hc])
    have hc1 : ((qc : Int) != 0) = true := by simp; exact hc
    clear hc HX
    go_enter Tryz.func12, Tryz.ntmps12
    go_wp2_with fail
    refine HIt.out.mono ?_
    rintro e w1 ⟨A1, n1, c1, rfl, hn1, own1, hb1⟩
    obtain rfl : n1 = 0 := hn1
    have HB := Lib.hid hb1
    clear own1 hb1
    go_wp2_with fail
    exact HP.out [] qc HE.out none 0 0 w1 rfl (World.ownsRow_nil _ _ _ _) HB.out
  injection he with he1 he2
  subst hc he1 he2
  by_cases hat : at_ < 0 ∨ 255 < at_
  · have HE : Hid (proveF l at_ = ([], 1)) := Lib.hid (by rw [HX.out, if_neg (by simp), if_pos hat])
    clear HX
    rcases hat with h | h
    · have g1 : (at_ < 0) = True := by simp [h]
      clear h
      go_enter Tryz.func12, Tryz.ntmps12
      go_wp2_with fail
      refine HIt.out.mono ?_
      rintro e w1 ⟨A1, n1, c1, rfl, hn1, own1, hb1⟩
      have HB := Lib.hid hb1
      clear own1 hb1 hn1
      go_wp2_with fail
      exact HP.out [] 1 HE.out none 0 0 w1 rfl (World.ownsRow_nil _ _ _ _) HB.out
    · have g1 : (at_ < 0) = False := by simp; omega
      have g2 : (255 < at_) = True := by simp [h]
      clear h
      go_enter Tryz.func12, Tryz.ntmps12
      go_wp2_with fail
      refine HIt.out.mono ?_
      rintro e w1 ⟨A1, n1, c1, rfl, hn1, own1, hb1⟩
      have HB := Lib.hid hb1
      clear own1 hb1 hn1
      go_wp2_with fail
      exact HP.out [] 1 HE.out none 0 0 w1 rfl (World.ownsRow_nil _ _ _ _) HB.out
  · have g1 : (at_ < 0) = False := by simp; omega
    have g2 : (255 < at_) = False := by simp; omega
    have HE : Hid (proveF l at_ = proveW t [UInt8.ofNat at_.toNat]) := Lib.hid (by rw [HX.out, if_neg (by simp), if_neg hat])
    obtain ⟨k, rfl⟩ := Int.eq_ofNat_of_zero_le (show 0 ≤ at_ by omega)
    simp only [Int.toNat_natCast] at HE
    have b0 : (0 : Int) ≤ (k : Int) := by omega
    have b1 : (k : Int) < 256 := by omega
    have e1 : IntKind.u8.wrap (k : Int) = k := IntWalk.u8_in _ (by omega)
    clear HX hat
    go_enter Tryz.func12, Tryz.ntmps12
    go_wp2_with fail
    refine HIt.out.mono ?_
    rintro e w1 ⟨A1, n1, c1, rfl, hn1, own1, hb1⟩
    simp only at hn1 own1
    have HB := Lib.hid hb1
    have cd := conv1 w1 (k : Int) b0 b1
    rw [Int.toNat_natCast] at cd
    have hb2 : Below w1.heap.size w1 (w1.alloc (.cells #[.int .u8 (k : Int)] 5)) := (Below.refl _ _).alloc (Nat.le_refl _) _
    have HB2 := Lib.hid (HB.out.nxt hb2)
    have hD := goT_all_len hg hcn
    have HPr := Lib.hid (ref13_Prove (w1.alloc (.cells #[.int .u8 (k : Int)] 5)) t hg (by omega) hD A1 c1 n1 (by rw [hn1, Trie.itemsW_len]) ((Reads.of_own (own_below own1 hb2))) [UInt8.ofNat k] (by simp))
    obtain ⟨q, qc, hq⟩ : ∃ q qc, proveW t [UInt8.ofNat k] = (q, qc) := ⟨_, _, rfl⟩
    rw [hq] at HPr HE
    clear hb1 hq hn1 own1 hb2 hD
    go_wp2_with fail
    refine HPr.out.mono ?_
    rintro e w3 ⟨A3, n3, c3, rfl, hn3, own3, hb3⟩
    have HO := Lib.hid (And.intro hn3 (own_lower own3 HB2.out.size))
    have HB3 := Lib.hid (HB2.out.nxt hb3)
    clear own3 hb3 hn3
    go_wp2_with fail
    exact HP.out q qc HE.out A3 n3 c3 w3 HO.out.1 HO.out.2 HB3.out
end Go.Proofs.YtcjafcbekegmlaaGreatDoor

namespace Go.Proofs.YtcjafcbekegmlaaGreatDoor
set_option linter.unusedVariables false
open Go.RowKit Go.Instr
attribute [local go_sem] ba_get ByteArray.mk_append_mk
attribute [local go_sem ↓] Go.wp_at_zero Go.wp_at_succ
set_option maxRecDepth 100000 in
set_option maxHeartbeats 4000000 in
theorem ref17_Verify (root : List UInt8) (at_ : Int) (w : World) (nodes : List (List UInt8)) (A : Option Addr) (c : Nat) (HRd : Reads w w.heap.size 1 A nodes.length (strv nodes)) (hc : nodes.length ≤ c) (hn : nodes.length ≤ 100000) (hs : ∀ x ∈ nodes, x.length ≤ 900000) :
    Calls Tryz.prog 15 #[.string ⟨root.toArray⟩, .int .i64 at_, .slice A nodes.length c] w (RVerEnd w (verifyF root at_ nodes)) := by
  have HP : Hid (∀ (x : Nat × List UInt8 × Nat) b (cd : Nat) w', verifyF root at_ nodes = (x, b, cd) → Below w.heap.size w w' → RVerEnd w (verifyF root at_ nodes) (.returned (.tuple #[.agg #[.int .i64 (x.1 : Int), .string ⟨x.2.1.toArray⟩, .int .i64 (x.2.2 : Int)], .bool b, .int .i64 (cd : Int)])) w') := Lib.hid (fun x b cd w' e h => by rw [e]; exact ⟨rfl, h⟩)
  generalize hPd : RVerEnd w (verifyF root at_ nodes) = P at HP ⊢
  clear hPd
  have b0' : Hid (Blk (w.alloc (.cells #[.int .i64 0, .string ⟨#[]⟩, .int .i64 0] 34)) w.heap.size 34 #[.int .i64 0, .string ⟨#[]⟩, .int .i64 0] ∧ Below w.heap.size w (w.alloc (.cells #[.int .i64 0, .string ⟨#[]⟩, .int .i64 0] 34))) := Lib.hid ⟨Blk.new w _ _, by go_grown⟩
  by_cases hat : at_ < 0 ∨ 255 < at_
  · have HZ : Hid (verifyF root at_ nodes = ((0, [], 0), false, 1)) := Lib.hid (by unfold verifyF; rw [if_pos hat])
    clear HRd hn hs hc
    rcases hat with h | h
    · have g1 : (at_ < 0) = True := by simp [h]
      clear h
      go_enter Tryz.func15, Tryz.ntmps15
      go_upto_region 1 with fail
      generalize w.alloc (.cells #[.int .i64 0, .string ⟨#[]⟩, .int .i64 0] 34) = W0 at b0' ⊢
      have HR := b0'
      have r0 : W0.cell? ⟨w.heap.size, 0, none⟩ = some (.int .i64 0) := HR.out.1.cell 0
      have r1 : W0.cell? ⟨w.heap.size, 1, none⟩ = some (.string ⟨#[]⟩) := HR.out.1.cell 1
      have r2 : W0.cell? ⟨w.heap.size, 2, none⟩ = some (.int .i64 0) := HR.out.1.cell 2
      have f0 : W0.frozen? ⟨w.heap.size, 0, none⟩ = false := HR.out.1.frozen 0
      have f1 : W0.frozen? ⟨w.heap.size, 1, none⟩ = false := HR.out.1.frozen 1
      have f2 : W0.frozen? ⟨w.heap.size, 2, none⟩ = false := HR.out.1.frozen 2
      go_wp2
      have HW9 : Hid (Blk (((W0.setCell ⟨w.heap.size, 0, none⟩ (.int .i64 0)).setCell ⟨w.heap.size, 1, none⟩ (.string ⟨#[]⟩)).setCell ⟨w.heap.size, 2, none⟩ (.int .i64 0)) w.heap.size 34 #[.int .i64 0, .string ⟨#[]⟩, .int .i64 0] ∧ Below w.heap.size w (((W0.setCell ⟨w.heap.size, 0, none⟩ (.int .i64 0)).setCell ⟨w.heap.size, 1, none⟩ (.string ⟨#[]⟩)).setCell ⟨w.heap.size, 2, none⟩ (.int .i64 0))) := Lib.hid
        ⟨((HR.out.1.set_ 0 (.int .i64 0)).set_ 1 (.string ⟨#[]⟩)).set_ 2 (.int .i64 0), ((HR.out.2.setCell (p := ⟨w.heap.size, 0, none⟩) (Nat.le_refl _) _).setCell (p := ⟨w.heap.size, 1, none⟩) (Nat.le_refl _) _).setCell (p := ⟨w.heap.size, 2, none⟩) (Nat.le_refl _) _⟩
      generalize ((W0.setCell ⟨w.heap.size, 0, none⟩ (.int .i64 0)).setCell ⟨w.heap.size, 1, none⟩ (.string ⟨#[]⟩)).setCell ⟨w.heap.size, 2, none⟩ (.int .i64 0) = W9 at HW9 ⊢
      have s0 : W9.cell? ⟨w.heap.size, 0, none⟩ = some (.int .i64 0) := HW9.out.1.cell 0
      have s1 : W9.cell? ⟨w.heap.size, 1, none⟩ = some (.string ⟨#[]⟩) := HW9.out.1.cell 1
      have s2 : W9.cell? ⟨w.heap.size, 2, none⟩ = some (.int .i64 0) := HW9.out.1.cell 2
      (try simp only [Exit.inBlock, Exit.then])
      refine bodyPost_ret (v := .tuple #[.agg #[.int .i64 0, .string ⟨#[]⟩, .int .i64 0], .bool false, .int .i64 1]) (by simp [results, Tryz.results15, go_sem, s0, s1, s2]) rfl ?_
      exact HP.out _ _ _ _ HZ.out HW9.out.2
    · have g1 : (at_ < 0) = False := by simp; omega
      have g2 : (255 < at_) = True := by simp [h]
      clear h
      go_enter Tryz.func15, Tryz.ntmps15
      go_upto_region 1 with fail
      generalize w.alloc (.cells #[.int .i64 0, .string ⟨#[]⟩, .int .i64 0] 34) = W0 at b0' ⊢
      have HR := b0'
      have r0 : W0.cell? ⟨w.heap.size, 0, none⟩ = some (.int .i64 0) := HR.out.1.cell 0
      have r1 : W0.cell? ⟨w.heap.size, 1, none⟩ = some (.string ⟨#[]⟩) := HR.out.1.cell 1
      have r2 : W0.cell? ⟨w.heap.size, 2, none⟩ = some (.int .i64 0) := HR.out.1.cell 2
      have f0 : W0.frozen? ⟨w.heap.size, 0, none⟩ = false := HR.out.1.frozen 0
      have f1 : W0.frozen? ⟨w.heap.size, 1, none⟩ = false := HR.out.1.frozen 1
      have f2 : W0.frozen? ⟨w.heap.size, 2, none⟩ = false := HR.out.1.frozen 2
      go_wp2
      have HW9 : Hid (Blk (((W0.setCell ⟨w.heap.size, 0, none⟩ (.int .i64 0)).setCell ⟨w.heap.size, 1, none⟩ (.string ⟨#[]⟩)).setCell ⟨w.heap.size, 2, none⟩ (.int .i64 0)) w.heap.size 34 #[.int .i64 0, .string ⟨#[]⟩, .int .i64 0] ∧ Below w.heap.size w (((W0.setCell ⟨w.heap.size, 0, none⟩ (.int .i64 0)).setCell ⟨w.heap.size, 1, none⟩ (.string ⟨#[]⟩)).setCell ⟨w.heap.size, 2, none⟩ (.int .i64 0))) := Lib.hid
        ⟨((HR.out.1.set_ 0 (.int .i64 0)).set_ 1 (.string ⟨#[]⟩)).set_ 2 (.int .i64 0), ((HR.out.2.setCell (p := ⟨w.heap.size, 0, none⟩) (Nat.le_refl _) _).setCell (p := ⟨w.heap.size, 1, none⟩) (Nat.le_refl _) _).setCell (p := ⟨w.heap.size, 2, none⟩) (Nat.le_refl _) _⟩
      generalize ((W0.setCell ⟨w.heap.size, 0, none⟩ (.int .i64 0)).setCell ⟨w.heap.size, 1, none⟩ (.string ⟨#[]⟩)).setCell ⟨w.heap.size, 2, none⟩ (.int .i64 0) = W9 at HW9 ⊢
      have s0 : W9.cell? ⟨w.heap.size, 0, none⟩ = some (.int .i64 0) := HW9.out.1.cell 0
      have s1 : W9.cell? ⟨w.heap.size, 1, none⟩ = some (.string ⟨#[]⟩) := HW9.out.1.cell 1
      have s2 : W9.cell? ⟨w.heap.size, 2, none⟩ = some (.int .i64 0) := HW9.out.1.cell 2
      (try simp only [Exit.inBlock, Exit.then])
      refine bodyPost_ret (v := .tuple #[.agg #[.int .i64 0, .string ⟨#[]⟩, .int .i64 0], .bool false, .int .i64 1]) (by simp [results, Tryz.results15, go_sem, s0, s1, s2]) rfl ?_
      exact HP.out _ _ _ _ HZ.out HW9.out.2
  have g1 : (at_ < 0) = False := by simp; omega
  have g2 : (255 < at_) = False := by simp; omega
  have HX : Hid (verifyF root at_ nodes = if (verifyW root [UInt8.ofNat at_.toNat] nodes).2.2 ≠ 0 ∨ (verifyW root [UInt8.ofNat at_.toNat] nodes).2.1 = false then ((0, [], 0), false, (verifyW root [UInt8.ofNat at_.toNat] nodes).2.2)
  else if (decW (verifyW root [UInt8.ofNat at_.toNat] nodes).1).2 ≠ 0 then ((0, [], 0), false, (decW (verifyW root [UInt8.ofNat at_.toNat] nodes).1).2)
  else ((decW (verifyW root [UInt8.ofNat at_.toNat] nodes).1).1, true, 0)) := Lib.hid (by rw [verifyF, if_neg hat])
  obtain ⟨k, rfl⟩ := Int.eq_ofNat_of_zero_le (show 0 ≤ at_ by omega)
  simp only [Int.toNat_natCast] at HX
  have b0 : (0 : Int) ≤ (k : Int) := by omega
  have b1 : (k : Int) < 256 := by omega
  have e1 : IntKind.u8.wrap (k : Int) = k := IntWalk.u8_in _ (by omega)
  have HV := Lib.hid (fun W (hW : Below w.heap.size w W) => ref13_Verify W root [UInt8.ofNat k] (by simp) nodes A c hc ((HRd.below hW).more hW.size) hn hs)
  have HSh := verifyW_short root [UInt8.ofNat k] nodes (by simp)
  generalize verifyW root [UInt8.ofNat k] nodes = r at *
  obtain ⟨v, th, cd⟩ := r
  simp only at HSh HX
  have HDc := Lib.hid (fun W => ref17_Decode v (by omega) W)
  have HDz := decW_cases v
  generalize decW v = d at *
  obtain ⟨⟨n, t, q⟩, dc⟩ := d
  simp only at HX
  have HDb : Hid (dc ≠ 0 → n = 0 ∧ t = [] ∧ q = 0) := Lib.hid (fun h => by
    rcases HDz with e | ⟨n', t', q', e, _⟩
    · injection e with e _
      injection e with e1 e2
      injection e2 with e2 e3
      exact ⟨e1, e2, e3⟩
    · injection e with _ e
      exact absurd e h)
  clear HDz
  clear HRd hn hs hc hat HSh
  go_enter Tryz.func15, Tryz.ntmps15
  go_upto_region 1 with fail
  generalize w.alloc (.cells #[.int .i64 0, .string ⟨#[]⟩, .int .i64 0] 34) = W0 at b0' ⊢
  have hb2 : Below W0.heap.size W0 (W0.alloc (.cells #[.int .u8 (k : Int)] 5)) := (Below.refl _ _).alloc (Nat.le_refl _) _
  have cdk := conv1 W0 (k : Int) b0 b1
  rw [Int.toNat_natCast] at cdk
  have B2 : Hid (Blk (W0.alloc (.cells #[.int .u8 (k : Int)] 5)) w.heap.size 34 #[.int .i64 0, .string ⟨#[]⟩, .int .i64 0] ∧ Below w.heap.size w (W0.alloc (.cells #[.int .u8 (k : Int)] 5))) := Lib.hid ⟨b0'.out.1.below hb2 b0'.out.1.lt, b0'.out.2.nxt hb2⟩
  clear hb2 b0'
  go_wp2_with fail
  refine (HV.out _ B2.out.2).mono ?_
  rintro e w3 ⟨rfl, hb3⟩
  have HR : Hid (Blk w3 w.heap.size 34 #[.int .i64 0, .string ⟨#[]⟩, .int .i64 0] ∧ Below w.heap.size w w3) := Lib.hid ⟨B2.out.1.below hb3 B2.out.1.lt, B2.out.2.nxt hb3⟩
  clear hb3 B2
  simp only
  by_cases hcd : cd = 0
  rotate_left
  · have HZ : Hid (verifyF root (k : Int) nodes = ((0, [], 0), false, cd)) := Lib.hid (by rw [HX.out, if_pos (.inl hcd)])
    have hc1 : ((cd : Int) != 0) = true := by simp; exact hcd
    clear hcd HX
    have r0 : w3.cell? ⟨w.heap.size, 0, none⟩ = some (.int .i64 0) := HR.out.1.cell 0
    have r1 : w3.cell? ⟨w.heap.size, 1, none⟩ = some (.string ⟨#[]⟩) := HR.out.1.cell 1
    have r2 : w3.cell? ⟨w.heap.size, 2, none⟩ = some (.int .i64 0) := HR.out.1.cell 2
    have f0 : w3.frozen? ⟨w.heap.size, 0, none⟩ = false := HR.out.1.frozen 0
    have f1 : w3.frozen? ⟨w.heap.size, 1, none⟩ = false := HR.out.1.frozen 1
    have f2 : w3.frozen? ⟨w.heap.size, 2, none⟩ = false := HR.out.1.frozen 2
    go_wp2
    have HW9 : Hid (Blk (((w3.setCell ⟨w.heap.size, 0, none⟩ (.int .i64 0)).setCell ⟨w.heap.size, 1, none⟩ (.string ⟨#[]⟩)).setCell ⟨w.heap.size, 2, none⟩ (.int .i64 0)) w.heap.size 34 #[.int .i64 0, .string ⟨#[]⟩, .int .i64 0] ∧ Below w.heap.size w (((w3.setCell ⟨w.heap.size, 0, none⟩ (.int .i64 0)).setCell ⟨w.heap.size, 1, none⟩ (.string ⟨#[]⟩)).setCell ⟨w.heap.size, 2, none⟩ (.int .i64 0))) := Lib.hid
      ⟨((HR.out.1.set_ 0 (.int .i64 0)).set_ 1 (.string ⟨#[]⟩)).set_ 2 (.int .i64 0), ((HR.out.2.setCell (p := ⟨w.heap.size, 0, none⟩) (Nat.le_refl _) _).setCell (p := ⟨w.heap.size, 1, none⟩) (Nat.le_refl _) _).setCell (p := ⟨w.heap.size, 2, none⟩) (Nat.le_refl _) _⟩
    generalize ((w3.setCell ⟨w.heap.size, 0, none⟩ (.int .i64 0)).setCell ⟨w.heap.size, 1, none⟩ (.string ⟨#[]⟩)).setCell ⟨w.heap.size, 2, none⟩ (.int .i64 0) = W9 at HW9 ⊢
    have s0 : W9.cell? ⟨w.heap.size, 0, none⟩ = some (.int .i64 0) := HW9.out.1.cell 0
    have s1 : W9.cell? ⟨w.heap.size, 1, none⟩ = some (.string ⟨#[]⟩) := HW9.out.1.cell 1
    have s2 : W9.cell? ⟨w.heap.size, 2, none⟩ = some (.int .i64 0) := HW9.out.1.cell 2
    (try simp only [Exit.inBlock, Exit.then])
    refine bodyPost_ret (v := .tuple #[.agg #[.int .i64 0, .string ⟨#[]⟩, .int .i64 0], .bool false, .int .i64 (cd : Int)]) (by simp [results, Tryz.results15, go_sem, s0, s1, s2]) rfl ?_
    exact HP.out _ _ _ _ HZ.out HW9.out.2
  subst hcd
  cases th with
  | false =>
    have HZ : Hid (verifyF root (k : Int) nodes = ((0, [], 0), false, 0)) := Lib.hid (by rw [HX.out, if_pos (.inr rfl)])
    clear HX
    have r0 : w3.cell? ⟨w.heap.size, 0, none⟩ = some (.int .i64 0) := HR.out.1.cell 0
    have r1 : w3.cell? ⟨w.heap.size, 1, none⟩ = some (.string ⟨#[]⟩) := HR.out.1.cell 1
    have r2 : w3.cell? ⟨w.heap.size, 2, none⟩ = some (.int .i64 0) := HR.out.1.cell 2
    have f0 : w3.frozen? ⟨w.heap.size, 0, none⟩ = false := HR.out.1.frozen 0
    have f1 : w3.frozen? ⟨w.heap.size, 1, none⟩ = false := HR.out.1.frozen 1
    have f2 : w3.frozen? ⟨w.heap.size, 2, none⟩ = false := HR.out.1.frozen 2
    go_wp2
    have HW9 : Hid (Blk (((w3.setCell ⟨w.heap.size, 0, none⟩ (.int .i64 0)).setCell ⟨w.heap.size, 1, none⟩ (.string ⟨#[]⟩)).setCell ⟨w.heap.size, 2, none⟩ (.int .i64 0)) w.heap.size 34 #[.int .i64 0, .string ⟨#[]⟩, .int .i64 0] ∧ Below w.heap.size w (((w3.setCell ⟨w.heap.size, 0, none⟩ (.int .i64 0)).setCell ⟨w.heap.size, 1, none⟩ (.string ⟨#[]⟩)).setCell ⟨w.heap.size, 2, none⟩ (.int .i64 0))) := Lib.hid
      ⟨((HR.out.1.set_ 0 (.int .i64 0)).set_ 1 (.string ⟨#[]⟩)).set_ 2 (.int .i64 0), ((HR.out.2.setCell (p := ⟨w.heap.size, 0, none⟩) (Nat.le_refl _) _).setCell (p := ⟨w.heap.size, 1, none⟩) (Nat.le_refl _) _).setCell (p := ⟨w.heap.size, 2, none⟩) (Nat.le_refl _) _⟩
    generalize ((w3.setCell ⟨w.heap.size, 0, none⟩ (.int .i64 0)).setCell ⟨w.heap.size, 1, none⟩ (.string ⟨#[]⟩)).setCell ⟨w.heap.size, 2, none⟩ (.int .i64 0) = W9 at HW9 ⊢
    have s0 : W9.cell? ⟨w.heap.size, 0, none⟩ = some (.int .i64 0) := HW9.out.1.cell 0
    have s1 : W9.cell? ⟨w.heap.size, 1, none⟩ = some (.string ⟨#[]⟩) := HW9.out.1.cell 1
    have s2 : W9.cell? ⟨w.heap.size, 2, none⟩ = some (.int .i64 0) := HW9.out.1.cell 2
    (try simp only [Exit.inBlock, Exit.then])
    refine bodyPost_ret (v := .tuple #[.agg #[.int .i64 0, .string ⟨#[]⟩, .int .i64 0], .bool false, .int .i64 0]) (by simp [results, Tryz.results15, go_sem, s0, s1, s2]) rfl ?_
    exact HP.out _ _ _ _ HZ.out HW9.out.2
  | true =>
  go_wp2_with fail
  refine (HDc.out _).mono ?_
  rintro e w4 ⟨rfl, hb4⟩
  have HR4 : Hid (Blk w4 w.heap.size 34 #[.int .i64 0, .string ⟨#[]⟩, .int .i64 0] ∧ Below w.heap.size w w4) := Lib.hid ⟨HR.out.1.below hb4 HR.out.1.lt, HR.out.2.nxt hb4⟩
  have HAl : Hid (∀ f, Below w4.heap.size w4 (w4.alloc (.cells f 34))) := Lib.hid (fun f => by go_grown)
  have HBk : Hid (∀ f, Blk (w4.alloc (.cells f 34)) w4.heap.size 34 f) := Lib.hid (fun f => Blk.new _ _ _)
  clear hb4 HR cdk
  unfold rcV
  simp only
  go_upto_region 7 with fail
  have HR : Hid (Blk (w4.alloc (.cells #[.int .i64 (n : Int), .string ⟨t.toArray⟩, .int .i64 (q : Int)] 34)) w.heap.size 34 #[.int .i64 0, .string ⟨#[]⟩, .int .i64 0] ∧ Below w.heap.size w (w4.alloc (.cells #[.int .i64 (n : Int), .string ⟨t.toArray⟩, .int .i64 (q : Int)] 34)) ∧ Blk (w4.alloc (.cells #[.int .i64 (n : Int), .string ⟨t.toArray⟩, .int .i64 (q : Int)] 34)) w4.heap.size 34 #[.int .i64 (n : Int), .string ⟨t.toArray⟩, .int .i64 (q : Int)]) := Lib.hid ⟨HR4.out.1.below (HAl.out _) HR4.out.1.lt, HR4.out.2.nxt (HAl.out _), HBk.out _⟩
  have hne := HR4.out.1.lt
  generalize w4.alloc (.cells #[.int .i64 (n : Int), .string ⟨t.toArray⟩, .int .i64 (q : Int)] 34) = W7 at HR ⊢
  clear HAl HBk HR4
  generalize w4.heap.size = X at *
  have y0 : W7.cell? ⟨X, 0, none⟩ = some (.int .i64 (n : Int)) := HR.out.2.2.cell 0
  have y1 : W7.cell? ⟨X, 1, none⟩ = some (.string ⟨t.toArray⟩) := HR.out.2.2.cell 1
  have y2 : W7.cell? ⟨X, 2, none⟩ = some (.int .i64 (q : Int)) := HR.out.2.2.cell 2
  replace HR := Lib.hid (And.intro HR.out.1 HR.out.2.1)
  clear hne
  by_cases hdc : dc = 0
  rotate_left
  · have HZ : Hid (verifyF root (k : Int) nodes = ((0, [], 0), false, dc)) := Lib.hid (by rw [HX.out, if_neg (by simp), if_pos hdc])
    have hc1 : ((dc : Int) == 0) = false := by simp; exact hdc
    obtain ⟨rfl, rfl, rfl⟩ := HDb.out hdc
    clear hdc HX HDb
    have r0 : W7.cell? ⟨w.heap.size, 0, none⟩ = some (.int .i64 0) := HR.out.1.cell 0
    have r1 : W7.cell? ⟨w.heap.size, 1, none⟩ = some (.string ⟨#[]⟩) := HR.out.1.cell 1
    have r2 : W7.cell? ⟨w.heap.size, 2, none⟩ = some (.int .i64 0) := HR.out.1.cell 2
    have f0 : W7.frozen? ⟨w.heap.size, 0, none⟩ = false := HR.out.1.frozen 0
    have f1 : W7.frozen? ⟨w.heap.size, 1, none⟩ = false := HR.out.1.frozen 1
    have f2 : W7.frozen? ⟨w.heap.size, 2, none⟩ = false := HR.out.1.frozen 2
    go_wp2
    have HW9 : Hid (Blk (((W7.setCell ⟨w.heap.size, 0, none⟩ (.int .i64 0)).setCell ⟨w.heap.size, 1, none⟩ (.string ⟨#[]⟩)).setCell ⟨w.heap.size, 2, none⟩ (.int .i64 0)) w.heap.size 34 #[.int .i64 0, .string ⟨#[]⟩, .int .i64 0] ∧ Below w.heap.size w (((W7.setCell ⟨w.heap.size, 0, none⟩ (.int .i64 0)).setCell ⟨w.heap.size, 1, none⟩ (.string ⟨#[]⟩)).setCell ⟨w.heap.size, 2, none⟩ (.int .i64 0))) := Lib.hid
      ⟨((HR.out.1.set_ 0 (.int .i64 0)).set_ 1 (.string ⟨#[]⟩)).set_ 2 (.int .i64 0), ((HR.out.2.setCell (p := ⟨w.heap.size, 0, none⟩) (Nat.le_refl _) _).setCell (p := ⟨w.heap.size, 1, none⟩) (Nat.le_refl _) _).setCell (p := ⟨w.heap.size, 2, none⟩) (Nat.le_refl _) _⟩
    generalize ((W7.setCell ⟨w.heap.size, 0, none⟩ (.int .i64 0)).setCell ⟨w.heap.size, 1, none⟩ (.string ⟨#[]⟩)).setCell ⟨w.heap.size, 2, none⟩ (.int .i64 0) = W9 at HW9 ⊢
    have s0 : W9.cell? ⟨w.heap.size, 0, none⟩ = some (.int .i64 0) := HW9.out.1.cell 0
    have s1 : W9.cell? ⟨w.heap.size, 1, none⟩ = some (.string ⟨#[]⟩) := HW9.out.1.cell 1
    have s2 : W9.cell? ⟨w.heap.size, 2, none⟩ = some (.int .i64 0) := HW9.out.1.cell 2
    (try simp only [Exit.inBlock, Exit.then])
    refine bodyPost_ret (v := .tuple #[.agg #[.int .i64 0, .string ⟨#[]⟩, .int .i64 0], .bool false, .int .i64 (dc : Int)]) (by simp [results, Tryz.results15, go_sem, s0, s1, s2]) rfl ?_
    exact HP.out _ _ _ _ HZ.out HW9.out.2
  subst hdc
  have HZ : Hid (verifyF root (k : Int) nodes = ((n, t, q), true, 0)) := Lib.hid (by rw [HX.out, if_neg (by simp), if_neg (by simp)])
  clear HX HDb
  have r0 : W7.cell? ⟨w.heap.size, 0, none⟩ = some (.int .i64 0) := HR.out.1.cell 0
  have r1 : W7.cell? ⟨w.heap.size, 1, none⟩ = some (.string ⟨#[]⟩) := HR.out.1.cell 1
  have r2 : W7.cell? ⟨w.heap.size, 2, none⟩ = some (.int .i64 0) := HR.out.1.cell 2
  have f0 : W7.frozen? ⟨w.heap.size, 0, none⟩ = false := HR.out.1.frozen 0
  have f1 : W7.frozen? ⟨w.heap.size, 1, none⟩ = false := HR.out.1.frozen 1
  have f2 : W7.frozen? ⟨w.heap.size, 2, none⟩ = false := HR.out.1.frozen 2
  go_wp2
  have HW9 : Hid (Blk (((W7.setCell ⟨w.heap.size, 0, none⟩ (.int .i64 (n : Int))).setCell ⟨w.heap.size, 1, none⟩ (.string ⟨t.toArray⟩)).setCell ⟨w.heap.size, 2, none⟩ (.int .i64 (q : Int))) w.heap.size 34 #[.int .i64 (n : Int), .string ⟨t.toArray⟩, .int .i64 (q : Int)] ∧ Below w.heap.size w (((W7.setCell ⟨w.heap.size, 0, none⟩ (.int .i64 (n : Int))).setCell ⟨w.heap.size, 1, none⟩ (.string ⟨t.toArray⟩)).setCell ⟨w.heap.size, 2, none⟩ (.int .i64 (q : Int)))) := Lib.hid
    ⟨((HR.out.1.set_ 0 (.int .i64 (n : Int))).set_ 1 (.string ⟨t.toArray⟩)).set_ 2 (.int .i64 (q : Int)), ((HR.out.2.setCell (p := ⟨w.heap.size, 0, none⟩) (Nat.le_refl _) _).setCell (p := ⟨w.heap.size, 1, none⟩) (Nat.le_refl _) _).setCell (p := ⟨w.heap.size, 2, none⟩) (Nat.le_refl _) _⟩
  generalize ((W7.setCell ⟨w.heap.size, 0, none⟩ (.int .i64 (n : Int))).setCell ⟨w.heap.size, 1, none⟩ (.string ⟨t.toArray⟩)).setCell ⟨w.heap.size, 2, none⟩ (.int .i64 (q : Int)) = W9 at HW9 ⊢
  have s0 : W9.cell? ⟨w.heap.size, 0, none⟩ = some (.int .i64 (n : Int)) := HW9.out.1.cell 0
  have s1 : W9.cell? ⟨w.heap.size, 1, none⟩ = some (.string ⟨t.toArray⟩) := HW9.out.1.cell 1
  have s2 : W9.cell? ⟨w.heap.size, 2, none⟩ = some (.int .i64 (q : Int)) := HW9.out.1.cell 2
  (try simp only [Exit.inBlock, Exit.then])
  refine bodyPost_ret (v := .tuple #[.agg #[.int .i64 (n : Int), .string ⟨t.toArray⟩, .int .i64 (q : Int)], .bool true, .int .i64 0]) (by simp [results, Tryz.results15, go_sem, s0, s1, s2]) rfl ?_
  exact HP.out _ _ _ _ HZ.out HW9.out.2
end Go.Proofs.YtcjafcbekegmlaaGreatDoor

namespace Go.Proofs.YtcjafcbekegmlaaGreatDoor
set_option linter.unusedVariables false
open Go.RowKit Go.Instr
attribute [local go_sem] ba_get ByteArray.mk_append_mk
attribute [local go_sem ↓] Go.wp_at_zero Go.wp_at_succ
def bigR (l : List (Int × List UInt8 × Int)) : Bool := (l.any fun x => decide (100 < x.2.1.length)) || decide (20 < l.length)
set_option maxRecDepth 100000 in
theorem law17_big (l : List (Int × List UInt8 × Int)) (hlm : l.length ≤ 9223372036854775807) (w : World) (A : Option Addr) (c : Nat) (HR : Reads w w.heap.size 3 A l.length (rcells l)) :
    Calls Tryz.prog 6 #[.slice A l.length c] w fun e w' => e = .returned (.bool (bigR l)) ∧ w = w' := by
  have HP : Hid (∀ b, bigR l = b → (fun e w' => e = Ending.returned (.bool (bigR l)) ∧ w = w') (Ending.returned (.bool b)) w) := Lib.hid (fun b h => ⟨by rw [h], rfl⟩)
  generalize (fun e w' => e = Ending.returned (.bool (bigR l)) ∧ w = w') = P at HP ⊢
  have HRR := Lib.hid HR
  clear HR
  go_enter Tryz.func6, Tryz.ntmps6
  go_wp2_with fail
  refine wp_loop_ghost_k (fun k a wr => ∀ Φ : Act → Prop, (∀ (s1 s2 s4 s5 s6 s7 s8 s9 s10 s11 s12 s13 s14 s15 s16 s17 s18 s19 : Value) (i : Nat), (i + k = l.length ∧ (∀ x ∈ l.take i, ¬ 100 < x.2.1.length) ∧ wr = w) → Φ { tmps := #[.slice A l.length c, s1, s2, .int .i64 (i : Int), s4, s5, s6, s7, s8, s9, s10, s11, s12, s13, s14, s15, s16, s17, s18, s19], defers := [] }) → Φ a) (l.length) ?_ ?_
  · refine fun Φ hΦ => hΦ _ _ _ _ _ _ _ _ _ _ _ _ _ _ _ _ _ _ (0) ?_
    exact ⟨by omega, by simp, rfl⟩
  · intro k1 a1 wr1 hI1 J1 K1 hJ1 hK1
    refine hI1 (fun a => Code.wp _ _ _ a _) ?_
    clear hI1 a1
    intro s0 s1 s2 s3 s4 s5 s6 s7 s8 s9 s10 s11 s12 s13 s14 s15 s16 s17 i hrel
    show Code.wp _ _ _ _ _
    obtain ⟨h1, h2, rfl⟩ := hrel
    by_cases hi : i < l.length
    · obtain ⟨ad, off, rfl, hbl, hcell⟩ := HRR.out.form (by omega) (by omega)
      have ic := rcells_at hi
      have hil := rcells_length l
      have e1 : (rcells l)[3 * i + 1]'(by omega) = .string ⟨l[i].2.1.toArray⟩ := by
        have := ic.2.1; rw [List.getElem?_eq_getElem (by omega)] at this; exact Option.some.inj this
      have q1 := hcell (3 * i + 1) (by omega)
      rw [e1] at q1
      have r1 : wr1.cell? ⟨ad, off + i * 3 + 1, none⟩ = some (.string ⟨l[i].2.1.toArray⟩) := by rw [show off + i * 3 + 1 = off + (3 * i + 1) by omega]; exact q1
      have hi1 : (i : Int) < (l.length : Int) := by omega
      have hi2 : (i : Int) + 1 ≤ 9223372036854775807 := by omega
      have hi0 : (0 : Int) ≤ (i : Int) := by omega
      have htk : l.take (i + 1) = l.take i ++ [l[i]] := List.take_succ_eq_append_getElem hi
      have hmem : l[i] ∈ l := List.getElem_mem hi
      have HI := Lib.hid (And.intro h1 (And.intro h2 (And.intro htk hmem)))
      clear ic hil e1 q1 hcell h1 h2 htk hmem
      generalize l[i] = x at *
      obtain ⟨rc, rf, rq⟩ := x
      by_cases hl : 100 < rf.length
      · have hl1 : (100 : Int) < (rf.length : Int) := by omega
        have HE : Hid (bigR l = true) := Lib.hid (by
          unfold bigR
          rw [Bool.or_eq_true]
          exact .inl (List.any_eq_true.2 ⟨_, HI.out.2.2.2, by simpa using hl⟩))
        clear hl
        go_wp2_with fail
        exact HP.out _ HE.out
      · have hl1 : ((100 : Int) < (rf.length : Int)) = False := by simp; omega
        have HL := Lib.hid hl
        clear hl
        go_wp2_with fail
        refine Handed.intro (l.length - (i + 1)) ?_ (hJ1 _ _ _ (fun Φ hΦ => hΦ _ _ _ _ _ _ _ _ _ _ _ _ _ _ _ _ _ _ (i + 1) ?_))
        · have := HI.out.1; omega
        refine ⟨by have := HI.out.1; omega, ?_, rfl⟩
        rw [HI.out.2.2.1]
        intro x hx
        rcases List.mem_append.1 hx with hx | hx
        · exact HI.out.2.1 x hx
        · rw [List.mem_singleton] at hx
          subst hx
          exact HL.out
    · have hi1 : ((i : Int) < (l.length : Int)) = False := by simp; omega
      obtain rfl : i = l.length := by omega
      have HE : Hid (bigR l = decide (20 < l.length)) := Lib.hid (by
        unfold bigR
        rw [List.take_length] at h2
        rw [show (l.any fun x => decide (100 < x.2.1.length)) = false by
          rw [Bool.eq_false_iff]
          intro h
          obtain ⟨x, hx, hp⟩ := List.any_eq_true.1 h
          exact h2 x hx (of_decide_eq_true hp)]
        rfl)
      clear h1 h2 hi
      by_cases h20 : 20 < l.length
      · have g : ((20 : Int) < (l.length : Int)) := by omega
        rw [decide_eq_true h20] at HE
        clear h20
        go_wp2_with fail
        exact HP.out _ HE.out
      · have g : ((20 : Int) < (l.length : Int)) = False := by simp; omega
        rw [decide_eq_false h20] at HE
        clear h20
        go_wp2_with fail
        exact HP.out _ HE.out
theorem proveF_most (l : List (Int × List UInt8 × Int)) (at_ : Int) : (proveF l at_).1.length ≤ 17 := by
  by_cases he : (treeF l).2 = 0
  · by_cases ha : at_ < 0 ∨ 255 < at_
    · unfold proveF
      rw [if_neg (by simp [he]), if_pos ha]
      simp
    · obtain ⟨k, rfl⟩ := Int.eq_ofNat_of_zero_le (show 0 ≤ at_ by omega)
      exact (Trie.shown_at he k (by omega)).2.1
  · unfold proveF
    rw [if_pos he]
    simp
set_option maxRecDepth 100000 in
set_option maxHeartbeats 4000000 in
theorem law_ReceiptProofs (w : World) (l : List (Int × List UInt8 × Int)) (hlm : l.length ≤ 9223372036854775807) (hs : ∀ x ∈ l, x.2.1.length ≤ 9223372036854775807) (at_ : Int) (A : Option Addr) (c : Nat) (HR : Reads w w.heap.size 3 A l.length (rcells l)) (A1 : Option Addr) (c1 : Nat) (nodes : List (List UInt8)) (hc1 : nodes.length ≤ c1) (HR1 : Reads w w.heap.size 1 A1 nodes.length (strv nodes)) (hT : Tbl w) :
    Calls Tryz.prog 3 #[.slice A l.length c, .int .i64 at_, .slice A1 nodes.length c1] w fun e w' => e = .returned (.bool true) ∧ Below w.heap.size w w' := by
  have HP : Hid (∀ w', Below w.heap.size w w' → (fun e w' => e = Ending.returned (.bool true) ∧ Below w.heap.size w w') (Ending.returned (.bool true)) w') := Lib.hid (fun W' a2 => ⟨rfl, a2⟩)
  generalize (fun e w' => e = Ending.returned (.bool true) ∧ Below w.heap.size w w') = P at HP ⊢
  have HRd := Lib.hid (fun W (hW : Below w.heap.size w W) => (HR.below hW).more hW.size)
  have HN := Lib.hid (fun W (hW : Below w.heap.size w W) => (HR1.below hW).more hW.size)
  have HTb := Lib.hid (fun W (hW : Below w.heap.size w W) => hT.next hW)
  have HWk := Lib.hid (fun W (hW : Below w.heap.size w W) => law17_works W (hT.next hW))
  have HBg := Lib.hid (law17_big l hlm w A c HR)
  have HFw := Lib.hid (book_Few w A1 c1 nodes 20 700 HR1 (by omega) (by omega))
  have HRo := Lib.hid (fun W (hW : Below w.heap.size w W) => receipt_RootF l hs W (hT.next hW) A c (HRd.out W hW))
  have HRr := Lib.hid (fun W (hW : Below w.heap.size w W) => ref17_Root l hs W A c (HRd.out W hW))
  have HPr := Lib.hid (fun W (hW : Below w.heap.size w W) => receipt_Prove l hs at_ W (hT.next hW) A c (HRd.out W hW))
  have HPf := Lib.hid (fun W (hW : Below w.heap.size w W) => ref17_Prove l hs at_ W A c (HRd.out W hW))
  have HCc := Lib.hid hc1
  clear HR HR1 hT hs hc1
  go_enter Tryz.func3, Tryz.ntmps3
  go_wp2_with fail
  refine HBg.out.mono ?_
  rintro e w1 ⟨rfl, rfl⟩
  cases hbig : bigR l with
  | true =>
    clear hbig
    go_wp2_with fail
    refine (HWk.out _ (Below.refl _ _)).mono ?_
    rintro e w2 ⟨rfl, hb2⟩
    have B2 := Lib.hid hb2
    clear hb2
    go_wp2_with fail
    exact HP.out _ B2.out
  | false =>
  clear hbig
  go_wp2_with fail
  refine HFw.out.mono ?_
  rintro e w2 ⟨rfl, hb2⟩
  have B2 := Lib.hid hb2
  clear hb2
  cases hfew : fewW nodes 20 700 with
  | false =>
    clear hfew
    go_wp2_with fail
    refine (HWk.out _ B2.out).mono ?_
    rintro e w3 ⟨rfl, hb3⟩
    have B3 := Lib.hid (B2.out.nxt hb3)
    clear hb3
    go_wp2_with fail
    exact HP.out _ B3.out
  | true =>
  have HFw : Hid (nodes.length ≤ 20 ∧ ∀ x ∈ nodes, x.length ≤ 700) := Lib.hid (by
    unfold fewW at hfew
    simp at hfew
    exact hfew)
  clear hfew
  have H17 := Lib.hid (proveF_most l at_)
  unfold RRootEnd at HRo HRr
  generalize (if (treeF l).2 = 0 then Trie.sumT (treeF l).1 else []) = root at *
  generalize (treeF l).2 = rcd at *
  obtain ⟨pf, pcd, hpf⟩ : ∃ pf pcd, proveF l at_ = (pf, pcd) := ⟨_, _, rfl⟩
  rw [hpf] at HPr HPf H17
  simp only at H17
  clear hpf
  have HV := Lib.hid (fun A3 c3 W (hW : Below w.heap.size w W) (hR : Reads W W.heap.size 1 A3 nodes.length (strv nodes)) => receipt_Verify root at_ W (HTb.out W hW) nodes A3 c3 hR (by have := HFw.out.1; omega) (fun x hx => by have := HFw.out.2 x hx; omega))
  have HVf := Lib.hid (fun W (hW : Below w.heap.size w W) => ref17_Verify root at_ W nodes A1 c1 (HN.out W hW) HCc.out (by have := HFw.out.1; omega) (fun x hx => by have := HFw.out.2 x hx; omega))
  obtain ⟨x, th, vc, hvf⟩ : ∃ x th vc, verifyF root at_ nodes = (x, th, vc) := ⟨_, _, _, rfl⟩
  obtain ⟨xn, xt, xq⟩ := x
  rw [hvf] at HV HVf
  clear hvf
  go_wp2_with fail
  refine (HRo.out _ B2.out).mono ?_
  rintro e w3 ⟨rfl, hb3⟩
  have B3 := Lib.hid (B2.out.nxt hb3)
  clear hb3
  go_wp2_with fail
  refine (HRr.out _ B3.out).mono ?_
  rintro e w4 ⟨rfl, hb4⟩
  have B4 := Lib.hid (B3.out.nxt hb4)
  clear hb4
  go_wp2_with fail
  refine (HPr.out _ B4.out).mono ?_
  rintro e w5 ⟨A5, n5, c5, rfl, hn5, own5, hb5⟩
  simp only at hn5 own5
  subst hn5
  have B5 := Lib.hid (B4.out.nxt hb5)
  have R5 := Lib.hid (Reads.of_own own5)
  clear hb5 own5
  go_wp2_with fail
  refine (HPf.out _ B5.out).mono ?_
  rintro e w6 ⟨A6, n6, c6, rfl, hn6, own6, hb6⟩
  simp only at hn6 own6
  subst hn6
  have B6 := Lib.hid (B5.out.nxt hb6)
  have R5' := Lib.hid ((R5.out.below hb6).more hb6.size)
  have R6 := Lib.hid (Reads.of_own own6)
  clear hb6 own6 R5
  go_wp2_with fail
  refine (book_Lend w6 A1 c1 nodes (HN.out _ B6.out) (by have := HFw.out.1; omega)).mono ?_
  rintro e w7 ⟨g, c7, rfl, hc7, r7, hb7⟩
  have B7 := Lib.hid (B6.out.nxt hb7)
  have R7 := Lib.hid (And.intro r7 hc7)
  have S5 := Lib.hid ((R5'.out.below hb7).more hb7.size)
  have S6 := Lib.hid ((R6.out.below hb7).more hb7.size)
  clear hb7 r7 hc7 R5' R6
  go_wp2_with fail
  refine (HV.out (some ⟨g, 0, none⟩) c7 _ B7.out (reads_pre R7.out.1 (strv_length nodes))).mono ?_
  rintro e w8 ⟨rfl, hb8⟩
  have HAl : Hid (∀ f, Below w7.heap.size w7 (w8.alloc (.cells f 34)) ∧ Below w.heap.size w (w8.alloc (.cells f 34))) := Lib.hid (fun f => ⟨hb8.nxt ((Below.refl _ _).alloc (Nat.le_refl _) _), (B7.out.nxt hb8).nxt ((Below.refl _ _).alloc (Nat.le_refl _) _)⟩)
  have HBk : Hid (∀ f, Blk (w8.alloc (.cells f 34)) w8.heap.size 34 f) := Lib.hid (fun f => Blk.new _ _ _)
  clear hb8
  unfold rcV
  simp only
  go_upto_region 9 with fail
  have F9 : Hid (Blk (w8.alloc (.cells #[.int .i64 (xn : Int), .string ⟨xt.toArray⟩, .int .i64 (xq : Int)] 34)) w8.heap.size 34 #[.int .i64 (xn : Int), .string ⟨xt.toArray⟩, .int .i64 (xq : Int)] ∧ Below w.heap.size w (w8.alloc (.cells #[.int .i64 (xn : Int), .string ⟨xt.toArray⟩, .int .i64 (xq : Int)] 34)) ∧ Below w7.heap.size w7 (w8.alloc (.cells #[.int .i64 (xn : Int), .string ⟨xt.toArray⟩, .int .i64 (xq : Int)] 34))) := Lib.hid ⟨HBk.out _, (HAl.out _).2, (HAl.out _).1⟩
  generalize w8.alloc (.cells #[.int .i64 (xn : Int), .string ⟨xt.toArray⟩, .int .i64 (xq : Int)] 34) = W9 at F9 ⊢
  clear HAl HBk
  generalize w8.heap.size = X at F9 ⊢
  go_wp2_with fail
  refine (HVf.out _ F9.out.2.1).mono ?_
  rintro e w10 ⟨rfl, hb10⟩
  have HAl : Hid (∀ f, Below W9.heap.size W9 (w10.alloc (.cells f 34))) := Lib.hid (fun f => hb10.nxt ((Below.refl _ _).alloc (Nat.le_refl _) _))
  have HBk : Hid (∀ f, Blk (w10.alloc (.cells f 34)) w10.heap.size 34 f) := Lib.hid (fun f => Blk.new _ _ _)
  clear hb10
  unfold rcV
  simp only
  go_upto_region 10 with fail
  have FB : Hid (Blk (w10.alloc (.cells #[.int .i64 (xn : Int), .string ⟨xt.toArray⟩, .int .i64 (xq : Int)] 34)) w10.heap.size 34 #[.int .i64 (xn : Int), .string ⟨xt.toArray⟩, .int .i64 (xq : Int)] ∧ Below W9.heap.size W9 (w10.alloc (.cells #[.int .i64 (xn : Int), .string ⟨xt.toArray⟩, .int .i64 (xq : Int)] 34))) := Lib.hid ⟨HBk.out _, HAl.out _⟩
  generalize w10.alloc (.cells #[.int .i64 (xn : Int), .string ⟨xt.toArray⟩, .int .i64 (xq : Int)] 34) = WB at FB ⊢
  clear HAl HBk
  generalize w10.heap.size = Y at FB ⊢
  have BB : Hid (Below w.heap.size w WB ∧ Below w7.heap.size w7 WB) := Lib.hid ⟨F9.out.2.1.nxt FB.out.2, F9.out.2.2.nxt FB.out.2⟩
  have T5 := Lib.hid ((S5.out.below BB.out.2).more BB.out.2.size)
  have T6 := Lib.hid ((S6.out.below BB.out.2).more BB.out.2.size)
  have XB := Lib.hid (F9.out.1.below FB.out.2 F9.out.1.lt)
  have e1 : (root == root) = true := by simp
  have e2 : ((rcd : Int) == rcd) = true := by simp
  have e3 : ((pcd : Int) == pcd) = true := by simp
  have e4 : ((xn : Int) == xn) = true := by simp
  have e5 : (xt == xt) = true := by simp
  have e6 : ((xq : Int) == xq) = true := by simp
  have e7 : (th == th) = true := by simp
  have e8 : ((vc : Int) == vc) = true := by simp
  have hS := Lib.hid (book_SameTexts A5 A6 pf.length pf.length c5 c6 pf pf WB T5.out T6.out (by have := H17.out; omega) (by have := H17.out; omega))
  rw [decide_eq_true rfl] at hS
  go_wp2_with fail
  refine hS.out.mono ?_
  rintro e w11 ⟨rfl, hb11⟩
  have B11 := Lib.hid (BB.out.1.nxt hb11)
  have D11 := Lib.hid (BB.out.2.nxt hb11)
  have XC := Lib.hid (XB.out.below hb11 XB.out.lt)
  have YC := Lib.hid (FB.out.1.below hb11 FB.out.1.lt)
  have k0 : w11.cell? ⟨X, 0, none⟩ = some (.int .i64 (xn : Int)) := XC.out.cell 0
  have k1 : w11.cell? ⟨X, 1, none⟩ = some (.string ⟨xt.toArray⟩) := XC.out.cell 1
  have k2 : w11.cell? ⟨X, 2, none⟩ = some (.int .i64 (xq : Int)) := XC.out.cell 2
  have j0 : w11.cell? ⟨Y, 0, none⟩ = some (.int .i64 (xn : Int)) := YC.out.cell 0
  have j1 : w11.cell? ⟨Y, 1, none⟩ = some (.string ⟨xt.toArray⟩) := YC.out.cell 1
  have j2 : w11.cell? ⟨Y, 2, none⟩ = some (.int .i64 (xq : Int)) := YC.out.cell 2
  clear hb11
  go_wp2_with fail
  refine (book_Kept w11 A1 g c7 c1 nodes ((R7.out.1.below D11.out).more D11.out.size) R7.out.2 (HN.out _ B11.out) (by have := HFw.out.1; omega)).mono ?_
  rintro e w12 ⟨rfl, hb12⟩
  have B12 := Lib.hid (B11.out.nxt hb12)
  clear hb12 k0 k1 k2 j0 j1 j2
  go_wp2_with fail
  refine (HWk.out _ B12.out).mono ?_
  rintro e w13 ⟨rfl, hb13⟩
  have B13 := Lib.hid (B12.out.nxt hb13)
  clear hb13
  go_wp2_with fail
  exact HP.out _ B13.out
end Go.Proofs.YtcjafcbekegmlaaGreatDoor
