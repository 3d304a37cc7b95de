import Derived.Test.YtaplecncnkkigaaDoorK33
/- The walks of layer 17 (receipt): Root; its laws' works. No conditions. -/
namespace Go.Proofs.YtaplecncnkkigaaDoor
set_option linter.unusedVariables false
open Go.RowKit Go.Instr
attribute [local go_sem] ba_get ByteArray.mk_append_mk

theorem reads_blk17 {w : World} {b e size n : Nat} {xs : Array Value} (h : Blk w b e xs) (hn : xs.size = n * size) : Reads w w.heap.size size (some ⟨b, 0, none⟩) n xs.toList := by
  refine ⟨by simpa using hn, fun _ => ⟨_, rfl, h.lt, fun j u hu => ?_⟩⟩
  have hj : j < xs.size := by have := (List.getElem?_eq_some_iff.1 hu).1; simpa using this
  have := h.cell j
  rw [show (⟨b, 0, none⟩ : Addr).add j = ⟨b, j, none⟩ by unfold Addr.add; split <;> simp_all]
  rw [this]
  simpa using hu
def RRootEnd (w : World) (r : Trie.T × Nat) (e : Ending) (w' : World) : Prop := e = .returned (.tuple #[.string ⟨(if r.2 = 0 then Trie.sumT r.1 else []).toArray⟩, .int .i64 (r.2 : Int)]) ∧ Below w.heap.size w w'
set_option maxRecDepth 100000 in
set_option maxHeartbeats 1000000 in
theorem receipt_Root (l : List (Int × List UInt8 × Int)) (hl : l.length ≤ 8) (hs : ∀ x ∈ l, x.2.1.length ≤ 1000000) (w : World) (hT : Tbl w) (A : Option Addr) (c : Nat) (HR : Reads w w.heap.size 3 A l.length (rcells l)) :
    Calls Tryd.prog 69 #[.slice A l.length c] w (RRootEnd w (treeW .nil 0 l)) := by
  have HTr := Lib.hid (receipt_tree l hl hs w hT A c HR)
  generalize treeW .nil 0 l = r at *
  obtain ⟨t, cd⟩ := r
  clear HR hT hs
  by_cases hc : cd = 0
  · subst hc
    have HP : Hid (∀ w', Below w.heap.size w w' → RRootEnd w (t, 0) (.returned (.tuple #[.string ⟨(Trie.sumT t).toArray⟩, .int .i64 0])) w') := Lib.hid (fun w' hb => ⟨rfl, hb⟩)
    generalize RRootEnd w (t, 0) = P at HP ⊢
    go_enter Tryd.func69, Tryd.ntmps69
    go_wp2_with fail
    refine HTr.out.mono ?_
    rintro e w1 ⟨v, rfl, hb, hk, _⟩
    have HB := Lib.hid hb
    have HK := Lib.hid (hk (by first | exact trivial | rfl))
    clear hb hk
    go_wp2_with fail
    refine (trie_Root _ _ _ HK.out).mono ?_
    rintro e w2 ⟨rfl, rfl⟩
    go_wp2_with fail
    exact HP.out _ HB.out
  · have HP : Hid (∀ w', Below w.heap.size w w' → RRootEnd w (t, cd) (.returned (.tuple #[.string ⟨#[]⟩, .int .i64 (cd : Int)])) w') := Lib.hid (fun w' hb => ⟨by simp [hc], hb⟩)
    generalize RRootEnd w (t, cd) = P at HP ⊢
    have hc1 : ((cd : Int) != 0) = true := by simp; exact hc
    clear hc
    go_enter Tryd.func69, Tryd.ntmps69
    go_wp2_with fail
    refine HTr.out.mono ?_
    rintro e w1 ⟨v, rfl, hb, _, _⟩
    have HB := Lib.hid hb
    clear hb
    go_wp2_with fail
    exact HP.out _ HB.out

theorem works17_enc : encW 0 [97] 3 = ([0, 1, 1, 97, 1, 3], 0) := by decide +kernel
theorem works17_dec : decW [0, 1, 1, 97, 1, 3] = ((0, [97], 3), 0) := by decide +kernel
theorem works17_tree : ∃ t, treeW .nil 0 [(0, [97], 3)] = (t, 0) ∧ t ≠ .nil := by
  refine ⟨Trie.put .nil (Nib.of [UInt8.ofNat 0]) (encW 0 [97] 3).1, ?_, Trie.put_nn _ _ _⟩
  rw [treeW, if_pos (by decide +kernel), treeW]
set_option maxRecDepth 100000 in
set_option maxHeartbeats 1000000 in
theorem law17_works (w : World) (hT : Tbl w) :
    Calls Tryd.prog 39 #[] w fun e w' => e = .returned (.bool true) ∧ Below w.heap.size w w' := by
  have HP : Hid (∀ w', Below w.heap.size w w' → (fun e w' => e = Ending.returned (.bool true) ∧ Below w.heap.size w w') (Ending.returned (.bool true)) w') := Lib.hid (fun W' a2 => ⟨rfl, a2⟩)
  generalize (fun e w' => e = Ending.returned (.bool true) ∧ Below w.heap.size w w') = P at HP ⊢
  have HTb := Lib.hid hT
  have HE : Hid (∀ W, Calls Tryd.prog 40 #[.agg #[.int .i64 0, .string ⟨#[97]⟩, .int .i64 3]] W (REncEnd W ([0, 1, 1, 97, 1, 3], 0))) := Lib.hid (fun W => by have := receipt_Encode 0 [97] 3 (by simp) W; rw [works17_enc] at this; exact this)
  have HD : Hid (∀ W, Calls Tryd.prog 42 #[.string ⟨#[0, 1, 1, 97, 1, 3]⟩] W (DecEnd W ((0, [97], 3), 0))) := Lib.hid (fun W => by have := receipt_Decode [0, 1, 1, 97, 1, 3] (by simp) W; rw [works17_dec] at this; exact this)
  obtain ⟨t, ht, hnn⟩ := works17_tree
  have hs := Trie.sumT_len hnn
  have HRt : Hid (∀ (W : World) A c, Below w.heap.size w W → Reads W W.heap.size 3 A 1 (rcells [(0, [97], 3)]) → Calls Tryd.prog 69 #[.slice A 1 c] W (RRootEnd W (t, 0))) := Lib.hid (fun W A c hb hr => by
    have := receipt_Root [(0, [97], 3)] (by simp) (by simp) W (hT.next hb) A c hr
    rw [ht] at this
    exact this)
  clear hT ht hnn
  go_enter Tryd.func39, Tryd.ntmps39
  go_wp2_with fail
  refine (HE.out _).mono ?_
  rintro e w1 ⟨rfl, hb1⟩
  have HB1 := Lib.hid hb1
  clear hb1
  go_wp2_with fail
  refine (HD.out _).mono ?_
  rintro e w2 ⟨rfl, hb2⟩
  have HB2 := Lib.hid (HB1.out.nxt hb2)
  clear hb2 HB1
  unfold rcV
  go_wp2_with fail
  have F : Hid (Blk (w2.alloc (.cells #[.int .i64 0, .string ⟨#[97]⟩, .int .i64 3] 71)) w2.heap.size 71 #[.int .i64 0, .string ⟨#[97]⟩, .int .i64 3]) := Lib.hid (Blk.new _ _ _)
  have F2 : Hid (Below w2.heap.size w2 (w2.alloc (.cells #[.int .i64 0, .string ⟨#[97]⟩, .int .i64 3] 71))) := Lib.hid (by go_grown)
  have HS2 : Hid (w2.heap.size + 1 = (w2.alloc (.cells #[.int .i64 0, .string ⟨#[97]⟩, .int .i64 3] 71)).heap.size) := Lib.hid (World.size_alloc _ _).symm
  rw [HS2.out]
  generalize w2.alloc (.cells #[.int .i64 0, .string ⟨#[97]⟩, .int .i64 3] 71) = W2 at F F2 HS2 ⊢
  have HC := Lib.hid (HB2.out.nxt F2.out)
  clear HB2 F2 HS2 HE HD HTb
  generalize w2.heap.size = X at F ⊢
  have F3 : Hid (Below W2.heap.size W2 (W2.alloc (.cells #[.int .i64 0, .string ⟨#[97]⟩, .int .i64 3] 71))) := Lib.hid (by go_grown)
  refine (HRt.out _ _ _ (HC.out.nxt F3.out) (reads_blk17 (Blk.new W2 _ _) (by simp))).mono ?_
  rintro e w3 ⟨rfl, hb3⟩
  have HB3 := Lib.hid (HC.out.nxt (F3.out.nxt hb3))
  have HK := Lib.hid (F.out.below (F3.out.nxt hb3) F.out.lt)
  have k1 : w3.cell? ⟨X, 1, none⟩ = some (.string ⟨#[97]⟩) := HK.out.cell 1
  have k2 : w3.cell? ⟨X, 2, none⟩ = some (.int .i64 3) := HK.out.cell 2
  clear hb3 F F3 HC HRt HK
  rw [if_pos rfl]
  have hs2 : ((Trie.sumT t).length : Int) = 32 := by omega
  generalize Trie.sumT t = sm at *
  go_wp2_with fail
  exact HP.out _ HB3.out
end Go.Proofs.YtaplecncnkkigaaDoor

/- Layer 17's plain law: there and back. No program in sight. -/
namespace Go.Proofs.YtaplecncnkkigaaDoor
set_option linter.unusedVariables false

theorem numS_ok {s s1 : List UInt8 × Nat} {n : Nat} (h : numS s = (n, s1)) (h0 : s1.2 = 0) : s.2 = 0 ∧ numT s.1 = (n, s1.1, 0) := by
  unfold numS at h
  split at h
  · rename_i hc
    simp only [Prod.mk.injEq] at h
    rw [← h.2] at h0
    exact absurd h0 hc
  · rename_i hc
    split at h
    · rename_i h2
      simp only [Prod.mk.injEq] at h
      refine ⟨by omega, ?_⟩
      rw [← h.1, ← h.2]
      simp only
      rw [← h2]
    · rename_i h2
      simp only [Prod.mk.injEq] at h
      rw [← h.2] at h0
      exact absurd h0 h2
theorem txtS_ok {s s1 : List UInt8 × Nat} {t : List UInt8} {m : Nat} (h : txtS s m = (t, s1)) (h0 : s1.2 = 0) : s.2 = 0 ∧ txtT s.1 m = (t, s1.1, 0) := by
  unfold txtS at h
  split at h
  · rename_i hc
    simp only [Prod.mk.injEq] at h
    rw [← h.2] at h0
    exact absurd h0 hc
  · rename_i hc
    split at h
    · rename_i h2
      simp only [Prod.mk.injEq] at h
      refine ⟨by omega, ?_⟩
      rw [← h.1, ← h.2]
      simp only
      rw [← h2]
    · rename_i h2
      simp only [Prod.mk.injEq] at h
      rw [← h.2] at h0
      exact absurd h0 h2
theorem endS_ok {s : List UInt8 × Nat} (h : endS s = 0) : s.2 = 0 ∧ s.1 = [] := by
  unfold endS at h
  split at h
  · cases h
  · rename_i hc
    refine ⟨h, ?_⟩
    rcases hs : s.1 with _ | _
    · rfl
    · exact absurd ⟨h, by rw [hs]; simp⟩ hc
/-- bytes that tell a receipt are that one's -/
theorem decW_cases (s : List UInt8) : decW s = ((0, [], 0), 3) ∨ ∃ n t q, decW s = ((n, t, q), 0) ∧ rcOk (n : Int) t (q : Int) ∧ encW (n : Int) t (q : Int) = (s, 0) := by
  obtain ⟨n, s1, hA⟩ : ∃ n s1, numS (s, 0) = (n, s1) := ⟨_, _, rfl⟩
  obtain ⟨t, s2, hT⟩ : ∃ t s2, txtS s1 6 = (t, s2) := ⟨_, _, rfl⟩
  obtain ⟨q, s3, hQ⟩ : ∃ q s3, numS s2 = (q, s3) := ⟨_, _, rfl⟩
  rw [decW_of hA hT hQ]
  split
  · exact Or.inl rfl
  · rename_i h
    right
    have he : endS s3 = 0 := Decidable.byContradiction fun h0 => h (Or.inl h0)
    have hk : rcOk (n : Int) t (q : Int) := Decidable.byContradiction fun h0 => h (Or.inr (Or.inr h0))
    refine ⟨n, t, q, rfl, hk, ?_⟩
    obtain ⟨e1, e2⟩ := endS_ok he
    obtain ⟨f1, f2⟩ := numS_ok hQ e1
    obtain ⟨g1, g2⟩ := txtS_ok hT f1
    obtain ⟨_, k2⟩ := numS_ok hA g1
    have a1 := numT_back f2
    have a2 := (txtT_back g2).1
    have a3 := numT_back k2
    rw [encW, if_pos hk]
    simp only [Int.toNat_natCast]
    rw [a2, a1, e2] at a3
    simp only at a3
    rw [a3]
    simp
/-- a receipt that may be is told by its bytes as it was -/
theorem decW_encW {c q : Int} {f : List UInt8} (h : rcOk c f q) : decW (encW c f q).1 = ((c.toNat, f, q.toNat), 0) := by
  obtain ⟨h1, h2, h3, h4, h5, h6⟩ := id h
  have b1 := numT_of c.toNat (by omega) (textW f ++ numW q.toNat)
  have b2 := txtT_of f (numW q.toNat) 6 (by omega) (by omega)
  have b3 := numT_of q.toNat (by omega) []
  rw [List.append_nil] at b3
  have e1 : numS ((encW c f q).1, 0) = (c.toNat, (textW f ++ numW q.toNat, 0)) := by
    rw [encW, if_pos h]
    simp only [List.append_assoc]
    simp [numS, b1]
  have e2 : txtS (textW f ++ numW q.toNat, 0) 6 = (f, (numW q.toNat, 0)) := by simp [txtS, b2]
  have e3 : numS (numW q.toNat, 0) = (q.toNat, ([], 0)) := by simp [numS, b3]
  rw [decW_of e1 e2 e3, if_neg]
  rintro (h0 | h0 | h0)
  · exact h0 (by simp [endS])
  · omega
  · apply h0
    rw [Int.toNat_of_nonneg h1, Int.toNat_of_nonneg h5]
    exact h
end Go.Proofs.YtaplecncnkkigaaDoor

/- Layer 17's law: ReceiptBack. No conditions. -/
namespace Go.Proofs.YtaplecncnkkigaaDoor
set_option linter.unusedVariables false
open Go.RowKit Go.Instr
attribute [local go_sem] ba_get ByteArray.mk_append_mk

/-- while the law runs: its receipt lies where it lay -/
def LawS (w W : World) (c : Int) (f : List UInt8) (q : Int) : Prop := Blk W w.heap.size 71 #[.int .i64 c, .string ⟨f.toArray⟩, .int .i64 q] ∧ Below w.heap.size w W
theorem LawS.next {w W W' : World} {c q : Int} {f : List UInt8} (h : LawS w W c f q) (hb : Below W.heap.size W W') : LawS w W' c f q := ⟨h.1.below hb h.1.lt, h.2.trans (hb.mono (Nat.le_of_lt h.1.lt))⟩
set_option maxRecDepth 100000 in
set_option maxHeartbeats 4000000 in
theorem law_ReceiptBack (c : Int) (f : List UInt8) (q : Int) (s : List UInt8) (hf : f.length ≤ 9223372036854775807) (hs : s.length ≤ 9223372036854775807) (w : World) (hT : Tbl w) :
    Calls Tryd.prog 10 #[rcV c f q, .string ⟨s.toArray⟩] w fun e w' => e = .returned (.bool true) ∧ Below w.heap.size w w' := by
  have HP : Hid (∀ w', Below w.heap.size w w' → (fun e w' => e = Ending.returned (.bool true) ∧ Below w.heap.size w w') (Ending.returned (.bool true)) w') := Lib.hid (fun W' a2 => ⟨rfl, a2⟩)
  generalize (fun e w' => e = Ending.returned (.bool true) ∧ Below w.heap.size w w') = P at HP ⊢
  have HWk : Hid (∀ W, Below w.heap.size w W → Calls Tryd.prog 39 #[] W fun e w' => e = .returned (.bool true) ∧ Below W.heap.size W w') := Lib.hid (fun W hb => law17_works W (hT.next hb))
  unfold rcV
  clear hT
  by_cases hfl : 200 < f.length
  · have g1 : (200 : Int) < (f.length : Int) := by omega
    clear hfl
    go_enter Tryd.func10, Tryd.ntmps10
    go_upto_region 1 with fail
    have F0 : Hid (LawS w (w.alloc (.cells #[.int .i64 c, .string ⟨f.toArray⟩, .int .i64 q] 71)) c f q) := Lib.hid ⟨Blk.new _ _ _, by go_grown⟩
    generalize w.alloc (.cells #[.int .i64 c, .string ⟨f.toArray⟩, .int .i64 q] 71) = W0 at F0 ⊢
    go_wp2_with fail
    refine (HWk.out _ F0.out.2).mono ?_
    rintro e w1 ⟨rfl, hb⟩
    have F1 := Lib.hid (F0.out.next hb)
    clear hb F0
    have k1 : w1.cell? ⟨w.heap.size, 1, none⟩ = some (.string ⟨f.toArray⟩) := F1.out.1.cell 1
    go_wp2_with fail
    exact HP.out _ F1.out.2
  have g1 : ((200 : Int) < (f.length : Int)) = False := by simp; omega
  by_cases hsl : 200 < s.length
  · have g2 : (200 : Int) < (s.length : Int) := by omega
    clear hfl hsl
    go_enter Tryd.func10, Tryd.ntmps10
    go_upto_region 1 with fail
    have F0 : Hid (LawS w (w.alloc (.cells #[.int .i64 c, .string ⟨f.toArray⟩, .int .i64 q] 71)) c f q) := Lib.hid ⟨Blk.new _ _ _, by go_grown⟩
    generalize w.alloc (.cells #[.int .i64 c, .string ⟨f.toArray⟩, .int .i64 q] 71) = W0 at F0 ⊢
    go_wp2_with fail
    refine (HWk.out _ F0.out.2).mono ?_
    rintro e w1 ⟨rfl, hb⟩
    have F1 := Lib.hid (F0.out.next hb)
    clear hb F0
    have k1 : w1.cell? ⟨w.heap.size, 1, none⟩ = some (.string ⟨f.toArray⟩) := F1.out.1.cell 1
    go_wp2_with fail
    exact HP.out _ F1.out.2
  have g2 : ((200 : Int) < (s.length : Int)) = False := by simp; omega
  have HEx : Hid (∀ W, Calls Tryd.prog 40 #[.agg #[.int .i64 c, .string ⟨f.toArray⟩, .int .i64 q]] W (REncEnd W (encW c f q))) := Lib.hid (fun W => receipt_Encode c f q (by omega) W)
  have HDs : Hid (∀ W, Calls Tryd.prog 42 #[.string ⟨s.toArray⟩] W (DecEnd W (decW s))) := Lib.hid (fun W => receipt_Decode s (by omega) W)
  clear hfl hsl
  go_enter Tryd.func10, Tryd.ntmps10
  go_upto_region 1 with fail
  have F0 : Hid (LawS w (w.alloc (.cells #[.int .i64 c, .string ⟨f.toArray⟩, .int .i64 q] 71)) c f q) := Lib.hid ⟨Blk.new _ _ _, by go_grown⟩
  generalize w.alloc (.cells #[.int .i64 c, .string ⟨f.toArray⟩, .int .i64 q] 71) = W0 at F0 ⊢
  go_wp2_with fail
  refine (HWk.out _ F0.out.2).mono ?_
  rintro e w1 ⟨rfl, hb⟩
  have F1 := Lib.hid (F0.out.next hb)
  clear hb F0
  have k1 : w1.cell? ⟨w.heap.size, 1, none⟩ = some (.string ⟨f.toArray⟩) := F1.out.1.cell 1
  go_wp2_with fail
  refine (HDs.out _).mono ?_
  clear k1
  rcases decW_cases s with hd | ⟨n, t, q', hd, hok', hen'⟩
  · rw [hd]
    rintro e w2 ⟨rfl, hb⟩
    have F2 := Lib.hid (F1.out.next hb)
    clear hb F1 hd
    unfold rcV
    have HAl : Hid (∀ f, Below w2.heap.size w2 (w2.alloc (.cells f 71))) := Lib.hid (fun f => by go_grown)
    have FN := Lib.hid (fun f => F2.out.next (HAl.out f))
    go_upto_region 12 with fail
    have F2n := Lib.hid (FN.out #[.int .i64 0, .string ⟨#[]⟩, .int .i64 0])
    clear FN HAl F2
    generalize w2.alloc (.cells #[.int .i64 0, .string ⟨#[]⟩, .int .i64 0] 71) = W2 at F2n ⊢
    have k0 : W2.cell? ⟨w.heap.size, 0, none⟩ = some (.int .i64 c) := F2n.out.1.cell 0
    have k1 : W2.cell? ⟨w.heap.size, 1, none⟩ = some (.string ⟨f.toArray⟩) := F2n.out.1.cell 1
    have k2 : W2.cell? ⟨w.heap.size, 2, none⟩ = some (.int .i64 q) := F2n.out.1.cell 2
    go_wp2_with fail
    refine (HEx.out _).mono ?_
    by_cases hok : rcOk c f q
    · have hen := encW_len hok
      have hc0 := hok.1
      have hq0 := hok.2.2.2.2.1
      have hdc := decW_encW hok
      obtain ⟨bytes, hby⟩ : ∃ bytes, encW c f q = (bytes, 0) := ⟨(encW c f q).1, by rw [encW, if_pos hok]⟩
      rw [hby] at hen hdc ⊢
      simp only at hen hdc
      have HDx : Hid (∀ W, Calls Tryd.prog 42 #[.string ⟨bytes.toArray⟩] W (DecEnd W ((c.toNat, f, q.toNat), 0))) := Lib.hid (fun W => by rw [← hdc]; exact receipt_Decode bytes (by omega) W)
      have hx32 : (bytes.length : Int) ≤ 32 := by omega
      rintro e w3 ⟨rfl, hb⟩
      have F3 := Lib.hid (F2n.out.next hb)
      clear hb hen hdc hby k0 k1 k2
      go_wp2_with fail
      refine (HDx.out _).mono ?_
      rintro e w4 ⟨rfl, hb⟩
      have F4 := Lib.hid (F3.out.next hb)
      clear hb F3
      unfold rcV
      rw [Int.toNat_of_nonneg hc0, Int.toNat_of_nonneg hq0]
      clear hc0 hq0 hok
      have k0 : w4.cell? ⟨w.heap.size, 0, none⟩ = some (.int .i64 c) := F4.out.1.cell 0
      have k1 : w4.cell? ⟨w.heap.size, 1, none⟩ = some (.string ⟨f.toArray⟩) := F4.out.1.cell 1
      have k2 : w4.cell? ⟨w.heap.size, 2, none⟩ = some (.int .i64 q) := F4.out.1.cell 2
      have HLt := F4.out.1.lt
      have HAl : Hid (∀ f, Below w4.heap.size w4 (w4.alloc (.cells f 71))) := Lib.hid (fun f => by go_grown)
      go_wp2_with fail
      exact HP.out _ (F4.out.next (HAl.out _)).2
    · have hen : encW c f q = ([], 3) := by rw [encW, if_neg hok]
      rw [hen]
      rintro e w3 ⟨rfl, hb⟩
      have F3 := Lib.hid (F2n.out.next hb)
      clear hb hen hok k0 k1 k2
      go_wp2_with fail
      exact HP.out _ F3.out.2
  · rw [hd]
    rintro e w2 ⟨rfl, hb⟩
    have F2 := Lib.hid (F1.out.next hb)
    have ht6 := hok'.2.2.2.1
    have HE' : Hid (∀ W, Calls Tryd.prog 40 #[.agg #[.int .i64 n, .string ⟨t.toArray⟩, .int .i64 q']] W (REncEnd W (s, 0))) := Lib.hid (fun W => by rw [← hen']; exact receipt_Encode n t q' (by omega) W)
    clear hb F1 hd hok' hen' ht6
    unfold rcV
    have HAl : Hid (∀ f, Below w2.heap.size w2 (w2.alloc (.cells f 71))) := Lib.hid (fun f => by go_grown)
    have FN := Lib.hid (fun f => F2.out.next (HAl.out f))
    go_wp2_with fail
    refine (HE'.out _).mono ?_
    rintro e w5 ⟨rfl, hb⟩
    have F5 := Lib.hid ((FN.out _).next hb)
    clear hb FN HAl F2
    go_upto_region 12 with fail
    have k0 : w5.cell? ⟨w.heap.size, 0, none⟩ = some (.int .i64 c) := F5.out.1.cell 0
    have k1 : w5.cell? ⟨w.heap.size, 1, none⟩ = some (.string ⟨f.toArray⟩) := F5.out.1.cell 1
    have k2 : w5.cell? ⟨w.heap.size, 2, none⟩ = some (.int .i64 q) := F5.out.1.cell 2
    go_wp2_with fail
    refine (HEx.out _).mono ?_
    by_cases hok : rcOk c f q
    · have hen := encW_len hok
      have hc0 := hok.1
      have hq0 := hok.2.2.2.2.1
      have hdc := decW_encW hok
      obtain ⟨bytes, hby⟩ : ∃ bytes, encW c f q = (bytes, 0) := ⟨(encW c f q).1, by rw [encW, if_pos hok]⟩
      rw [hby] at hen hdc ⊢
      simp only at hen hdc
      have HDx : Hid (∀ W, Calls Tryd.prog 42 #[.string ⟨bytes.toArray⟩] W (DecEnd W ((c.toNat, f, q.toNat), 0))) := Lib.hid (fun W => by rw [← hdc]; exact receipt_Decode bytes (by omega) W)
      have hx32 : (bytes.length : Int) ≤ 32 := by omega
      rintro e w3 ⟨rfl, hb⟩
      have F3 := Lib.hid (F5.out.next hb)
      clear hb hen hdc hby k0 k1 k2
      go_wp2_with fail
      refine (HDx.out _).mono ?_
      rintro e w4 ⟨rfl, hb⟩
      have F4 := Lib.hid (F3.out.next hb)
      clear hb F3
      unfold rcV
      rw [Int.toNat_of_nonneg hc0, Int.toNat_of_nonneg hq0]
      clear hc0 hq0 hok
      have k0 : w4.cell? ⟨w.heap.size, 0, none⟩ = some (.int .i64 c) := F4.out.1.cell 0
      have k1 : w4.cell? ⟨w.heap.size, 1, none⟩ = some (.string ⟨f.toArray⟩) := F4.out.1.cell 1
      have k2 : w4.cell? ⟨w.heap.size, 2, none⟩ = some (.int .i64 q) := F4.out.1.cell 2
      have HLt := F4.out.1.lt
      have HAl : Hid (∀ f, Below w4.heap.size w4 (w4.alloc (.cells f 71))) := Lib.hid (fun f => by go_grown)
      go_wp2_with fail
      exact HP.out _ (F4.out.next (HAl.out _)).2
    · have hen : encW c f q = ([], 3) := by rw [encW, if_neg hok]
      rw [hen]
      rintro e w3 ⟨rfl, hb⟩
      have F3 := Lib.hid (F5.out.next hb)
      clear hb hen hok k0 k1 k2
      go_wp2_with fail
      exact HP.out _ F3.out.2
end Go.Proofs.YtaplecncnkkigaaDoor
