import Derived.Test.YtefcmigbdfeaiaaDoorJ41
import Derived.Test.YtefcmigbdfeaiaaDoorJ39
set_option linter.unusedSimpArgs false
set_option linter.unusedVariables false
namespace Go.Proofs.YtefcmigbdfeaiaaDoor
set_option linter.unusedVariables false
open Go.RowKit Go.Instr
attribute [local go_sem] ba_get ByteArray.mk_append_mk
theorem reads_blk17 {w : World} {b e size n : Nat} {xs : Array Value} (h : Blk w b e xs) (hn : xs.size = n * size) : Reads w w.heap.size size (some ⟨b, 0, none⟩) n xs.toList := by
  refine ⟨by simpa using hn, fun _ => ⟨_, rfl, h.lt, fun j u hu => ?_⟩⟩
  have hj : j < xs.size := by have := (List.getElem?_eq_some_iff.1 hu).1; simpa using this
  have := h.cell j
  rw [show (⟨b, 0, none⟩ : Addr).add j = ⟨b, j, none⟩ by unfold Addr.add; split <;> simp_all]
  rw [this]
  simpa using hu
def RRootEnd (w : World) (r : Trie.T × Nat) (e : Ending) (w' : World) : Prop := e = .returned (.tuple #[.string ⟨(if r.2 = 0 then Trie.sumT r.1 else []).toArray⟩, .int .i64 (r.2 : Int)]) ∧ Below w.heap.size w w'
set_option maxRecDepth 100000 in
set_option maxHeartbeats 1000000 in
theorem receipt_Root (l : List (Int × List UInt8 × Int)) (hl : l.length ≤ 8) (hs : ∀ x ∈ l, x.2.1.length ≤ 9223372036854775807) (w : World) (hT : Tbl w) (A : Option Addr) (c : Nat) (HR : Reads w w.heap.size 3 A l.length (rcells l)) :
    Calls Tryd.prog 45 #[.slice A l.length c] w (RRootEnd w (treeW .nil 0 l)) := by
  have HTr := Lib.hid (receipt_tree l hl hs w hT A c HR)
  generalize treeW .nil 0 l = r at *
  obtain ⟨t, cd⟩ := r
  clear HR hT hs
  by_cases hc : cd = 0
  · subst hc
    have HP : Hid (∀ w', Below w.heap.size w w' → RRootEnd w (t, 0) (.returned (.tuple #[.string ⟨(Trie.sumT t).toArray⟩, .int .i64 0])) w') := Lib.hid (fun w' hb => ⟨rfl, hb⟩)
    generalize RRootEnd w (t, 0) = P at HP ⊢
    go_enter Tryd.func45, Tryd.ntmps45
    go_wp2_with fail
    refine HTr.out.mono ?_
    rintro e w1 ⟨v, rfl, hb, hk, _⟩
    have HB := Lib.hid hb
    have HK := Lib.hid (hk (by first | exact trivial | rfl))
    clear hb hk
    go_wp2_with fail
    refine (trie_Root _ _ _ HK.out).mono ?_
    rintro e w2 ⟨rfl, rfl⟩
    go_wp2_with fail
    exact HP.out _ HB.out
  · have HP : Hid (∀ w', Below w.heap.size w w' → RRootEnd w (t, cd) (.returned (.tuple #[.string ⟨#[]⟩, .int .i64 (cd : Int)])) w') := Lib.hid (fun w' hb => ⟨by simp [hc], hb⟩)
    generalize RRootEnd w (t, cd) = P at HP ⊢
    have hc1 : ((cd : Int) != 0) = true := by simp; exact hc
    clear hc
    go_enter Tryd.func45, Tryd.ntmps45
    go_wp2_with fail
    refine HTr.out.mono ?_
    rintro e w1 ⟨v, rfl, hb, _, _⟩
    have HB := Lib.hid hb
    clear hb
    go_wp2_with fail
    exact HP.out _ HB.out
theorem works17_enc : encW 0 [97] 3 = ([0, 1, 1, 97, 1, 3], 0) := by decide +kernel
theorem works17_dec : decW [0, 1, 1, 97, 1, 3] = ((0, [97], 3), 0) := by decide +kernel
theorem works17_tree : ∃ t, treeW .nil 0 [(0, [97], 3)] = (t, 0) ∧ t ≠ .nil := by
  refine ⟨Trie.put .nil (Nib.of [UInt8.ofNat 0]) (encW 0 [97] 3).1, ?_, Trie.put_nn _ _ _⟩
  rw [treeW, if_pos (by decide +kernel), treeW]
set_option maxRecDepth 100000 in
set_option maxHeartbeats 1000000 in
theorem law17_works (w : World) (hT : Tbl w) :
    Calls Tryd.prog 44 #[] w fun e w' => e = .returned (.bool true) ∧ Below w.heap.size w w' := by
  have HP : Hid (∀ w', Below w.heap.size w w' → (fun e w' => e = Ending.returned (.bool true) ∧ Below w.heap.size w w') (Ending.returned (.bool true)) w') := Lib.hid (fun W' a2 => ⟨rfl, a2⟩)
  generalize (fun e w' => e = Ending.returned (.bool true) ∧ Below w.heap.size w w') = P at HP ⊢
  have HTb := Lib.hid hT
  have HE : Hid (∀ W, Calls Tryd.prog 75 #[.agg #[.int .i64 0, .string ⟨#[97]⟩, .int .i64 3]] W (REncEnd W ([0, 1, 1, 97, 1, 3], 0))) := Lib.hid (fun W => by have := receipt_Encode 0 [97] 3 (by simp) W; rw [works17_enc] at this; exact this)
  have HD : Hid (∀ W, Calls Tryd.prog 76 #[.string ⟨#[0, 1, 1, 97, 1, 3]⟩] W (DecEnd W ((0, [97], 3), 0))) := Lib.hid (fun W => by have := receipt_Decode [0, 1, 1, 97, 1, 3] (by simp) W; rw [works17_dec] at this; exact this)
  obtain ⟨t, ht, hnn⟩ := works17_tree
  have hs := Trie.sumT_len hnn
  have HRt : Hid (∀ (W : World) A c, Below w.heap.size w W → Reads W W.heap.size 3 A 1 (rcells [(0, [97], 3)]) → Calls Tryd.prog 45 #[.slice A 1 c] W (RRootEnd W (t, 0))) := Lib.hid (fun W A c hb hr => by
    have := receipt_Root [(0, [97], 3)] (by simp) (by simp) W (hT.next hb) A c hr
    rw [ht] at this
    exact this)
  clear hT ht hnn
  go_enter Tryd.func44, Tryd.ntmps44
  go_wp2_with fail
  refine (HE.out _).mono ?_
  rintro e w1 ⟨rfl, hb1⟩
  have HB1 := Lib.hid hb1
  clear hb1
  go_wp2_with fail
  refine (HD.out _).mono ?_
  rintro e w2 ⟨rfl, hb2⟩
  have HB2 := Lib.hid (HB1.out.nxt hb2)
  clear hb2 HB1
  unfold rcV
  go_wp2_with fail
  have F : Hid (Blk (w2.alloc (.cells #[.int .i64 0, .string ⟨#[97]⟩, .int .i64 3] 76)) w2.heap.size 76 #[.int .i64 0, .string ⟨#[97]⟩, .int .i64 3]) := Lib.hid (Blk.new _ _ _)
  have F2 : Hid (Below w2.heap.size w2 (w2.alloc (.cells #[.int .i64 0, .string ⟨#[97]⟩, .int .i64 3] 76))) := Lib.hid (by go_grown)
  have HS2 : Hid (w2.heap.size + 1 = (w2.alloc (.cells #[.int .i64 0, .string ⟨#[97]⟩, .int .i64 3] 76)).heap.size) := Lib.hid (World.size_alloc _ _).symm
  rw [HS2.out]
  generalize w2.alloc (.cells #[.int .i64 0, .string ⟨#[97]⟩, .int .i64 3] 76) = W2 at F F2 HS2 ⊢
  have HC := Lib.hid (HB2.out.nxt F2.out)
  clear HB2 F2 HS2 HE HD HTb
  generalize w2.heap.size = X at F ⊢
  have F3 : Hid (Below W2.heap.size W2 (W2.alloc (.cells #[.int .i64 0, .string ⟨#[97]⟩, .int .i64 3] 76))) := Lib.hid (by go_grown)
  refine (HRt.out _ _ _ (HC.out.nxt F3.out) (reads_blk17 (Blk.new W2 _ _) (by simp))).mono ?_
  rintro e w3 ⟨rfl, hb3⟩
  have HB3 := Lib.hid (HC.out.nxt (F3.out.nxt hb3))
  have HK := Lib.hid (F.out.below (F3.out.nxt hb3) F.out.lt)
  have k1 : w3.cell? ⟨X, 1, none⟩ = some (.string ⟨#[97]⟩) := HK.out.cell 1
  have k2 : w3.cell? ⟨X, 2, none⟩ = some (.int .i64 3) := HK.out.cell 2
  clear hb3 F F3 HC HRt HK
  rw [if_pos rfl]
  have hs2 : ((Trie.sumT t).length : Int) = 32 := by omega
  generalize Trie.sumT t = sm at *
  go_wp2_with fail
  exact HP.out _ HB3.out
end Go.Proofs.YtefcmigbdfeaiaaDoor

namespace Go.Proofs.YtefcmigbdfeaiaaDoor
set_option linter.unusedVariables false
open Go.RowKit Go.Instr
attribute [local go_sem] ba_get ByteArray.mk_append_mk
attribute [local go_sem ↓] Go.wp_at_zero Go.wp_at_succ
def treeF (l : List (Int × List UInt8 × Int)) : Trie.T × Nat := if 8 < l.length then (.nil, 2) else treeW .nil 0 l
theorem treeW_count : ∀ (l : List (Int × List UInt8 × Int)) (t : Trie.T) (k : Nat), Trie.count (treeW t k l).1 ≤ Trie.count t + l.length
  | [], t, k => by simp [treeW]
  | x :: l, t, k => by
    rw [treeW]
    split
    · have h1 := treeW_count l (Trie.put t (Nib.of [UInt8.ofNat k]) (encW x.1 x.2.1 x.2.2).1) (k + 1)
      have h2 := Trie.count_put t (Nib.of [UInt8.ofNat k]) (encW x.1 x.2.1 x.2.2).1
      rw [List.length_cons]; omega
    · simp [Trie.count]
theorem treeF_count (l : List (Int × List UInt8 × Int)) : Trie.count (treeF l).1 ≤ 8 := by
  unfold treeF
  split
  · simp [Trie.count]
  · have := treeW_count l .nil 0
    simp only [Trie.count] at this; omega
set_option maxRecDepth 100000 in
theorem receipt_treeF (l : List (Int × List UInt8 × Int)) (hs : ∀ x ∈ l, x.2.1.length ≤ 9223372036854775807) (w : World) (hT : Tbl w) (A : Option Addr) (c : Nat) (HR : Reads w w.heap.size 3 A l.length (rcells l)) :
    Calls Tryd.prog 77 #[.slice A l.length c] w (TPutEnd w (treeF l).1 (treeF l).2) := by
  by_cases hl : 8 < l.length
  · have HP : Hid (∀ w', Below w.heap.size w w' → TPutEnd w (treeF l).1 (treeF l).2 (.returned (.tuple #[.pointer none, .int .i64 2])) w') := Lib.hid (fun w' hb => by
      unfold treeF
      rw [if_pos hl]
      exact ⟨_, rfl, hb, fun h => (by cases h), fun _ => rfl⟩)
    generalize TPutEnd w (treeF l).1 (treeF l).2 = P at HP ⊢
    have hl1 : (8 : Int) < (l.length : Int) := by omega
    clear hl HR hT hs
    go_enter Tryd.func77, Tryd.ntmps77
    go_wp2_with fail
    exact HP.out _ (Below.refl _ _)
  · have := receipt_tree l (by omega) hs w hT A c HR
    unfold treeF
    rwa [if_neg hl]
set_option maxRecDepth 100000 in
set_option maxHeartbeats 1000000 in
theorem receipt_RootF (l : List (Int × List UInt8 × Int)) (hs : ∀ x ∈ l, x.2.1.length ≤ 9223372036854775807) (w : World) (hT : Tbl w) (A : Option Addr) (c : Nat) (HR : Reads w w.heap.size 3 A l.length (rcells l)) :
    Calls Tryd.prog 45 #[.slice A l.length c] w (RRootEnd w (treeF l)) := by
  have HTr := Lib.hid (receipt_treeF l hs w hT A c HR)
  generalize treeF l = r at *
  obtain ⟨t, cd⟩ := r
  clear HR hT hs
  by_cases hc : cd = 0
  · subst hc
    have HP : Hid (∀ w', Below w.heap.size w w' → RRootEnd w (t, 0) (.returned (.tuple #[.string ⟨(Trie.sumT t).toArray⟩, .int .i64 0])) w') := Lib.hid (fun w' hb => ⟨rfl, hb⟩)
    generalize RRootEnd w (t, 0) = P at HP ⊢
    go_enter Tryd.func45, Tryd.ntmps45
    go_wp2_with fail
    refine HTr.out.mono ?_
    rintro e w1 ⟨v, rfl, hb, hk, _⟩
    have HB := Lib.hid hb
    have HK := Lib.hid (hk (by first | exact trivial | rfl))
    clear hb hk
    go_wp2_with fail
    refine (trie_Root _ _ _ HK.out).mono ?_
    rintro e w2 ⟨rfl, rfl⟩
    go_wp2_with fail
    exact HP.out _ HB.out
  · have HP : Hid (∀ w', Below w.heap.size w w' → RRootEnd w (t, cd) (.returned (.tuple #[.string ⟨#[]⟩, .int .i64 (cd : Int)])) w') := Lib.hid (fun w' hb => ⟨by simp [hc], hb⟩)
    generalize RRootEnd w (t, cd) = P at HP ⊢
    have hc1 : ((cd : Int) != 0) = true := by simp; exact hc
    clear hc
    go_enter Tryd.func45, Tryd.ntmps45
    go_wp2_with fail
    refine HTr.out.mono ?_
    rintro e w1 ⟨v, rfl, hb, _, _⟩
    have HB := Lib.hid hb
    clear hb
    go_wp2_with fail
    exact HP.out _ HB.out
def proveF (l : List (Int × List UInt8 × Int)) (at_ : Int) : List (List UInt8) × Nat :=
  if (treeF l).2 ≠ 0 then ([], (treeF l).2) else if at_ < 0 ∨ 255 < at_ then ([], 1) else proveW (treeF l).1 [UInt8.ofNat at_.toNat]
set_option maxRecDepth 100000 in
set_option maxHeartbeats 1000000 in
theorem receipt_Prove (l : List (Int × List UInt8 × Int)) (hs : ∀ x ∈ l, x.2.1.length ≤ 9223372036854775807) (at_ : Int) (w : World) (hT : Tbl w) (A : Option Addr) (c : Nat) (HR : Reads w w.heap.size 3 A l.length (rcells l)) :
    Calls Tryd.prog 46 #[.slice A l.length c, .int .i64 at_] w (TextsCEnd w (proveF l at_)) := by
  have HTr := Lib.hid (receipt_treeF l hs w hT A c HR)
  have hcn := treeF_count l
  have HX : Hid (proveF l at_ = if (treeF l).2 ≠ 0 then ([], (treeF l).2) else if at_ < 0 ∨ 255 < at_ then ([], 1) else proveW (treeF l).1 [UInt8.ofNat at_.toNat]) := Lib.hid rfl
  have HP : Hid (∀ q (cd : Nat), proveF l at_ = (q, cd) → ∀ A n c w', n = q.length → w'.ownsRow w.heap.size 9 1 (.slice A n c) n (strv q) → Below w.heap.size w w' → TextsCEnd w (proveF l at_) (.returned (.tuple #[.slice A n c, .int .i64 (cd : Int)])) w') := Lib.hid (fun q cd e A n c w' h1 h2 h3 => by rw [e]; exact ⟨A, n, c, rfl, h1, h2, h3⟩)
  generalize TextsCEnd w (proveF l at_) = P at HP ⊢
  generalize treeF l = r at *
  obtain ⟨t, cd⟩ := r
  simp only at hcn HX
  clear HR hT hs
  by_cases hc : cd = 0
  rotate_left
  · have hc1 : ((cd : Int) != 0) = true := by simp; exact hc
    have HE : Hid (proveF l at_ = ([], cd)) := Lib.hid (by rw [HX.out, if_pos hc])
    clear hc HX
    go_enter Tryd.func46, Tryd.ntmps46
    go_wp2_with fail
    refine HTr.out.mono ?_
    rintro e w1 ⟨v, rfl, hb, _, _⟩
    have HB := Lib.hid hb
    clear hb
    go_wp2_with fail
    exact HP.out [] cd HE.out none 0 0 w1 rfl (World.ownsRow_nil _ _ _ _) HB.out
  subst hc
  by_cases hat : at_ < 0 ∨ 255 < at_
  · have HE : Hid (proveF l at_ = ([], 1)) := Lib.hid (by rw [HX.out, if_neg (by simp), if_pos hat])
    clear HX
    rcases hat with h | h
    · have g1 : (at_ < 0) = True := by simp [h]
      clear h
      go_enter Tryd.func46, Tryd.ntmps46
      go_wp2_with fail
      refine HTr.out.mono ?_
      rintro e w1 ⟨v, rfl, hb, hk, _⟩
      obtain ⟨_, tb, tx, rfl, _⟩ := hk rfl
      have HB := Lib.hid hb
      clear hb hk
      go_wp2_with fail
      exact HP.out [] 1 HE.out none 0 0 w1 rfl (World.ownsRow_nil _ _ _ _) HB.out
    · have g1 : (at_ < 0) = False := by simp; omega
      have g2 : (255 < at_) = True := by simp [h]
      clear h
      go_enter Tryd.func46, Tryd.ntmps46
      go_wp2_with fail
      refine HTr.out.mono ?_
      rintro e w1 ⟨v, rfl, hb, hk, _⟩
      obtain ⟨_, tb, tx, rfl, _⟩ := hk rfl
      have HB := Lib.hid hb
      clear hb hk
      go_wp2_with fail
      exact HP.out [] 1 HE.out none 0 0 w1 rfl (World.ownsRow_nil _ _ _ _) HB.out
  · have g1 : (at_ < 0) = False := by simp; omega
    have g2 : (255 < at_) = False := by simp; omega
    have HE : Hid (proveF l at_ = proveW t [UInt8.ofNat at_.toNat]) := Lib.hid (by rw [HX.out, if_neg (by simp), if_neg hat])
    obtain ⟨k, rfl⟩ := Int.eq_ofNat_of_zero_le (show 0 ≤ at_ by omega)
    simp only [Int.toNat_natCast] at HE
    have HKey := Lib.hid (fun W => receipt_key k (by omega) W)
    clear HX hat
    go_enter Tryd.func46, Tryd.ntmps46
    go_wp2_with fail
    refine HTr.out.mono ?_
    rintro e w1 ⟨v, rfl, hb, hk, _⟩
    have HK := Lib.hid (hk rfl)
    obtain ⟨_, tb, tx, rfl, _⟩ := hk rfl
    have HB := Lib.hid hb
    clear hb hk
    go_wp2_with fail
    refine (HKey.out _).mono ?_
    rintro e w2 ⟨rfl, hb2⟩
    have HB2 := Lib.hid (HB.out.nxt hb2)
    have HPr := Lib.hid (proof_Prove w2 t _ (HK.out.next hb2) (by omega) [UInt8.ofNat k] (by simp))
    obtain ⟨q, qc, hq⟩ : ∃ q qc, proveW t [UInt8.ofNat k] = (q, qc) := ⟨_, _, rfl⟩
    rw [hq] at HPr HE
    clear hb2 hq
    go_wp2_with fail
    refine HPr.out.mono ?_
    rintro e w3 ⟨A3, n3, c3, rfl, hn3, own3, hb3⟩
    have HO := Lib.hid (And.intro hn3 (own_lower own3 HB2.out.size))
    have HB3 := Lib.hid (HB2.out.nxt hb3)
    clear own3 hb3 hn3
    go_wp2_with fail
    exact HP.out q qc HE.out A3 n3 c3 w3 HO.out.1 HO.out.2 HB3.out
theorem stepW_short {n : Nd} {l : List UInt8} (hv : n.2.2.1.length ≤ 32) : (stepW n l).2.length ≤ 32 + l.length ∧ ((stepW n l).1 ≠ [] → (stepW n l).2.length ≤ l.length) := by
  unfold stepW
  split
  · simp
  · split
    · simp; omega
    · split
      · simp
      · split
        · exact ⟨by simp only; omega, fun h => absurd rfl h⟩
        · split
          · simp
          · simp; omega
theorem followW_short : ∀ (r : List (List UInt8)) (s l : List UInt8) (k : Nat), (followW s l r k).1.length ≤ 32 + l.length
  | [], _, _, _ => by simp [followW]
  | x :: r, s, l, k => by
    rw [followW_cons]
    split
    · simp
    · rename_i h
      simp only [not_or, ne_eq, Decidable.not_not] at h
      obtain ⟨h1, h2, _⟩ := decN_ok (s := x) (n := (decN x).1) (by rw [← h.2])
      obtain ⟨_, _, _, hv, _⟩ := fineN_parts h2
      obtain ⟨a, b⟩ := stepW_short (n := (decN x).1) (l := l) hv
      split
      · exact a
      · rename_i hne
        have := followW_short r (stepW (decN x).1 l).1 (stepW (decN x).1 l).2 (k + 1)
        have := b hne
        omega
theorem verifyW_short (root key : List UInt8) (nodes : List (List UInt8)) (hk : key.length ≤ 100) : (verifyW root key nodes).1.length ≤ 1000 := by
  unfold verifyW
  split
  · simp
  · split
    · split <;> simp
    · split
      · have := followW_short nodes root (Nib.of key) 0
        rw [Nib.of_length] at this
        simp only; omega
      · simp
def verifyF (root : List UInt8) (at_ : Int) (nodes : List (List UInt8)) : (Nat × List UInt8 × Nat) × Bool × Nat :=
  if at_ < 0 ∨ 255 < at_ then ((0, [], 0), false, 1)
  else if (verifyW root [UInt8.ofNat at_.toNat] nodes).2.2 ≠ 0 ∨ (verifyW root [UInt8.ofNat at_.toNat] nodes).2.1 = false then ((0, [], 0), false, (verifyW root [UInt8.ofNat at_.toNat] nodes).2.2)
  else if (decW (verifyW root [UInt8.ofNat at_.toNat] nodes).1).2 ≠ 0 then ((0, [], 0), false, (decW (verifyW root [UInt8.ofNat at_.toNat] nodes).1).2)
  else ((decW (verifyW root [UInt8.ofNat at_.toNat] nodes).1).1, true, 0)
def RVerEnd (w : World) (r : (Nat × List UInt8 × Nat) × Bool × Nat) (e : Ending) (w' : World) : Prop := e = .returned (.tuple #[rcV (r.1.1 : Int) r.1.2.1 (r.1.2.2 : Int), .bool r.2.1, .int .i64 (r.2.2 : Int)]) ∧ Below w.heap.size w w'
set_option maxRecDepth 100000 in
set_option maxHeartbeats 4000000 in
theorem receipt_Verify (root : List UInt8) (at_ : Int) (w : World) (hT : Tbl w) (nodes : List (List UInt8)) (A : Option Addr) (c : Nat) (HRd : Reads w w.heap.size 1 A nodes.length (strv nodes)) (hn : nodes.length ≤ 100000) (hs : ∀ x ∈ nodes, x.length ≤ 999999) :
    Calls Tryd.prog 47 #[.string ⟨root.toArray⟩, .int .i64 at_, .slice A nodes.length c] w (RVerEnd w (verifyF root at_ nodes)) := by
  have HP : Hid (∀ (x : Nat × List UInt8 × Nat) b (cd : Nat) w', verifyF root at_ nodes = (x, b, cd) → Below w.heap.size w w' → RVerEnd w (verifyF root at_ nodes) (.returned (.tuple #[.agg #[.int .i64 (x.1 : Int), .string ⟨x.2.1.toArray⟩, .int .i64 (x.2.2 : Int)], .bool b, .int .i64 (cd : Int)])) w') := Lib.hid (fun x b cd w' e h => by rw [e]; exact ⟨rfl, h⟩)
  generalize hPd : RVerEnd w (verifyF root at_ nodes) = P at HP ⊢
  clear hPd
  have b0 : Hid (Blk (w.alloc (.cells #[.int .i64 0, .string ⟨#[]⟩, .int .i64 0] 76)) w.heap.size 76 #[.int .i64 0, .string ⟨#[]⟩, .int .i64 0] ∧ Below w.heap.size w (w.alloc (.cells #[.int .i64 0, .string ⟨#[]⟩, .int .i64 0] 76))) := Lib.hid ⟨Blk.new w _ _, by go_grown⟩
  by_cases hat : at_ < 0 ∨ 255 < at_
  · have HZ : Hid (verifyF root at_ nodes = ((0, [], 0), false, 1)) := Lib.hid (by unfold verifyF; rw [if_pos hat])
    clear HRd hT hn hs
    rcases hat with h | h
    · have g1 : (at_ < 0) = True := by simp [h]
      clear h
      go_enter Tryd.func47, Tryd.ntmps47
      go_upto_region 1 with fail
      generalize w.alloc (.cells #[.int .i64 0, .string ⟨#[]⟩, .int .i64 0] 76) = W0 at b0 ⊢
      have HR := b0
      have r0 : W0.cell? ⟨w.heap.size, 0, none⟩ = some (.int .i64 0) := HR.out.1.cell 0
      have r1 : W0.cell? ⟨w.heap.size, 1, none⟩ = some (.string ⟨#[]⟩) := HR.out.1.cell 1
      have r2 : W0.cell? ⟨w.heap.size, 2, none⟩ = some (.int .i64 0) := HR.out.1.cell 2
      have f0 : W0.frozen? ⟨w.heap.size, 0, none⟩ = false := HR.out.1.frozen 0
      have f1 : W0.frozen? ⟨w.heap.size, 1, none⟩ = false := HR.out.1.frozen 1
      have f2 : W0.frozen? ⟨w.heap.size, 2, none⟩ = false := HR.out.1.frozen 2
      go_wp2
      have HW9 : Hid (Blk (((W0.setCell ⟨w.heap.size, 0, none⟩ (.int .i64 0)).setCell ⟨w.heap.size, 1, none⟩ (.string ⟨#[]⟩)).setCell ⟨w.heap.size, 2, none⟩ (.int .i64 0)) w.heap.size 76 #[.int .i64 0, .string ⟨#[]⟩, .int .i64 0] ∧ Below w.heap.size w (((W0.setCell ⟨w.heap.size, 0, none⟩ (.int .i64 0)).setCell ⟨w.heap.size, 1, none⟩ (.string ⟨#[]⟩)).setCell ⟨w.heap.size, 2, none⟩ (.int .i64 0))) := Lib.hid
        ⟨((HR.out.1.set_ 0 (.int .i64 0)).set_ 1 (.string ⟨#[]⟩)).set_ 2 (.int .i64 0), ((HR.out.2.setCell (p := ⟨w.heap.size, 0, none⟩) (Nat.le_refl _) _).setCell (p := ⟨w.heap.size, 1, none⟩) (Nat.le_refl _) _).setCell (p := ⟨w.heap.size, 2, none⟩) (Nat.le_refl _) _⟩
      generalize ((W0.setCell ⟨w.heap.size, 0, none⟩ (.int .i64 0)).setCell ⟨w.heap.size, 1, none⟩ (.string ⟨#[]⟩)).setCell ⟨w.heap.size, 2, none⟩ (.int .i64 0) = W9 at HW9 ⊢
      have s0 : W9.cell? ⟨w.heap.size, 0, none⟩ = some (.int .i64 0) := HW9.out.1.cell 0
      have s1 : W9.cell? ⟨w.heap.size, 1, none⟩ = some (.string ⟨#[]⟩) := HW9.out.1.cell 1
      have s2 : W9.cell? ⟨w.heap.size, 2, none⟩ = some (.int .i64 0) := HW9.out.1.cell 2
      (try simp only [Exit.inBlock, Exit.then])
      refine bodyPost_ret (v := .tuple #[.agg #[.int .i64 0, .string ⟨#[]⟩, .int .i64 0], .bool false, .int .i64 1]) (by simp [results, Tryd.results47, go_sem, s0, s1, s2]) rfl ?_
      exact HP.out _ _ _ _ HZ.out HW9.out.2
    · have g1 : (at_ < 0) = False := by simp; omega
      have g2 : (255 < at_) = True := by simp [h]
      clear h
      go_enter Tryd.func47, Tryd.ntmps47
      go_upto_region 1 with fail
      generalize w.alloc (.cells #[.int .i64 0, .string ⟨#[]⟩, .int .i64 0] 76) = W0 at b0 ⊢
      have HR := b0
      have r0 : W0.cell? ⟨w.heap.size, 0, none⟩ = some (.int .i64 0) := HR.out.1.cell 0
      have r1 : W0.cell? ⟨w.heap.size, 1, none⟩ = some (.string ⟨#[]⟩) := HR.out.1.cell 1
      have r2 : W0.cell? ⟨w.heap.size, 2, none⟩ = some (.int .i64 0) := HR.out.1.cell 2
      have f0 : W0.frozen? ⟨w.heap.size, 0, none⟩ = false := HR.out.1.frozen 0
      have f1 : W0.frozen? ⟨w.heap.size, 1, none⟩ = false := HR.out.1.frozen 1
      have f2 : W0.frozen? ⟨w.heap.size, 2, none⟩ = false := HR.out.1.frozen 2
      go_wp2
      have HW9 : Hid (Blk (((W0.setCell ⟨w.heap.size, 0, none⟩ (.int .i64 0)).setCell ⟨w.heap.size, 1, none⟩ (.string ⟨#[]⟩)).setCell ⟨w.heap.size, 2, none⟩ (.int .i64 0)) w.heap.size 76 #[.int .i64 0, .string ⟨#[]⟩, .int .i64 0] ∧ Below w.heap.size w (((W0.setCell ⟨w.heap.size, 0, none⟩ (.int .i64 0)).setCell ⟨w.heap.size, 1, none⟩ (.string ⟨#[]⟩)).setCell ⟨w.heap.size, 2, none⟩ (.int .i64 0))) := Lib.hid
        ⟨((HR.out.1.set_ 0 (.int .i64 0)).set_ 1 (.string ⟨#[]⟩)).set_ 2 (.int .i64 0), ((HR.out.2.setCell (p := ⟨w.heap.size, 0, none⟩) (Nat.le_refl _) _).setCell (p := ⟨w.heap.size, 1, none⟩) (Nat.le_refl _) _).setCell (p := ⟨w.heap.size, 2, none⟩) (Nat.le_refl _) _⟩
      generalize ((W0.setCell ⟨w.heap.size, 0, none⟩ (.int .i64 0)).setCell ⟨w.heap.size, 1, none⟩ (.string ⟨#[]⟩)).setCell ⟨w.heap.size, 2, none⟩ (.int .i64 0) = W9 at HW9 ⊢
      have s0 : W9.cell? ⟨w.heap.size, 0, none⟩ = some (.int .i64 0) := HW9.out.1.cell 0
      have s1 : W9.cell? ⟨w.heap.size, 1, none⟩ = some (.string ⟨#[]⟩) := HW9.out.1.cell 1
      have s2 : W9.cell? ⟨w.heap.size, 2, none⟩ = some (.int .i64 0) := HW9.out.1.cell 2
      (try simp only [Exit.inBlock, Exit.then])
      refine bodyPost_ret (v := .tuple #[.agg #[.int .i64 0, .string ⟨#[]⟩, .int .i64 0], .bool false, .int .i64 1]) (by simp [results, Tryd.results47, go_sem, s0, s1, s2]) rfl ?_
      exact HP.out _ _ _ _ HZ.out HW9.out.2
  have g1 : (at_ < 0) = False := by simp; omega
  have g2 : (255 < at_) = False := by simp; omega
  have HX : Hid (verifyF root at_ nodes = if (verifyW root [UInt8.ofNat at_.toNat] nodes).2.2 ≠ 0 ∨ (verifyW root [UInt8.ofNat at_.toNat] nodes).2.1 = false then ((0, [], 0), false, (verifyW root [UInt8.ofNat at_.toNat] nodes).2.2)
  else if (decW (verifyW root [UInt8.ofNat at_.toNat] nodes).1).2 ≠ 0 then ((0, [], 0), false, (decW (verifyW root [UInt8.ofNat at_.toNat] nodes).1).2)
  else ((decW (verifyW root [UInt8.ofNat at_.toNat] nodes).1).1, true, 0)) := Lib.hid (by rw [verifyF, if_neg hat])
  obtain ⟨k, rfl⟩ := Int.eq_ofNat_of_zero_le (show 0 ≤ at_ by omega)
  simp only [Int.toNat_natCast] at HX
  have HKey := Lib.hid (fun W => receipt_key k (by omega) W)
  have HV := Lib.hid (fun W (hW : Below w.heap.size w W) => proof_Verify W root [UInt8.ofNat k] (by simp) nodes A c ((HRd.below hW).more hW.size) hn hs (hT.next hW))
  have HSh := verifyW_short root [UInt8.ofNat k] nodes (by simp)
  generalize verifyW root [UInt8.ofNat k] nodes = r at *
  obtain ⟨v, th, cd⟩ := r
  simp only at HSh HX
  have HDc := Lib.hid (fun W => receipt_Decode v (by omega) W)
  generalize decW v = d at *
  obtain ⟨⟨n, t, q⟩, dc⟩ := d
  simp only at HX
  clear HRd hT hn hs hat HSh
  go_enter Tryd.func47, Tryd.ntmps47
  go_upto_region 1 with fail
  generalize w.alloc (.cells #[.int .i64 0, .string ⟨#[]⟩, .int .i64 0] 76) = W0 at b0 ⊢
  go_wp2_with fail
  refine (HKey.out _).mono ?_
  rintro e w2 ⟨rfl, hb2⟩
  have B2 : Hid (Blk w2 w.heap.size 76 #[.int .i64 0, .string ⟨#[]⟩, .int .i64 0] ∧ Below w.heap.size w w2) := Lib.hid ⟨b0.out.1.below hb2 b0.out.1.lt, b0.out.2.nxt hb2⟩
  clear hb2 b0
  go_wp2_with fail
  refine (HV.out _ B2.out.2).mono ?_
  rintro e w3 ⟨rfl, hb3⟩
  have HR : Hid (Blk w3 w.heap.size 76 #[.int .i64 0, .string ⟨#[]⟩, .int .i64 0] ∧ Below w.heap.size w w3) := Lib.hid ⟨B2.out.1.below hb3 B2.out.1.lt, B2.out.2.nxt hb3⟩
  clear hb3 B2
  simp only
  by_cases hcd : cd = 0
  rotate_left
  · have HZ : Hid (verifyF root (k : Int) nodes = ((0, [], 0), false, cd)) := Lib.hid (by rw [HX.out, if_pos (.inl hcd)])
    have hc1 : ((cd : Int) != 0) = true := by simp; exact hcd
    clear hcd HX
    have r0 : w3.cell? ⟨w.heap.size, 0, none⟩ = some (.int .i64 0) := HR.out.1.cell 0
    have r1 : w3.cell? ⟨w.heap.size, 1, none⟩ = some (.string ⟨#[]⟩) := HR.out.1.cell 1
    have r2 : w3.cell? ⟨w.heap.size, 2, none⟩ = some (.int .i64 0) := HR.out.1.cell 2
    have f0 : w3.frozen? ⟨w.heap.size, 0, none⟩ = false := HR.out.1.frozen 0
    have f1 : w3.frozen? ⟨w.heap.size, 1, none⟩ = false := HR.out.1.frozen 1
    have f2 : w3.frozen? ⟨w.heap.size, 2, none⟩ = false := HR.out.1.frozen 2
    go_wp2
    have HW9 : Hid (Blk (((w3.setCell ⟨w.heap.size, 0, none⟩ (.int .i64 0)).setCell ⟨w.heap.size, 1, none⟩ (.string ⟨#[]⟩)).setCell ⟨w.heap.size, 2, none⟩ (.int .i64 0)) w.heap.size 76 #[.int .i64 0, .string ⟨#[]⟩, .int .i64 0] ∧ Below w.heap.size w (((w3.setCell ⟨w.heap.size, 0, none⟩ (.int .i64 0)).setCell ⟨w.heap.size, 1, none⟩ (.string ⟨#[]⟩)).setCell ⟨w.heap.size, 2, none⟩ (.int .i64 0))) := Lib.hid
      ⟨((HR.out.1.set_ 0 (.int .i64 0)).set_ 1 (.string ⟨#[]⟩)).set_ 2 (.int .i64 0), ((HR.out.2.setCell (p := ⟨w.heap.size, 0, none⟩) (Nat.le_refl _) _).setCell (p := ⟨w.heap.size, 1, none⟩) (Nat.le_refl _) _).setCell (p := ⟨w.heap.size, 2, none⟩) (Nat.le_refl _) _⟩
    generalize ((w3.setCell ⟨w.heap.size, 0, none⟩ (.int .i64 0)).setCell ⟨w.heap.size, 1, none⟩ (.string ⟨#[]⟩)).setCell ⟨w.heap.size, 2, none⟩ (.int .i64 0) = W9 at HW9 ⊢
    have s0 : W9.cell? ⟨w.heap.size, 0, none⟩ = some (.int .i64 0) := HW9.out.1.cell 0
    have s1 : W9.cell? ⟨w.heap.size, 1, none⟩ = some (.string ⟨#[]⟩) := HW9.out.1.cell 1
    have s2 : W9.cell? ⟨w.heap.size, 2, none⟩ = some (.int .i64 0) := HW9.out.1.cell 2
    (try simp only [Exit.inBlock, Exit.then])
    refine bodyPost_ret (v := .tuple #[.agg #[.int .i64 0, .string ⟨#[]⟩, .int .i64 0], .bool false, .int .i64 (cd : Int)]) (by simp [results, Tryd.results47, go_sem, s0, s1, s2]) rfl ?_
    exact HP.out _ _ _ _ HZ.out HW9.out.2
  subst hcd
  cases th with
  | false =>
    have HZ : Hid (verifyF root (k : Int) nodes = ((0, [], 0), false, 0)) := Lib.hid (by rw [HX.out, if_pos (.inr rfl)])
    clear HX
    have r0 : w3.cell? ⟨w.heap.size, 0, none⟩ = some (.int .i64 0) := HR.out.1.cell 0
    have r1 : w3.cell? ⟨w.heap.size, 1, none⟩ = some (.string ⟨#[]⟩) := HR.out.1.cell 1
    have r2 : w3.cell? ⟨w.heap.size, 2, none⟩ = some (.int .i64 0) := HR.out.1.cell 2
    have f0 : w3.frozen? ⟨w.heap.size, 0, none⟩ = false := HR.out.1.frozen 0
    have f1 : w3.frozen? ⟨w.heap.size, 1, none⟩ = false := HR.out.1.frozen 1
    have f2 : w3.frozen? ⟨w.heap.size, 2, none⟩ = false := HR.out.1.frozen 2
    go_wp2
    have HW9 : Hid (Blk (((w3.setCell ⟨w.heap.size, 0, none⟩ (.int .i64 0)).setCell ⟨w.heap.size, 1, none⟩ (.string ⟨#[]⟩)).setCell ⟨w.heap.size, 2, none⟩ (.int .i64 0)) w.heap.size 76 #[.int .i64 0, .string ⟨#[]⟩, .int .i64 0] ∧ Below w.heap.size w (((w3.setCell ⟨w.heap.size, 0, none⟩ (.int .i64 0)).setCell ⟨w.heap.size, 1, none⟩ (.string ⟨#[]⟩)).setCell ⟨w.heap.size, 2, none⟩ (.int .i64 0))) := Lib.hid
      ⟨((HR.out.1.set_ 0 (.int .i64 0)).set_ 1 (.string ⟨#[]⟩)).set_ 2 (.int .i64 0), ((HR.out.2.setCell (p := ⟨w.heap.size, 0, none⟩) (Nat.le_refl _) _).setCell (p := ⟨w.heap.size, 1, none⟩) (Nat.le_refl _) _).setCell (p := ⟨w.heap.size, 2, none⟩) (Nat.le_refl _) _⟩
    generalize ((w3.setCell ⟨w.heap.size, 0, none⟩ (.int .i64 0)).setCell ⟨w.heap.size, 1, none⟩ (.string ⟨#[]⟩)).setCell ⟨w.heap.size, 2, none⟩ (.int .i64 0) = W9 at HW9 ⊢
    have s0 : W9.cell? ⟨w.heap.size, 0, none⟩ = some (.int .i64 0) := HW9.out.1.cell 0
    have s1 : W9.cell? ⟨w.heap.size, 1, none⟩ = some (.string ⟨#[]⟩) := HW9.out.1.cell 1
    have s2 : W9.cell? ⟨w.heap.size, 2, none⟩ = some (.int .i64 0) := HW9.out.1.cell 2
    (try simp only [Exit.inBlock, Exit.then])
    refine bodyPost_ret (v := .tuple #[.agg #[.int .i64 0, .string ⟨#[]⟩, .int .i64 0], .bool false, .int .i64 0]) (by simp [results, Tryd.results47, go_sem, s0, s1, s2]) rfl ?_
    exact HP.out _ _ _ _ HZ.out HW9.out.2
  | true =>
  go_wp2_with fail
  refine (HDc.out _).mono ?_
  rintro e w4 ⟨rfl, hb4⟩
  have HR4 : Hid (Blk w4 w.heap.size 76 #[.int .i64 0, .string ⟨#[]⟩, .int .i64 0] ∧ Below w.heap.size w w4) := Lib.hid ⟨HR.out.1.below hb4 HR.out.1.lt, HR.out.2.nxt hb4⟩
  clear hb4 HR
  unfold rcV
  simp only
  have f0 : w4.frozen? ⟨w.heap.size, 0, none⟩ = false := HR4.out.1.frozen 0
  have f1 : w4.frozen? ⟨w.heap.size, 1, none⟩ = false := HR4.out.1.frozen 1
  have f2 : w4.frozen? ⟨w.heap.size, 2, none⟩ = false := HR4.out.1.frozen 2
  have r0 : w4.cell? ⟨w.heap.size, 0, none⟩ = some (.int .i64 0) := HR4.out.1.cell 0
  have r1 : w4.cell? ⟨w.heap.size, 1, none⟩ = some (.string ⟨#[]⟩) := HR4.out.1.cell 1
  have r2 : w4.cell? ⟨w.heap.size, 2, none⟩ = some (.int .i64 0) := HR4.out.1.cell 2
  go_upto_region 7 with fail
  have HR : Hid (Blk (((w4.setCell ⟨w.heap.size, 0, none⟩ (.int .i64 (n : Int))).setCell ⟨w.heap.size, 1, none⟩ (.string ⟨t.toArray⟩)).setCell ⟨w.heap.size, 2, none⟩ (.int .i64 (q : Int))) w.heap.size 76 #[.int .i64 (n : Int), .string ⟨t.toArray⟩, .int .i64 (q : Int)] ∧ Below w.heap.size w (((w4.setCell ⟨w.heap.size, 0, none⟩ (.int .i64 (n : Int))).setCell ⟨w.heap.size, 1, none⟩ (.string ⟨t.toArray⟩)).setCell ⟨w.heap.size, 2, none⟩ (.int .i64 (q : Int)))) := Lib.hid
    ⟨((HR4.out.1.set_ 0 (.int .i64 (n : Int))).set_ 1 (.string ⟨t.toArray⟩)).set_ 2 (.int .i64 (q : Int)), ((HR4.out.2.setCell (p := ⟨w.heap.size, 0, none⟩) (Nat.le_refl _) _).setCell (p := ⟨w.heap.size, 1, none⟩) (Nat.le_refl _) _).setCell (p := ⟨w.heap.size, 2, none⟩) (Nat.le_refl _) _⟩
  generalize ((w4.setCell ⟨w.heap.size, 0, none⟩ (.int .i64 (n : Int))).setCell ⟨w.heap.size, 1, none⟩ (.string ⟨t.toArray⟩)).setCell ⟨w.heap.size, 2, none⟩ (.int .i64 (q : Int)) = W7 at HR ⊢
  clear f0 f1 f2 r0 r1 r2 HR4
  by_cases hdc : dc = 0
  rotate_left
  · have HZ : Hid (verifyF root (k : Int) nodes = ((0, [], 0), false, dc)) := Lib.hid (by rw [HX.out, if_neg (by simp), if_pos hdc])
    have hc1 : ((dc : Int) != 0) = true := by simp; exact hdc
    clear hdc HX
    have r0 : W7.cell? ⟨w.heap.size, 0, none⟩ = some (.int .i64 (n : Int)) := HR.out.1.cell 0
    have r1 : W7.cell? ⟨w.heap.size, 1, none⟩ = some (.string ⟨t.toArray⟩) := HR.out.1.cell 1
    have r2 : W7.cell? ⟨w.heap.size, 2, none⟩ = some (.int .i64 (q : Int)) := HR.out.1.cell 2
    have f0 : W7.frozen? ⟨w.heap.size, 0, none⟩ = false := HR.out.1.frozen 0
    have f1 : W7.frozen? ⟨w.heap.size, 1, none⟩ = false := HR.out.1.frozen 1
    have f2 : W7.frozen? ⟨w.heap.size, 2, none⟩ = false := HR.out.1.frozen 2
    go_wp2
    have HW9 : Hid (Blk (((W7.setCell ⟨w.heap.size, 0, none⟩ (.int .i64 0)).setCell ⟨w.heap.size, 1, none⟩ (.string ⟨#[]⟩)).setCell ⟨w.heap.size, 2, none⟩ (.int .i64 0)) w.heap.size 76 #[.int .i64 0, .string ⟨#[]⟩, .int .i64 0] ∧ Below w.heap.size w (((W7.setCell ⟨w.heap.size, 0, none⟩ (.int .i64 0)).setCell ⟨w.heap.size, 1, none⟩ (.string ⟨#[]⟩)).setCell ⟨w.heap.size, 2, none⟩ (.int .i64 0))) := Lib.hid
      ⟨((HR.out.1.set_ 0 (.int .i64 0)).set_ 1 (.string ⟨#[]⟩)).set_ 2 (.int .i64 0), ((HR.out.2.setCell (p := ⟨w.heap.size, 0, none⟩) (Nat.le_refl _) _).setCell (p := ⟨w.heap.size, 1, none⟩) (Nat.le_refl _) _).setCell (p := ⟨w.heap.size, 2, none⟩) (Nat.le_refl _) _⟩
    generalize ((W7.setCell ⟨w.heap.size, 0, none⟩ (.int .i64 0)).setCell ⟨w.heap.size, 1, none⟩ (.string ⟨#[]⟩)).setCell ⟨w.heap.size, 2, none⟩ (.int .i64 0) = W9 at HW9 ⊢
    have s0 : W9.cell? ⟨w.heap.size, 0, none⟩ = some (.int .i64 0) := HW9.out.1.cell 0
    have s1 : W9.cell? ⟨w.heap.size, 1, none⟩ = some (.string ⟨#[]⟩) := HW9.out.1.cell 1
    have s2 : W9.cell? ⟨w.heap.size, 2, none⟩ = some (.int .i64 0) := HW9.out.1.cell 2
    (try simp only [Exit.inBlock, Exit.then])
    refine bodyPost_ret (v := .tuple #[.agg #[.int .i64 0, .string ⟨#[]⟩, .int .i64 0], .bool false, .int .i64 (dc : Int)]) (by simp [results, Tryd.results47, go_sem, s0, s1, s2]) rfl ?_
    exact HP.out _ _ _ _ HZ.out HW9.out.2
  subst hdc
  have HZ : Hid (verifyF root (k : Int) nodes = ((n, t, q), true, 0)) := Lib.hid (by rw [HX.out, if_neg (by simp), if_neg (by simp)])
  clear HX
  have r0 : W7.cell? ⟨w.heap.size, 0, none⟩ = some (.int .i64 (n : Int)) := HR.out.1.cell 0
  have r1 : W7.cell? ⟨w.heap.size, 1, none⟩ = some (.string ⟨t.toArray⟩) := HR.out.1.cell 1
  have r2 : W7.cell? ⟨w.heap.size, 2, none⟩ = some (.int .i64 (q : Int)) := HR.out.1.cell 2
  have f0 : W7.frozen? ⟨w.heap.size, 0, none⟩ = false := HR.out.1.frozen 0
  have f1 : W7.frozen? ⟨w.heap.size, 1, none⟩ = false := HR.out.1.frozen 1
  have f2 : W7.frozen? ⟨w.heap.size, 2, none⟩ = false := HR.out.1.frozen 2
  go_wp2
  have HW9 : Hid (Blk (((W7.setCell ⟨w.heap.size, 0, none⟩ (.int .i64 (n : Int))).setCell ⟨w.heap.size, 1, none⟩ (.string ⟨t.toArray⟩)).setCell ⟨w.heap.size, 2, none⟩ (.int .i64 (q : Int))) w.heap.size 76 #[.int .i64 (n : Int), .string ⟨t.toArray⟩, .int .i64 (q : Int)] ∧ Below w.heap.size w (((W7.setCell ⟨w.heap.size, 0, none⟩ (.int .i64 (n : Int))).setCell ⟨w.heap.size, 1, none⟩ (.string ⟨t.toArray⟩)).setCell ⟨w.heap.size, 2, none⟩ (.int .i64 (q : Int)))) := Lib.hid
    ⟨((HR.out.1.set_ 0 (.int .i64 (n : Int))).set_ 1 (.string ⟨t.toArray⟩)).set_ 2 (.int .i64 (q : Int)), ((HR.out.2.setCell (p := ⟨w.heap.size, 0, none⟩) (Nat.le_refl _) _).setCell (p := ⟨w.heap.size, 1, none⟩) (Nat.le_refl _) _).setCell (p := ⟨w.heap.size, 2, none⟩) (Nat.le_refl _) _⟩
  generalize ((W7.setCell ⟨w.heap.size, 0, none⟩ (.int .i64 (n : Int))).setCell ⟨w.heap.size, 1, none⟩ (.string ⟨t.toArray⟩)).setCell ⟨w.heap.size, 2, none⟩ (.int .i64 (q : Int)) = W9 at HW9 ⊢
  have s0 : W9.cell? ⟨w.heap.size, 0, none⟩ = some (.int .i64 (n : Int)) := HW9.out.1.cell 0
  have s1 : W9.cell? ⟨w.heap.size, 1, none⟩ = some (.string ⟨t.toArray⟩) := HW9.out.1.cell 1
  have s2 : W9.cell? ⟨w.heap.size, 2, none⟩ = some (.int .i64 (q : Int)) := HW9.out.1.cell 2
  (try simp only [Exit.inBlock, Exit.then])
  refine bodyPost_ret (v := .tuple #[.agg #[.int .i64 (n : Int), .string ⟨t.toArray⟩, .int .i64 (q : Int)], .bool true, .int .i64 0]) (by simp [results, Tryd.results47, go_sem, s0, s1, s2]) rfl ?_
  exact HP.out _ _ _ _ HZ.out HW9.out.2
end Go.Proofs.YtefcmigbdfeaiaaDoor

namespace Go.Proofs.YtefcmigbdfeaiaaDoor
set_option linter.unusedVariables false
theorem decW_encW {c q : Int} {f : List UInt8} (h : rcOk c f q) : decW (encW c f q).1 = ((c.toNat, f, q.toNat), 0) := by
  obtain ⟨h1, h2, h3, h4, h5, h6⟩ := id h
  have b1 := numT_of c.toNat (by omega) (textW f ++ numW q.toNat)
  have b2 := txtT_of f (numW q.toNat) 6 (by omega) (by omega)
  have b3 := numT_of q.toNat (by omega) []
  rw [List.append_nil] at b3
  have e1 : numS ((encW c f q).1, 0) = (c.toNat, (textW f ++ numW q.toNat, 0)) := by
    rw [encW, if_pos h]
    simp only [List.append_assoc]
    simp [numS, b1]
  have e2 : txtS (textW f ++ numW q.toNat, 0) 6 = (f, (numW q.toNat, 0)) := by simp [txtS, b2]
  have e3 : numS (numW q.toNat, 0) = (q.toNat, ([], 0)) := by simp [numS, b3]
  rw [decW_of e1 e2 e3, if_neg]
  rintro (h0 | h0 | h0)
  · exact h0 (by simp [endS])
  · omega
  · apply h0
    rw [Int.toNat_of_nonneg h1, Int.toNat_of_nonneg h5]
    exact h
end Go.Proofs.YtefcmigbdfeaiaaDoor
