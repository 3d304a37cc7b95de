import Derived.Test.YtaplecncnkkigaaDoorJ30
/- The document's lists of items (package pharosref10): Get, Put, Del, walked. No conditions. -/
namespace Go.Proofs.YtaplecncnkkigaaDoor
set_option linter.unusedVariables false
open Go.RowKit Go.Instr
attribute [local go_sem] ba_get ByteArray.mk_append_mk

theorem icells_take : ∀ (l : List Trie.KV) (i : Nat), icells (l.take i) = (icells l).take (i * 2)
  | [], i => by simp [icells]
  | x :: l, 0 => by simp [icells]
  | x :: l, i + 1 => by
    rw [List.take_succ_cons, show icells (x :: l.take i) = .string ⟨x.1.toArray⟩ :: .string ⟨x.2.toArray⟩ :: icells (l.take i) from rfl, show icells (x :: l) = .string ⟨x.1.toArray⟩ :: .string ⟨x.2.toArray⟩ :: icells l from rfl, icells_take l i, show (i + 1) * 2 = i * 2 + 1 + 1 by omega, List.take_succ_cons, List.take_succ_cons]
theorem icells_drop : ∀ (l : List Trie.KV) (i : Nat), icells (l.drop i) = (icells l).drop (i * 2)
  | [], i => by simp [icells]
  | x :: l, 0 => by simp
  | x :: l, i + 1 => by
    rw [List.drop_succ_cons, show icells (x :: l) = .string ⟨x.1.toArray⟩ :: .string ⟨x.2.toArray⟩ :: icells l from rfl, icells_drop l i, show (i + 1) * 2 = i * 2 + 1 + 1 by omega, List.drop_succ_cons, List.drop_succ_cons]
theorem icells_append (a b : List Trie.KV) : icells (a ++ b) = icells a ++ icells b := by simp [icells]
theorem icells_one (l : List Trie.KV) : ∀ u ∈ icells l, u.oneCell' = true := by
  intro u hu
  simp only [icells, List.mem_flatMap] at hu
  obtain ⟨x, _, hu⟩ := hu
  simp at hu
  rcases hu with rfl | rfl <;> rfl
theorem it_size (w : World) : (sizeOf 26).run Tryd.prog w = .ok 2 w := by
  go_simp
  try rfl
theorem it_elem : Program.elem Tryd.prog 22 = 26 := by kernel_rfl
theorem it_under : Tryd.prog.underlying 22 = some (.slice (Tryd.prog.elem 22)) := by rw [it_elem]; exact Tryd.underlying22
theorem it_cut_to (A : Option Addr) (l : List Trie.KV) (n c i : Nat) (hn : l.length = n) (hi : i ≤ n) (hc : n ≤ c) :
    ∃ A1 c1, (∀ w, (Instr.sliceAt 22 (.slice A n c) none (some (.int .i64 (i : Int))) none).run Tryd.prog w = .ok (.slice A1 i c1) w) ∧ ∀ w B, Reads w B 2 A n (icells l) → Reads w B 2 A1 i (icells (l.take i)) := by
  refine ⟨if c = 0 then A else A.map (·.add (0 * 2)), c - 0, fun w => ?_, fun w B hr => ⟨by rw [icells_length, List.length_take]; omega, fun hp => ?_⟩⟩
  · rw [run_sliceAt_slice _ _ _ _ _ _ it_under, run_slice_h _ _ _ _ _ it_under _ _ (by omega) (by omega)]
    rw [it_elem, it_size w]
    rfl
  · obtain ⟨ad, rfl, hb, hcell⟩ := hr.2 (by omega)
    rw [if_neg (by omega)]
    refine ⟨ad, by simp [Addr.add], hb, fun j u hu => hcell j u ?_⟩
    rw [icells_take] at hu
    have hj : j < i * 2 := by
      have := (List.getElem?_eq_some_iff.1 hu).1
      rw [List.length_take] at this
      omega
    rw [List.getElem?_take_of_lt hj] at hu
    exact hu
theorem it_cut_from (A : Option Addr) (l : List Trie.KV) (n c i : Nat) (hn : l.length = n) (hi : i ≤ n) (hc : n ≤ c) :
    ∃ A1 c1, (∀ w, (Instr.sliceAt 22 (.slice A n c) (some (.int .i64 (i : Int))) none none).run Tryd.prog w = .ok (.slice A1 (n - i) c1) w) ∧ ∀ w B, Reads w B 2 A n (icells l) → Reads w B 2 A1 (n - i) (icells (l.drop i)) := by
  refine ⟨if c = i then A else A.map (·.add (i * 2)), c - i, fun w => ?_, fun w B hr => ?_⟩
  · rw [run_sliceAt_slice _ _ _ _ _ _ it_under, run_slice_l _ _ _ _ _ it_under _ _ (by omega) (by omega)]
    rw [it_elem, it_size w]
    rfl
  · rw [icells_drop]
    exact hr.cut hi hc

set_option maxHeartbeats 1000000 in
theorem ref10_Get (w : World) (A : Option Addr) (c : Nat) (l : List Trie.KV) (HR : Reads w w.heap.size 2 A l.length (icells l)) (hl : l.length ≤ 2000) (key : List UInt8) (hk : key.length ≤ 9223372036854775000) :
    Calls Tryd.prog 67 #[.slice A l.length c, .string ⟨key.toArray⟩] w (TGetEnd w (Trie.rget l key)) := by
  have HP : Hid (∀ r w', Trie.rget l key = r → Below w.heap.size w w' → TGetEnd w (Trie.rget l key) (.returned (.tuple #[.string ⟨r.1.toArray⟩, .int .i64 (r.2 : Int)])) w') := Lib.hid (fun b w' h1 h2 => ⟨by rw [h1], h2⟩)
  generalize TGetEnd w (Trie.rget l key) = P at HP ⊢
  have HKy := Lib.hid (ref10_Keyed key hk w)
  have HA := Lib.hid (ref10_At w A c l HR hl key)
  have hat := Trie.atI_le key l
  have HRR := Lib.hid HR
  clear HR
  cases hkey : Trie.keyedW key with
  | false =>
    have HR : Hid (Trie.rget l key = ([], 1)) := Lib.hid (by simp [Trie.rget, hkey])
    rw [hkey] at HKy
    clear hkey hat
    go_enter Tryd.func67, Tryd.ntmps67
    go_wp2_with (go_at_call 64; refine HKy.out.mono ?_; rintro e w1 ⟨rfl, rfl⟩)
    exact HP.out _ _ HR.out (Below.refl _ _)
  | true =>
    rw [hkey] at HKy
    cases ht : (Trie.atI key l).2 with
    | false =>
      have HR : Hid (Trie.rget l key = ([], 5)) := Lib.hid (by simp [Trie.rget, hkey, ht])
      unfold AtIEnd at HA
      rw [ht] at HA
      clear hkey hat ht
      generalize (Trie.atI key l).1 = i at *
      go_enter Tryd.func67, Tryd.ntmps67
      go_wp2_with (first | (go_at_call 64; refine HKy.out.mono ?_; rintro e w1 ⟨rfl, rfl⟩) | (go_at_call 65; refine HA.out.mono ?_; rintro e w2 ⟨rfl, hb⟩))
      exact HP.out _ _ HR.out hb
    | true =>
      have hi := hat.2 ht
      have HR : Hid (Trie.rget l key = ((l[(Trie.atI key l).1]'hi).2, 0)) := Lib.hid (by simp [Trie.rget, hkey, ht, hi])
      unfold AtIEnd at HA
      rw [ht] at HA
      clear hkey hat ht
      generalize (Trie.atI key l).1 = i at *
      obtain ⟨ad, off, rfl, hbl, hcell⟩ := item_cells HRR.out hi
      have HC := Lib.hid hcell
      have hi1 : (i : Int) < l.length := by omega
      have hi0 : (0 : Int) ≤ i := by omega
      clear hcell
      generalize l[i] = x at *
      go_enter Tryd.func67, Tryd.ntmps67
      go_wp2_with (first | (go_at_call 64; refine HKy.out.mono ?_; rintro e w1 ⟨rfl, rfl⟩) | (go_at_call 65; refine HA.out.mono ?_; rintro e w2 ⟨rfl, hb⟩; obtain ⟨q0, q1⟩ := HC.out _ hb))
      exact HP.out _ _ HR.out hb
end Go.Proofs.YtaplecncnkkigaaDoor

/- The document's lists of items (package pharosref10): Put, Del, walked. No conditions. -/
namespace Go.Proofs.YtaplecncnkkigaaDoor
set_option linter.unusedVariables false
open Go.RowKit Go.Instr
attribute [local go_sem] ba_get ByteArray.mk_append_mk

/-- a list of items, new in memory, and a code -/
def PutIEnd (w : World) (r : List Trie.KV × Nat) (e : Ending) (w' : World) : Prop :=
  ∃ A n c, e = .returned (.tuple #[.slice A n c, .int .i64 (r.2 : Int)]) ∧ n = r.1.length ∧ n ≤ c ∧ w'.ownsRow w.heap.size 26 2 (.slice A n c) n (icells r.1) ∧ Below w.heap.size w w'

set_option maxRecDepth 100000 in
set_option maxHeartbeats 2000000 in
theorem ref10_Put (w : World) (A : Option Addr) (c : Nat) (l : List Trie.KV) (HR : Reads w w.heap.size 2 A l.length (icells l)) (hc : l.length ≤ c) (hl : l.length ≤ 1000) (key value : List UInt8) (hk : key.length ≤ 9223372036854775000) (hv : value.length ≤ 9223372036854775000) :
    Calls Tryd.prog 31 #[.slice A l.length c, .string ⟨key.toArray⟩, .string ⟨value.toArray⟩] w (PutIEnd w (Trie.rput l key value)) := by
  have HP : Hid (∀ l2 c2, Trie.rput l key value = (l2, c2) → ∀ A n c w', n = l2.length → n ≤ c → w'.ownsRow w.heap.size 26 2 (.slice A n c) n (icells l2) → Below w.heap.size w w' → PutIEnd w (Trie.rput l key value) (.returned (.tuple #[.slice A n c, .int .i64 (c2 : Nat)])) w') := Lib.hid (by
    intro l2 c2 e A n c w' h1 h2 h3 h4
    unfold PutIEnd
    rw [e]
    exact ⟨A, n, c, rfl, h1, h2, h3, h4⟩)
  generalize PutIEnd w (Trie.rput l key value) = P at HP ⊢
  have HKy := Lib.hid (ref10_Keyed key hk w)
  have HA := Lib.hid (ref10_At w A c l HR (by omega) key)
  have hat := Trie.atI_le key l
  have HRR := Lib.hid HR
  obtain ⟨i0, hi0, hz0, hz1, hz2⟩ := info_parts info_item
  have e9 : ((1024 : Int) ≤ l.length) = False := by simp; omega
  have HNil : Hid (∀ W : World, W.ownsRow w.heap.size 26 2 (.slice none 0 0) 0 (icells [])) := Lib.hid (fun W => World.ownsRow_nil _ _ _ _)
  clear HR
  cases hkey : Trie.keyedW key with
  | false =>
    have T := Lib.hid (HP.out [] 1 (by simp [Trie.rput, hkey]) none 0 0 w rfl (Nat.le_refl _) (HNil.out _) (Below.refl _ _))
    rw [hkey] at HKy
    clear HP HA hat hkey
    go_enter Tryd.func31, Tryd.ntmps31
    go_wp2_with (go_at_call 64; refine HKy.out.mono ?_; rintro e w1 ⟨rfl, rfl⟩)
    exact T.out
  | true =>
    rw [hkey] at HKy
    by_cases h0 : value = []
    · subst h0
      have T := Lib.hid (HP.out [] 2 (by simp [Trie.rput, hkey]) none 0 0)
      unfold AtIEnd at HA
      clear HP hat hkey
      generalize (Trie.atI key l).1 = i at *
      generalize (Trie.atI key l).2 = b at *
      go_enter Tryd.func31, Tryd.ntmps31
      go_wp2_with (first | (go_at_call 64; refine HKy.out.mono ?_; rintro e w1 ⟨rfl, rfl⟩) | (go_at_call 65; refine HA.out.mono ?_; rintro e w2 ⟨rfl, hb⟩))
      exact T.out _ rfl (Nat.le_refl _) (HNil.out _) hb
    · have hv1 : ((value.length : Int) < 1) = False := by have := List.length_pos_iff.2 h0; simp; omega
      by_cases h32 : 32 < value.length
      · have e6 : ((32 : Int) < value.length) = True := by simp; omega
        have T := Lib.hid (HP.out [] 2 (by simp [Trie.rput, hkey, h32]) none 0 0)
        unfold AtIEnd at HA
        clear HP hat hkey h0 h32
        generalize (Trie.atI key l).1 = i at *
        generalize (Trie.atI key l).2 = b at *
        go_enter Tryd.func31, Tryd.ntmps31
        go_wp2_with (first | (go_at_call 64; refine HKy.out.mono ?_; rintro e w1 ⟨rfl, rfl⟩) | (go_at_call 65; refine HA.out.mono ?_; rintro e w2 ⟨rfl, hb⟩))
        exact T.out _ rfl (Nat.le_refl _) (HNil.out _) hb
      · have e6 : ((32 : Int) < value.length) = False := by simp; omega
        have hvb : (value.isEmpty || decide (32 < value.length)) = false := by simp [h0]; omega
        cases hb : (Trie.atI key l).2 with
        | false =>
          have HE := Lib.hid (HP.out (l.take (Trie.atI key l).1 ++ [(key, value)] ++ l.drop (Trie.atI key l).1) 0 (by simp [Trie.rput, hkey, hvb, hb]))
          unfold AtIEnd at HA
          rw [hb] at HA
          have hii := hat.1
          clear HP hkey h0 h32 hat hb hvb
          generalize (Trie.atI key l).1 = i at *
          have hic : (i : Int) ≤ c := by omega
          have hil : (i : Int) ≤ l.length := by omega
          have hi00 : (0 : Int) ≤ i := by omega
          obtain ⟨A1, c1, SL1, RD1⟩ := it_cut_to A l l.length c i rfl (by omega) hc
          obtain ⟨A2, c2, SL2, RD2⟩ := it_cut_from A l l.length c i rfl (by omega) hc
          have HSR : Hid (icells (l.take i) ++ [.string ⟨key.toArray⟩, .string ⟨value.toArray⟩] ++ icells (l.drop i) = icells (l.take i ++ [(key, value)] ++ l.drop i)) := Lib.hid (by rw [icells_append, icells_append]; rfl)
          have HSUM : Hid (i + 1 + (l.length - i) = (l.take i ++ [(key, value)] ++ l.drop i).length) := Lib.hid (by simp only [List.length_append, List.length_take, List.length_drop, List.length_cons, List.length_nil]; omega)
          have hlm : i + 1 + (l.length - i) ≤ 1001 := by omega
          go_enter Tryd.func31, Tryd.ntmps31
          go_wp2_with fail
          refine HKy.out.mono ?_
          rintro e w1 ⟨rfl, rfl⟩
          go_wp2_with fail
          refine HA.out.mono ?_
          rintro e w1 ⟨rfl, hb1⟩
          have R1 := RD1 w1 _ (HRR.out.below hb1)
          go_wp2_with (first
            | (at_builtin; refine wpList_append_any w1 rfl _ _ 22 rfl w.heap.size 26 i0 _ 2 32 Tryd.underlying22 hi0 hz0 hz1 hz2 rfl (by decide) (.slice none 0 0) 0 [] rfl (World.ownsRow_nil _ _ _ _) w.heap.size A1 i c1 (icells (l.take i)) rfl R1 (icells_one _) (by simp only [maxLen]; omega) (by omega) hb1.size ?_; intro v2 w2 own2 hg2 ho2; rw [Nat.zero_add, List.nil_append] at own2; obtain ⟨Av2, cv2, rfl, _, _, _⟩ := own_form own2; have hb2 : Below w.heap.size w w2 := hb1.grown hg2 hb1.size (by intro k e; cases e); clear hg2 ho2 R1)
            | (at_builtin; refine wpList_append_new w2 26 [.string ⟨key.toArray⟩, .string ⟨value.toArray⟩] rfl _ _ 22 rfl w.heap.size 2 32 _ info_item Tryd.underlying22 rfl (by decide) (.slice Av2 i cv2) i (icells (l.take i)) rfl own2 1 1 rfl rfl (by simp [Value.oneCell']) (by simp only [maxLen]; omega) (by omega) w.heap.size w hb2 (Nat.le_refl _) hb2.size ?_; intro v3 w3 own3 hb3 _ _ _; obtain ⟨Av3, cv3, rfl, _, _, hge3⟩ := own_form own3; have R2 := RD2 w3 _ (HRR.out.below hb3); have lt3 := own3.lt)
            | (at_builtin; refine wpList_append_any w3 rfl _ _ 22 rfl w.heap.size 26 i0 _ 2 32 Tryd.underlying22 hi0 hz0 hz1 hz2 rfl (by decide) (.slice Av3 (i + 1) cv3) (i + 1) (icells (l.take i) ++ [.string ⟨key.toArray⟩, .string ⟨value.toArray⟩]) rfl own3 w.heap.size A2 (l.length - i) c2 (icells (l.drop (i))) rfl R2 (icells_one _) (by simp only [maxLen]; omega) (by omega) hb3.size ?_; intro v4 w4 own4 hg4 _; obtain ⟨Av4, cv4, rfl, _, hc4, _⟩ := own_form own4; have hb4 : Below w.heap.size w w4 := hb3.grown hg4 hb3.size (fun k e => (lt3 k e).1); clear hg4 R2))
          rw [HSR.out] at own4
          exact HE.out _ _ _ _ HSUM.out hc4 own4 hb4
        | true =>
          have HE := Lib.hid (HP.out (l.take (Trie.atI key l).1 ++ [(key, value)] ++ l.drop ((Trie.atI key l).1 + 1)) 0 (by simp [Trie.rput, hkey, hvb, hb]))
          unfold AtIEnd at HA
          rw [hb] at HA
          have hii := hat.2 hb
          clear HP hkey h0 h32 hat hb hvb
          generalize (Trie.atI key l).1 = i at *
          have hic : (i : Int) ≤ c := by omega
          have hil : (i : Int) ≤ l.length := by omega
          have hi2 : (i : Int) + 1 ≤ l.length := by omega
          have hi00 : (0 : Int) ≤ i := by omega
          obtain ⟨A1, c1, SL1, RD1⟩ := it_cut_to A l l.length c i rfl (by omega) hc
          obtain ⟨A2, c2, SL2, RD2⟩ := it_cut_from A l l.length c (i + 1) rfl (by omega) hc
          have SL2' := SL2
          rw [show ((i + 1 : Nat) : Int) = (i : Int) + 1 from rfl] at SL2'
          have HSR : Hid (icells (l.take i) ++ [.string ⟨key.toArray⟩, .string ⟨value.toArray⟩] ++ icells (l.drop (i + 1)) = icells (l.take i ++ [(key, value)] ++ l.drop (i + 1))) := Lib.hid (by rw [icells_append, icells_append]; rfl)
          have HSUM : Hid (i + 1 + (l.length - (i + 1)) = (l.take i ++ [(key, value)] ++ l.drop (i + 1)).length) := Lib.hid (by simp only [List.length_append, List.length_take, List.length_drop, List.length_cons, List.length_nil]; omega)
          have hlm : i + 1 + (l.length - (i + 1)) ≤ 1001 := by omega
          go_enter Tryd.func31, Tryd.ntmps31
          go_wp2_with fail
          refine HKy.out.mono ?_
          rintro e w1 ⟨rfl, rfl⟩
          go_wp2_with fail
          refine HA.out.mono ?_
          rintro e w1 ⟨rfl, hb1⟩
          have R1 := RD1 w1 _ (HRR.out.below hb1)
          go_wp2_with (first
            | (at_builtin; refine wpList_append_any w1 rfl _ _ 22 rfl w.heap.size 26 i0 _ 2 32 Tryd.underlying22 hi0 hz0 hz1 hz2 rfl (by decide) (.slice none 0 0) 0 [] rfl (World.ownsRow_nil _ _ _ _) w.heap.size A1 i c1 (icells (l.take i)) rfl R1 (icells_one _) (by simp only [maxLen]; omega) (by omega) hb1.size ?_; intro v2 w2 own2 hg2 ho2; rw [Nat.zero_add, List.nil_append] at own2; obtain ⟨Av2, cv2, rfl, _, _, _⟩ := own_form own2; have hb2 : Below w.heap.size w w2 := hb1.grown hg2 hb1.size (by intro k e; cases e); clear hg2 ho2 R1)
            | (at_builtin; refine wpList_append_new w2 26 [.string ⟨key.toArray⟩, .string ⟨value.toArray⟩] rfl _ _ 22 rfl w.heap.size 2 32 _ info_item Tryd.underlying22 rfl (by decide) (.slice Av2 i cv2) i (icells (l.take i)) rfl own2 1 1 rfl rfl (by simp [Value.oneCell']) (by simp only [maxLen]; omega) (by omega) w.heap.size w hb2 (Nat.le_refl _) hb2.size ?_; intro v3 w3 own3 hb3 _ _ _; obtain ⟨Av3, cv3, rfl, _, _, hge3⟩ := own_form own3; have R2 := RD2 w3 _ (HRR.out.below hb3); have lt3 := own3.lt)
            | (at_builtin; refine wpList_append_any w3 rfl _ _ 22 rfl w.heap.size 26 i0 _ 2 32 Tryd.underlying22 hi0 hz0 hz1 hz2 rfl (by decide) (.slice Av3 (i + 1) cv3) (i + 1) (icells (l.take i) ++ [.string ⟨key.toArray⟩, .string ⟨value.toArray⟩]) rfl own3 w.heap.size A2 (l.length - (i + 1)) c2 (icells (l.drop ((i + 1)))) rfl R2 (icells_one _) (by simp only [maxLen]; omega) (by omega) hb3.size ?_; intro v4 w4 own4 hg4 _; obtain ⟨Av4, cv4, rfl, _, hc4, _⟩ := own_form own4; have hb4 : Below w.heap.size w w4 := hb3.grown hg4 hb3.size (fun k e => (lt3 k e).1); clear hg4 R2))
          rw [HSR.out] at own4
          exact HE.out _ _ _ _ HSUM.out hc4 own4 hb4

set_option maxRecDepth 100000 in
set_option maxHeartbeats 2000000 in
theorem ref10_Del (w : World) (A : Option Addr) (c : Nat) (l : List Trie.KV) (HR : Reads w w.heap.size 2 A l.length (icells l)) (hc : l.length ≤ c) (hl : l.length ≤ 1000) (key : List UInt8) (hk : key.length ≤ 9223372036854775000) :
    Calls Tryd.prog 33 #[.slice A l.length c, .string ⟨key.toArray⟩] w (PutIEnd w (Trie.rdel l key)) := by
  have HP : Hid (∀ l2 c2, Trie.rdel l key = (l2, c2) → ∀ A n c w', n = l2.length → n ≤ c → w'.ownsRow w.heap.size 26 2 (.slice A n c) n (icells l2) → Below w.heap.size w w' → PutIEnd w (Trie.rdel l key) (.returned (.tuple #[.slice A n c, .int .i64 (c2 : Nat)])) w') := Lib.hid (by
    intro l2 c2 e A n c w' h1 h2 h3 h4
    unfold PutIEnd
    rw [e]
    exact ⟨A, n, c, rfl, h1, h2, h3, h4⟩)
  generalize PutIEnd w (Trie.rdel l key) = P at HP ⊢
  have HG := Lib.hid (ref10_Get w A c l HR (by omega) key hk)
  have HAt : Hid (∀ W, Below w.heap.size w W → Calls Tryd.prog 65 #[.slice A l.length c, .string ⟨key.toArray⟩] W (AtIEnd W l key)) := Lib.hid (fun W hW => ref10_At W A c l ((HR.below hW).more hW.size) (by omega) key)
  have hat := Trie.atI_le key l
  have HRR := Lib.hid HR
  obtain ⟨i0, hi0, hz0, hz1, hz2⟩ := info_parts info_item
  have HNil : Hid (∀ W : World, W.ownsRow w.heap.size 26 2 (.slice none 0 0) 0 (icells [])) := Lib.hid (fun W => World.ownsRow_nil _ _ _ _)
  clear HR
  by_cases hg : (Trie.rget l key).2 = 0
  · have ht : (Trie.atI key l).2 = true := by
      unfold Trie.rget at hg
      split at hg
      · split at hg
        · assumption
        · cases hg
      · cases hg
    have HE := Lib.hid (HP.out (l.take (Trie.atI key l).1 ++ l.drop ((Trie.atI key l).1 + 1)) 0 (by simp [Trie.rdel, hg]))
    unfold AtIEnd at HAt
    unfold TGetEnd at HG
    rw [hg] at HG
    have hii := hat.2 ht
    clear HP hat hg ht
    generalize (Trie.rget l key).1 = gv at *
    generalize (Trie.atI key l).1 = i at *
    generalize (Trie.atI key l).2 = tb at *
    have hic : (i : Int) ≤ c := by omega
    have hil : (i : Int) ≤ l.length := by omega
    have hi2 : (i : Int) + 1 ≤ l.length := by omega
    have hi00 : (0 : Int) ≤ i := by omega
    obtain ⟨A1, c1, SL1, RD1⟩ := it_cut_to A l l.length c i rfl (by omega) hc
    obtain ⟨A2, c2, SL2, RD2⟩ := it_cut_from A l l.length c (i + 1) rfl (by omega) hc
    have SL2' := SL2
    rw [show ((i + 1 : Nat) : Int) = (i : Int) + 1 from rfl] at SL2'
    have HSR : Hid (icells (l.take i) ++ icells (l.drop (i + 1)) = icells (l.take i ++ l.drop (i + 1))) := Lib.hid (by rw [icells_append])
    have HSUM : Hid (i + (l.length - (i + 1)) = (l.take i ++ l.drop (i + 1)).length) := Lib.hid (by simp only [List.length_append, List.length_take, List.length_drop]; omega)
    have hlm : i + (l.length - (i + 1)) ≤ 1001 := by omega
    go_enter Tryd.func33, Tryd.ntmps33
    go_wp2_with fail
    refine HG.out.mono ?_
    rintro e w0 ⟨rfl, hb0⟩
    go_wp2_with fail
    refine (HAt.out _ hb0).mono ?_
    rintro e w1 ⟨rfl, hb01⟩
    have hb1 := hb0.nxt hb01
    clear hb01
    have R1 := RD1 w1 _ (HRR.out.below hb1)
    go_wp2_with (first
      | (at_builtin; refine wpList_append_any w1 rfl _ _ 22 rfl w.heap.size 26 i0 _ 2 32 Tryd.underlying22 hi0 hz0 hz1 hz2 rfl (by decide) (.slice none 0 0) 0 [] rfl (World.ownsRow_nil _ _ _ _) w.heap.size A1 i c1 (icells (l.take i)) rfl R1 (icells_one _) (by simp only [maxLen]; omega) (by omega) hb1.size ?_; intro v2 w2 own2 hg2 ho2; rw [Nat.zero_add, List.nil_append] at own2; obtain ⟨Av2, cv2, rfl, _, _, _⟩ := own_form own2; have hb2 : Below w.heap.size w w2 := hb1.grown hg2 hb1.size (by intro k e; cases e); have R2 := RD2 w2 _ (HRR.out.below hb2); have lt2 := own2.lt; clear hg2 ho2 R1)
      | (at_builtin; refine wpList_append_any w2 rfl _ _ 22 rfl w.heap.size 26 i0 _ 2 32 Tryd.underlying22 hi0 hz0 hz1 hz2 rfl (by decide) (.slice Av2 i cv2) i (icells (l.take i)) rfl own2 w.heap.size A2 (l.length - (i + 1)) c2 (icells (l.drop (i + 1))) rfl R2 (icells_one _) (by simp only [maxLen]; omega) (by omega) hb2.size ?_; intro v4 w4 own4 hg4 _; obtain ⟨Av4, cv4, rfl, _, hc4, _⟩ := own_form own4; have hb4 : Below w.heap.size w w4 := hb2.grown hg4 hb2.size (fun k e => (lt2 k e).1); clear hg4 R2))
    rw [HSR.out] at own4
    exact HE.out _ _ _ _ HSUM.out hc4 own4 hb4
  · have hg1 : (((Trie.rget l key).2 : Int) != 0) = true := by simp; exact hg
    have T := Lib.hid (HP.out [] (Trie.rget l key).2 (by simp [Trie.rdel, hg]) none 0 0)
    unfold TGetEnd at HG
    clear HP hat hg HAt
    generalize (Trie.rget l key).1 = gv at *
    generalize (Trie.rget l key).2 = gc at *
    go_enter Tryd.func33, Tryd.ntmps33
    go_wp2_with fail
    refine HG.out.mono ?_
    rintro e w0 ⟨rfl, hb0⟩
    go_wp2_with fail
    exact T.out _ rfl (Nat.le_refl _) (HNil.out _) hb0
end Go.Proofs.YtaplecncnkkigaaDoor

/- The book's spoiling of items and of texts (package pharosbook), walked. No conditions. -/
namespace Go.Proofs.YtaplecncnkkigaaDoor
set_option linter.unusedVariables false
open Go.RowKit Go.Instr
attribute [local go_sem] ba_get ByteArray.mk_append_mk

/-- where an owned slice that is not empty lies -/
theorem own_at {w : World} {base e size n c : Nat} {A : Option Addr} {xs : List Value} (h : w.ownsRow base e size (.slice A n c) n xs) (hn : 0 < n) (hs : 0 < size) :
    ∃ g, A = some ⟨g, 0, none⟩ ∧ base ≤ g ∧ g < w.heap.size ∧ ∀ (j : Nat) (hj : j < xs.length), w.cell? ⟨g, j, none⟩ = some xs[j] := by
  obtain ⟨A', c', hv, HR, hc, hb⟩ := own_form h
  injection hv with hA _ _
  subst hA
  obtain ⟨g, cap, hv, hge, hlt⟩ := h.form hn
  injection hv with hA
  subst hA
  obtain ⟨b, off, e1, hbl, hcell⟩ := HR.form hn hs
  injection e1 with e1
  injection e1 with e1 e2
  subst e1
  subst e2
  exact ⟨g, rfl, hge, hlt, fun j hj => by have := hcell j hj; rwa [Nat.zero_add] at this⟩
def SpoilEnd (B : Nat) (w : World) (e : Ending) (w' : World) : Prop := e = .returned (.tuple #[]) ∧ Below B w w'
set_option maxHeartbeats 1000000 in
theorem book_SpoilItems (w : World) (B : Nat) (A : Option Addr) (n c : Nat) (xs : List Value) (own : w.ownsRow B 26 2 (.slice A n c) n xs) (hB : B ≤ w.heap.size) (hn : n ≤ 1000000) :
    Calls Tryd.prog 68 #[.slice A n c] w (SpoilEnd B w) := by
  have HP : Hid (∀ w', Below B w w' → SpoilEnd B w (.returned (.tuple #[])) w') := Lib.hid (fun w' h => ⟨rfl, h⟩)
  generalize SpoilEnd B w = P at HP ⊢
  have HO := Lib.hid own
  clear own
  go_enter Tryd.func68, Tryd.ntmps68
  go_wp2
  refine wp_loop_ghost_k (fun k a wr => ∀ Φ : Act → Prop, (∀ (s1 s3 s4 s5 s6 s7 s8 s9 s10 s11 s12 : Value) (i : Nat) (ys : List Value), (i + k = n ∧ wr.ownsRow B 26 2 (.slice A n c) n ys ∧ Below B w wr) → Φ { tmps := #[.slice A n c, s1, .int .i64 (i : Int), s3, s4, s5, s6, s7, s8, s9, s10, s11, s12], defers := [] }) → Φ a) (n) ?_ ?_
  · refine fun Φ hΦ => hΦ _ _ _ _ _ _ _ _ _ _ _ (0) (xs) ?_
    exact ⟨by omega, HO.out, Below.refl _ _⟩
  · intro k1 a1 wr1 hI1 J1 K1 hJ1 hK1
    refine hI1 (fun a => Code.wp _ _ _ a _) ?_
    clear hI1 a1
    intro s0 s1 s2 s3 s4 s5 s6 s7 s8 s9 s10 i ys hrel
    show Code.wp _ _ _ _ _
    obtain ⟨h1, ho, hb⟩ := hrel
    by_cases hi : i < n
    · obtain ⟨g, rfl, hge, hlt, hc⟩ := own_at ho (by omega) (by omega)
      have hl : ys.length = n * 2 := ho.1
      have c0 := hc (i * 2) (by omega)
      have c1 := hc (i * 2 + 1) (by omega)
      have f0 := ho.frozenAt (i * 2)
      have f1 := ho.frozenAt (i * 2 + 1)
      have H := Lib.hid (And.intro h1 (And.intro ho (And.intro hb hge)))
      have hi1 : (i : Int) < n := by omega
      have hi0 : (0 : Int) ≤ i := by omega
      generalize ys[i * 2] = u0 at *
      generalize ys[i * 2 + 1] = u1 at *
      clear h1 ho hb hge hc
      go_wp2
      refine Handed.intro (n - (i + 1)) ?_ (hJ1 _ _ _ (fun Φ hΦ => hΦ _ _ _ _ _ _ _ _ _ _ _ (i + 1) (((ys.set (i * 2) (.string ⟨#[97, 110, 111, 116, 104, 101, 114, 32, 111, 110, 101]⟩)).set (i * 2 + 1) (.string ⟨#[]⟩))) ?_))
      · have := H.out.1
        omega
      · obtain ⟨h1, ho, hb, hge⟩ := H.out
        have s1 := ho.stored (i * 2) (.string ⟨#[97, 110, 111, 116, 104, 101, 114, 32, 111, 110, 101]⟩)
        have s2 := s1.1.stored (i * 2 + 1) (.string ⟨#[]⟩)
        exact ⟨by omega, s2.1, (hb.setCell (p := ⟨g, i * 2, none⟩) hge _).setCell (p := ⟨g, i * 2 + 1, none⟩) hge _⟩
    · have hi2 : ((i : Int) < n) = False := by simp; omega
      have H := Lib.hid hb
      clear ho hb h1 hi
      go_wp2
      go_end0
      exact HP.out _ H.out
set_option maxHeartbeats 1000000 in
theorem book_SpoilTexts (w : World) (B : Nat) (A : Option Addr) (n c : Nat) (xs : List Value) (own : w.ownsRow B 9 1 (.slice A n c) n xs) (hB : B ≤ w.heap.size) (hn : n ≤ 1000000) :
    Calls Tryd.prog 24 #[.slice A n c] w (SpoilEnd B w) := by
  have HP : Hid (∀ w', Below B w w' → SpoilEnd B w (.returned (.tuple #[])) w') := Lib.hid (fun w' h => ⟨rfl, h⟩)
  generalize SpoilEnd B w = P at HP ⊢
  have HO := Lib.hid own
  clear own
  go_enter Tryd.func24, Tryd.ntmps24
  go_wp2
  refine wp_loop_ghost_k (fun k a wr => ∀ Φ : Act → Prop, (∀ (s1 s3 s4 s5 s6 s7 s8 s9 s10 s11 : Value) (i : Nat) (ys : List Value), (i + k = n ∧ wr.ownsRow B 9 1 (.slice A n c) n ys ∧ Below B w wr) → Φ { tmps := #[.slice A n c, s1, .int .i64 (i : Int), s3, s4, s5, s6, s7, s8, s9, s10, s11], defers := [] }) → Φ a) (n) ?_ ?_
  · refine fun Φ hΦ => hΦ _ _ _ _ _ _ _ _ _ _ (0) (xs) ?_
    exact ⟨by omega, HO.out, Below.refl _ _⟩
  · intro k1 a1 wr1 hI1 J1 K1 hJ1 hK1
    refine hI1 (fun a => Code.wp _ _ _ a _) ?_
    clear hI1 a1
    intro s0 s1 s2 s3 s4 s5 s6 s7 s8 s9 i ys hrel
    show Code.wp _ _ _ _ _
    obtain ⟨h1, ho, hb⟩ := hrel
    by_cases hi : i < n
    · obtain ⟨g, rfl, hge, hlt, hc⟩ := own_at ho (by omega) (by omega)
      have hl : ys.length = n * 1 := ho.1
      have c0 := hc i (by omega)
      have f0 := ho.frozenAt i
      have H := Lib.hid (And.intro h1 (And.intro ho (And.intro hb hge)))
      have hi1 : (i : Int) < n := by omega
      have hi0 : (0 : Int) ≤ i := by omega
      generalize ys[i] = u0 at *
      clear h1 ho hb hge hc
      go_wp2
      refine Handed.intro (n - (i + 1)) ?_ (hJ1 _ _ _ (fun Φ hΦ => hΦ _ _ _ _ _ _ _ _ _ _ (i + 1) ((ys.set i (.string ⟨#[97, 110, 111, 116, 104, 101, 114, 32, 111, 110, 101]⟩))) ?_))
      · have := H.out.1
        omega
      · obtain ⟨h1, ho, hb, hge⟩ := H.out
        have s1 := ho.stored i (.string ⟨#[97, 110, 111, 116, 104, 101, 114, 32, 111, 110, 101]⟩)
        exact ⟨by omega, s1.1, (hb.setCell (p := ⟨g, i, none⟩) hge _)⟩
    · have hi2 : ((i : Int) < n) = False := by simp; omega
      have H := Lib.hid hb
      clear ho hb h1 hi
      go_wp2
      go_end0
      exact HP.out _ H.out
end Go.Proofs.YtaplecncnkkigaaDoor
