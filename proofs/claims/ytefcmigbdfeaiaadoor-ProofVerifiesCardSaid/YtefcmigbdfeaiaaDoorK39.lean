import Derived.Test.YtefcmigbdfeaiaaDoorK37
import Derived.Test.YtefcmigbdfeaiaaDoorK33
import Derived.Test.YtefcmigbdfeaiaaDoorK22
import Derived.Test.YtefcmigbdfeaiaaDoorK38
import Derived.Test.YtefcmigbdfeaiaaDoorK17
set_option linter.unusedSimpArgs false
set_option linter.unusedVariables false
namespace Go.Proofs.YtefcmigbdfeaiaaDoor
set_option linter.unusedVariables false
open Go.RowKit Go.Instr
attribute [local go_sem] ba_get ByteArray.mk_append_mk
attribute [local go_sem ↓] Go.wp_at_zero Go.wp_at_succ
theorem Trie.Good.ofW : ∀ (l : List Trie.KV) (t : Trie.T), Trie.Good t → (Trie.ofW t l).2 = 0 → Trie.Good (Trie.ofW t l).1 ∧ Trie.count (Trie.ofW t l).1 ≤ Trie.count t + l.length
  | [], t, h, _ => ⟨h, by simp [Trie.ofW]⟩
  | x :: l, t, h, hc => by
    unfold Trie.ofW at hc ⊢
    by_cases hp : Trie.putCode x.1 x.2 = 0
    · rw [if_pos hp] at hc ⊢
      obtain ⟨a1, a2, a3⟩ := Trie.putCode_zero hp
      obtain ⟨b1, b2⟩ := Trie.Good.ofW l _ (Trie.Good.put h a1 a2 a3) hc
      have := Trie.count_put t (Nib.of x.1) x.2
      exact ⟨b1, by rw [List.length_cons]; omega⟩
    · rw [if_neg hp] at hc
      exact absurd hc hp
theorem spots_at {t : Trie.T} (h : Trie.Good t) (hc : Trie.count t ≤ 2000) : (Trie.goT allW t []).length ≤ 100000 ∧ ∀ x ∈ Trie.goT allW t [], x.1.length ≤ 1000 := by
  refine ⟨Trie.goT_short h.wf (by omega) _ _, fun x hx => ?_⟩
  have key : ∀ (t : Trie.T) (pl : List UInt8), Trie.At pl t → ∀ x ∈ Trie.goT allW t pl, x.1.length ≤ 16 := by
    intro t
    induction t with
    | nil => intro pl _ x hx; cases hx
    | leaf p v => intro pl ha x hx; simp [Trie.goT, allW] at hx; subst hx; exact ha.len (by simp)
    | ext p t ih =>
      intro pl ha x hx
      simp only [Trie.goT, allW, if_true, List.mem_cons] at hx
      rcases hx with rfl | hx
      · exact ha.len (by simp)
      · exact ih _ ha.below x hx
    | branch v kids ih =>
      intro pl ha x hx
      simp only [Trie.goT, allW, if_true, List.mem_cons, List.mem_flatMap] at hx
      rcases hx with rfl | ⟨i, _, hx⟩
      · exact ha.len (by simp)
      · exact ih i _ (ha.kid i) x hx
  have := key t [] (Trie.At.top h) x hx
  omega
theorem same_told {W : World} {A B : Option Addr} {l : List (List UInt8)} (c d : Nat) (ra : Reads W W.heap.size 1 A l.length (strv l)) (rb : Reads W W.heap.size 1 B l.length (strv l)) (hl : l.length ≤ 100000) :
    Calls Tryd.prog 18 #[.slice A l.length c, .slice B l.length d] W fun e w' => e = .returned (.bool true) ∧ Below W.heap.size W w' := by
  have := book_SameTexts A B _ _ c d l l W ra rb (by omega) (by omega)
  rwa [decide_eq_true rfl] at this
end Go.Proofs.YtefcmigbdfeaiaaDoor

namespace Go.Proofs.YtefcmigbdfeaiaaDoor
set_option linter.unusedVariables false
open Go.RowKit Go.Instr
attribute [local go_sem] ba_get ByteArray.mk_append_mk
attribute [local go_sem ↓] Go.wp_at_zero Go.wp_at_succ
theorem works2_good : Trie.Good Trie.works2 ∧ Trie.count Trie.works2 ≤ 1 := by
  have := Trie.Good.ofW [([107], [118])] .nil Trie.Good.nil (by rw [Trie.works2_of])
  rw [Trie.works2_of] at this
  exact ⟨this.1, by have := this.2; simp [Trie.count] at this; exact this⟩
theorem works2_k : proveW Trie.works2 [107] = ([[1, 1, 2, 32, 107, 1, 1, 118]], 0) := by decide +kernel
theorem works2_x : proveW Trie.works2 [120] = ([[1, 1, 2, 32, 107, 1, 1, 118]], 0) := by decide +kernel
theorem proveW_told {t : Trie.T} {key : List UInt8} {l : List (List UInt8)} (h : proveW t key = (l, 0)) : Trie.keyedW key = true ∧ toldW (trailW (Nib.of key)) t = l := by
  unfold proveW at h
  split at h
  · rename_i hk
    exact ⟨hk, congrArg Prod.fst h⟩
  · cases h
theorem ver_k : verifyW (Trie.sumT Trie.works2) [107] [[1, 1, 2, 32, 107, 1, 1, 118]] = ([118], true, 0) := by
  obtain ⟨h1, h2⟩ := proveW_told works2_k
  have := Trie.verify_whole works2_good.1 h1
  rw [h2, show Trie.look Trie.works2 (Nib.of [107]) = [118] by decide +kernel] at this
  rw [this]
  rfl
theorem ver_x : verifyW (Trie.sumT Trie.works2) [120] [[1, 1, 2, 32, 107, 1, 1, 118]] = ([], false, 0) := by
  obtain ⟨h1, h2⟩ := proveW_told works2_x
  have := Trie.verify_whole works2_good.1 h1
  rw [h2, show Trie.look Trie.works2 (Nib.of [120]) = [] by decide +kernel] at this
  rw [this]
  rfl
theorem ver_0 : verifyW [] [107] [[1, 1, 2, 32, 107, 1, 1, 118]] = ([], false, 130) := by
  unfold verifyW
  rw [if_neg (by decide), if_pos rfl, if_neg (by decide)]
set_option maxRecDepth 100000 in
set_option maxHeartbeats 2000000 in
theorem law13_works (w : World) (hT : Tbl w) :
    Calls Tryd.prog 34 #[] w fun e w' => e = .returned (.bool true) ∧ Below w.heap.size w w' := by
  have HP : Hid (∀ w', Below w.heap.size w w' → (fun e w' => e = Ending.returned (.bool true) ∧ Below w.heap.size w w') (Ending.returned (.bool true)) w') := Lib.hid (fun W' a2 => ⟨rfl, a2⟩)
  generalize (fun e w' => e = Ending.returned (.bool true) ∧ Below w.heap.size w w') = P at HP ⊢
  have HTb := Lib.hid hT
  have HW : Hid (∀ (W : World) f, Below W.heap.size W (W.alloc (.cells f 26))) := Lib.hid (fun W f => by go_grown)
  clear hT
  go_enter Tryd.func34, Tryd.ntmps34
  go_wp2_with fail
  refine (trie_Of [([107], [118])] (by simp) (by simp) _ ?_ _ _ ?_).mono ?_
  · exact HTb.out.next (by go_grown)
  · exact reads_blk (Blk.new _ _ _) (by simp)
  rw [Trie.works2_of]
  rintro e w1 ⟨v1, rfl, hb1, hk1, _⟩
  have HB1 : Hid (Below w.heap.size w w1) := Lib.hid ((HW.out _ _).nxt hb1)
  have HK1 := Lib.hid (hk1 rfl)
  clear hb1 hk1
  obtain ⟨_, b1, x1, rfl, _⟩ := id HK1.out
  have HPk : Hid (∀ W, Below w1.heap.size w1 W → Calls Tryd.prog 36 #[.pointer (some ⟨b1, 0, none⟩), .string ⟨#[107]⟩] W (TextsCEnd W ([[1, 1, 2, 32, 107, 1, 1, 118]], 0))) := Lib.hid (fun W hW => by
    have := proof_Prove W Trie.works2 _ (HK1.out.next hW) (by have := works2_good.2; omega) [107] (by simp)
    rwa [works2_k] at this)
  have HPx : Hid (∀ W, Below w1.heap.size w1 W → Calls Tryd.prog 36 #[.pointer (some ⟨b1, 0, none⟩), .string ⟨#[120]⟩] W (TextsCEnd W ([[1, 1, 2, 32, 107, 1, 1, 118]], 0))) := Lib.hid (fun W hW => by
    have := proof_Prove W Trie.works2 _ (HK1.out.next hW) (by have := works2_good.2; omega) [120] (by simp)
    rwa [works2_x] at this)
  have HVr : Hid (∀ W (A : Option Addr) c (root key v : List UInt8) b (cd : Nat), Below w.heap.size w W → key.length ≤ 8 → verifyW root key [[1, 1, 2, 32, 107, 1, 1, 118]] = (v, b, cd) → Reads W W.heap.size 1 A 1 (strv [[1, 1, 2, 32, 107, 1, 1, 118]]) → Calls Tryd.prog 40 #[.string ⟨root.toArray⟩, .string ⟨key.toArray⟩, .slice A 1 c] W (VerEnd W (v, b, cd))) := Lib.hid (fun W A c root key v b cd hW hk e hr => by
    have := proof_Verify W root key (by omega) [[1, 1, 2, 32, 107, 1, 1, 118]] A c hr (by simp) (by simp) (HTb.out.next hW)
    rwa [e] at this)
  go_wp2_with fail
  refine (HPk.out _ (Below.refl _ _)).mono ?_
  rintro e w2 ⟨A2, n2, c2, rfl, hn2, own2, hb2⟩
  obtain rfl : n2 = 1 := hn2
  have C2 := Lib.hid hb2
  have R2 := Lib.hid (Reads.of_own own2)
  clear own2 hb2
  go_wp2_with fail
  refine (HPx.out _ C2.out).mono ?_
  rintro e w3 ⟨A3, n3, c3, rfl, hn3, own3, hb3⟩
  obtain rfl : n3 = 1 := hn3
  have C3 := Lib.hid (C2.out.nxt hb3)
  have R3 := Lib.hid (Reads.of_own own3)
  have R23 := Lib.hid ((R2.out.below hb3).more hb3.size)
  clear own3 hb3
  go_wp2_with fail
  refine (trie_Root _ _ _ (HK1.out.next C3.out)).mono ?_
  rintro e w4 ⟨rfl, rfl⟩
  have HVk := Lib.hid ver_k
  have HVx := Lib.hid ver_x
  generalize hsm : Trie.sumT Trie.works2 = sm at *
  have HSm := Lib.hid hsm
  clear hsm
  go_wp2_with fail
  refine (HVr.out _ A2 c2 sm [107] _ _ _ (HB1.out.nxt C3.out) (by simp) HVk.out R23.out).mono ?_
  rintro e w5 ⟨rfl, hb5⟩
  have C5 := Lib.hid (C3.out.nxt hb5)
  have R25 := Lib.hid ((R23.out.below hb5).more hb5.size)
  have R35 := Lib.hid ((R3.out.below hb5).more hb5.size)
  clear hb5
  go_wp2_with fail
  refine (trie_Root _ _ _ (HK1.out.next C5.out)).mono ?_
  rw [HSm.out]
  rintro e w6 ⟨rfl, rfl⟩
  go_wp2_with fail
  refine (HVr.out _ A3 c3 sm [120] _ _ _ (HB1.out.nxt C5.out) (by simp) HVx.out R35.out).mono ?_
  rintro e w7 ⟨rfl, hb7⟩
  have C7 := Lib.hid (C5.out.nxt hb7)
  have R27 := Lib.hid ((R25.out.below hb7).more hb7.size)
  have R37 := Lib.hid ((R35.out.below hb7).more hb7.size)
  clear hb7
  go_wp2_with fail
  refine (HVr.out _ A2 c2 [] [107] _ _ _ (HB1.out.nxt C7.out) (by simp) ver_0 R27.out).mono ?_
  rintro e w8 ⟨rfl, hb8⟩
  have C8 := Lib.hid (C7.out.nxt hb8)
  have R28 := Lib.hid ((R27.out.below hb8).more hb8.size)
  have R38 := Lib.hid ((R37.out.below hb8).more hb8.size)
  clear hb8
  go_wp2_with fail
  refine (same_told (l := [[1, 1, 2, 32, 107, 1, 1, 118]]) c2 c3 R28.out R38.out (by simp)).mono ?_
  rintro e w9 ⟨rfl, hb9⟩
  have C9 := Lib.hid (C8.out.nxt hb9)
  clear hb9
  go_wp2_with fail
  exact HP.out _ (HB1.out.nxt C9.out)
end Go.Proofs.YtefcmigbdfeaiaaDoor
