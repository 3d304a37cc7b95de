import Derived.Test.YtefcmigbdfeaiaaDoorJ42
import Derived.Test.YtefcmigbdfeaiaaDoorJ38
import Derived.Test.YtefcmigbdfeaiaaDoorJ41
import Derived.Test.YtefcmigbdfeaiaaDoorJ32
set_option linter.unusedSimpArgs false
set_option linter.unusedVariables false
namespace Go.Proofs.YtefcmigbdfeaiaaDoor
set_option linter.unusedVariables false
namespace Trie
theorem byte_ne {a b : Nat} (ha : a < 256) (hb : b < 256) (h : a ≠ b) : Nib.of [UInt8.ofNat a] ≠ Nib.of [UInt8.ofNat b] := fun e => by
  have := Nib.of_inj e
  injection this with this _
  have := congrArg UInt8.toNat this
  simp at this
  omega
theorem keyed_one (b : UInt8) : keyedW [b] = true := by simp [keyedW]
theorem treeW_look : ∀ (l : List (Int × List UInt8 × Int)) (t : T) (k : Nat), Good t → k + l.length ≤ 256 → (treeW t k l).2 = 0 →
    Good (treeW t k l).1 ∧ (∀ x ∈ l, rcOk x.1 x.2.1 x.2.2) ∧ (∀ i (hi : i < l.length), look (treeW t k l).1 (Nib.of [UInt8.ofNat (k + i)]) = (encW l[i].1 l[i].2.1 l[i].2.2).1) ∧
    ∀ r, Nib.fit r = true → (∀ i, i < l.length → r ≠ Nib.of [UInt8.ofNat (k + i)]) → look (treeW t k l).1 r = look t r
  | [], t, k, hg, _, _ => ⟨hg, (fun x hx => by cases hx), (fun i hi => absurd hi (Nat.not_lt_zero i)), fun r _ _ => rfl⟩
  | x :: l, t, k, hg, hk, h => by
    rw [List.length_cons] at hk
    rw [treeW] at h ⊢
    by_cases hx : rcOk x.1 x.2.1 x.2.2
    rotate_left
    · rw [if_neg hx] at h; cases h
    rw [if_pos hx] at h ⊢
    have hen := encW_len hx
    have hg1 := hg.put (keyed_one (UInt8.ofNat k)) hen.1 hen.2
    have hps := (put_spec t (Nib.of [UInt8.ofNat k]) (encW x.1 x.2.1 x.2.2).1 hg.wf (Nib.fit_of _) hen.1).2.1
    obtain ⟨a1, a2, a3, a4⟩ := treeW_look l (put t (Nib.of [UInt8.ofNat k]) (encW x.1 x.2.1 x.2.2).1) (k + 1) hg1 (by omega) h
    refine ⟨a1, fun y hy => ?_, fun i hi => ?_, fun r hr hne => ?_⟩
    · rcases List.mem_cons.1 hy with rfl | hy
      · exact hx
      · exact a2 y hy
    · cases i with
      | zero =>
        rw [Nat.add_zero, a4 _ (Nib.fit_of _) (fun i hi => byte_ne (by omega) (by omega) (by omega)), hps _ (Nib.fit_of _), Nat.add_zero, if_pos rfl]
        rfl
      | succ i =>
        have := a3 i (by simpa using hi)
        rw [show k + 1 + i = k + (i + 1) by omega] at this
        rw [this]
        rfl
    · rw [a4 r hr (fun i hi => by
        have := hne (i + 1) (by rw [List.length_cons]; omega)
        rwa [show k + (i + 1) = k + 1 + i by omega] at this), hps r hr, if_neg]
      have := hne 0 (by rw [List.length_cons]; omega)
      rwa [Nat.add_zero] at this
theorem treeF_look {l : List (Int × List UInt8 × Int)} (h : (treeF l).2 = 0) : l.length ≤ 8 ∧ Good (treeF l).1 ∧ (∀ x ∈ l, rcOk x.1 x.2.1 x.2.2) ∧ (∀ i (hi : i < l.length), look (treeF l).1 (Nib.of [UInt8.ofNat i]) = (encW l[i].1 l[i].2.1 l[i].2.2).1) ∧
    ∀ r, Nib.fit r = true → (∀ i, i < l.length → r ≠ Nib.of [UInt8.ofNat i]) → look (treeF l).1 r = [] := by
  unfold treeF at h ⊢
  split at h
  · cases h
  · rename_i hl
    rw [if_neg hl]
    have := treeW_look l .nil 0 Good.nil (by omega) h
    simp only [Nat.zero_add] at this
    exact ⟨by omega, this⟩
theorem shown_at {l : List (Int × List UInt8 × Int)} (h : (treeF l).2 = 0) (k : Nat) (hk : k < 256) : (proveF l (k : Int)).2 = 0 ∧ (proveF l (k : Int)).1.length ≤ 17 ∧
    verifyF (sumT (treeF l).1) (k : Int) (proveF l (k : Int)).1 = (if hi : k < l.length then ((l[k].1.toNat, l[k].2.1, l[k].2.2.toNat), true, 0) else ((0, [], 0), false, 0)) := by
  obtain ⟨h8, hg, hok, hat, hno⟩ := treeF_look h
  have hp : proveF l (k : Int) = (toldW (trailW (Nib.of [UInt8.ofNat k])) (treeF l).1, 0) := by
    unfold proveF
    rw [if_neg (by simp [h]), if_neg (by omega), Int.toNat_natCast, proveW, if_pos (keyed_one _)]
  have hv := verify_whole hg (keyed_one (UInt8.ofNat k))
  refine ⟨by rw [hp], ?_, ?_⟩
  · rw [hp]
    simp only
    rw [told_trail hg.wf (Nib.fit_of _), List.length_map]
    have : ∀ (t : T) q, wf t → (trailT t q).length ≤ q.length + 1 := by
      intro t
      induction t with
      | nil => intro q _; exact Nat.zero_le _
      | leaf p v => intro q _; simp [trailT]
      | ext p t ih =>
        intro q hw
        simp only [trailT, List.length_cons]
        split
        · rename_i hc
          have h1 := ih (q.drop p.length) hw.2.2.2
          have h2 : 0 < p.length := List.length_pos_iff.2 hw.2.1
          have h3 := (Nib.common_le p q).2
          rw [List.length_drop] at h1
          omega
        · simp
      | branch v kids ih =>
        intro q hw
        cases q with
        | nil => simp [trailT]
        | cons b r =>
          have := ih (ix b) r (hw.1 _)
          simp only [trailT, List.length_cons]
          omega
    have h1 := this (treeF l).1 (Nib.of [UInt8.ofNat k]) hg.wf
    rw [Nib.of_length] at h1
    simp at h1
    omega
  · rw [hp]
    unfold verifyF
    rw [if_neg (by omega), Int.toNat_natCast, hv]
    simp only
    by_cases hi : k < l.length
    · rw [dif_pos hi, hat k hi]
      have hx := hok _ (List.getElem_mem hi)
      rw [if_neg (by simp [(encW_len hx).1]), decW_encW hx, if_neg (by simp)]
    · rw [dif_neg hi, hno _ (Nib.fit_of _) (fun i hi2 => byte_ne hk (by omega) (by omega))]
      rfl
theorem knot_trail (t : T) : ∀ k ∈ knots t, wf t → ∃ q, Nib.fit q = true ∧ look t q ≠ [] ∧ k ∈ trailT t q := by
  induction t with
  | nil => intro k h; cases h
  | leaf p v =>
    intro k h hw
    rw [knots, List.mem_singleton] at h
    subst h
    exact ⟨p, hw.1, by simp [look]; exact hw.2, by simp [trailT]⟩
  | ext p t ih =>
    intro k h hw
    have hc : ∀ q, Nib.common p (p ++ q) = p.length := fun q => common_self_append p q
    rcases List.mem_cons.1 h with rfl | h
    · obtain ⟨q, h1, h2⟩ := look_some t hw.2.2.2 (by have := hw.2.2.1; cases t <;> simp_all [isBranch, isNil])
      exact ⟨p ++ q, fit_append.2 ⟨hw.1, h1⟩, by rw [look_ext]; exact h2, by simp [trailT]⟩
    · obtain ⟨q, h1, h2, h3⟩ := ih k h hw.2.2.2
      refine ⟨p ++ q, fit_append.2 ⟨hw.1, h1⟩, by rw [look_ext]; exact h2, ?_⟩
      simp only [trailT]
      rw [if_pos (hc q)]
      refine List.mem_cons_of_mem _ ?_
      simpa using h3
  | branch v kids ih =>
    intro k h hw
    rcases List.mem_cons.1 h with rfl | h
    · obtain ⟨q, h1, h2⟩ := look_some (.branch v kids) hw rfl
      exact ⟨q, h1, h2, by cases q <;> simp [trailT]⟩
    · obtain ⟨i, _, h⟩ := List.mem_flatMap.1 h
      obtain ⟨q, h1, h2, h3⟩ := ih i k h (hw.1 i)
      obtain ⟨e1, e2⟩ := ix_of i
      refine ⟨UInt8.ofNat i.val :: q, fit_cons'.2 ⟨e2, h1⟩, by simp only [look]; rw [e1]; exact h2, ?_⟩
      simp only [trailT]
      rw [e1]
      exact List.mem_cons_of_mem _ h3
def provesF (l : List (Int × List UInt8 × Int)) (n : Nat) : List (List UInt8) := (List.range n).flatMap fun (i : Nat) => (proveF l (i : Int)).1
theorem told_proves {l : List (Int × List UInt8 × Int)} (h : (treeF l).2 = 0) : ∀ x ∈ toldW allW (treeF l).1, x ∈ provesF l l.length := by
  obtain ⟨h8, hg, hok, hat, hno⟩ := treeF_look h
  intro x hx
  rw [told_knots] at hx
  obtain ⟨k, hk, rfl⟩ := List.mem_map.1 hx
  obtain ⟨q, h1, h2, h3⟩ := knot_trail _ k hk hg.wf
  have : ∃ i, i < l.length ∧ q = Nib.of [UInt8.ofNat i] := Decidable.byContradiction fun hc => h2 (hno q h1 (fun i hi e => hc ⟨i, hi, e⟩))
  obtain ⟨i, hi, rfl⟩ := this
  refine List.mem_flatMap.2 ⟨i, List.mem_range.2 hi, ?_⟩
  unfold proveF
  rw [if_neg (by simp [h]), if_neg (by omega), Int.toNat_natCast, proveW, if_pos (keyed_one _)]
  simp only
  rw [told_trail hg.wf (Nib.fit_of _)]
  exact List.mem_map.2 ⟨k, h3, rfl⟩
theorem receipt_sound {l : List (Int × List UInt8 × Int)} (h : (treeF l).2 = 0) (at_ : Int) (nodes : List (List UInt8)) :
    (((verifyF (sumT (treeF l).1) at_ nodes).2.2 = 1 ∨ (verifyF (sumT (treeF l).1) at_ nodes).2.2 = 130) ∧ (verifyF (sumT (treeF l).1) at_ nodes).1 = (0, [], 0) ∧ (verifyF (sumT (treeF l).1) at_ nodes).2.1 = false) ∨
    (∃ x ∈ nodes ++ provesF l l.length, ∃ y ∈ nodes ++ provesF l l.length, x ≠ y ∧ shaW (1 :: x) = shaW (1 :: y)) ∨
    ∃ k : Nat, at_ = (k : Int) ∧ verifyF (sumT (treeF l).1) at_ nodes = (if hi : k < l.length then ((l[k].1.toNat, l[k].2.1, l[k].2.2.toNat), true, 0) else ((0, [], 0), false, 0)) := by
  obtain ⟨h8, hg, hok, hat, hno⟩ := treeF_look h
  have hmem : ∀ x ∈ toldW allW (treeF l).1 ++ nodes, x ∈ nodes ++ provesF l l.length := fun x hx => by
    rcases List.mem_append.1 hx with hx | hx
    · exact List.mem_append_right _ (told_proves h x hx)
    · exact List.mem_append_left _ hx
  by_cases ha : at_ < 0 ∨ 255 < at_
  · left
    unfold verifyF
    rw [if_pos ha]
    exact ⟨.inl rfl, rfl, rfl⟩
  · obtain ⟨k, rfl⟩ := Int.eq_ofNat_of_zero_le (show 0 ≤ at_ by omega)
    have hk : k < 256 := by omega
    unfold verifyF
    rw [if_neg ha, Int.toNat_natCast]
    by_cases he : (verifyW (sumT (treeF l).1) [UInt8.ofNat k] nodes).2.2 = 0
    · right
      obtain ⟨_, hs | ⟨x, hx, y, hy, hne, hsum⟩⟩ := verify_sound hg nodes he
      · right
        refine ⟨k, rfl, ?_⟩
        obtain ⟨s1, s2⟩ := hs
        rw [he, s1, s2]
        by_cases hi : k < l.length
        · rw [dif_pos hi, hat k hi]
          have hx := hok _ (List.getElem_mem hi)
          rw [if_neg (by simp [(encW_len hx).1]), decW_encW hx, if_neg (by simp)]
        · rw [dif_neg hi, hno _ (Nib.fit_of _) (fun i hi2 => byte_ne hk (by omega) (by omega))]
          rfl
      · exact .inl ⟨x, hmem x hx, y, hmem y hy, hne, hsum⟩
    · left
      have hc : (verifyW (sumT (treeF l).1) [UInt8.ofNat k] nodes).2.2 = 130 := by
        unfold verifyW at he ⊢
        rw [if_neg (by simp [keyed_one])] at he ⊢
        split
        · rename_i h0
          rw [if_pos h0] at he
          split
          · rename_i h1; rw [if_pos h1] at he; exact absurd rfl he
          · rfl
        · rename_i h0
          rw [if_neg h0] at he
          split
          · rename_i h1; rw [if_pos h1] at he; exact absurd rfl he
          · rfl
      rw [if_pos (.inl he)]
      exact ⟨.inr hc, rfl, rfl⟩
theorem proveF_len {l : List (Int × List UInt8 × Int)} (at_ : Int) : ∀ x ∈ (proveF l at_).1, x ∈ toldW (trailW (Nib.of [UInt8.ofNat at_.toNat])) (treeF l).1 := by
  intro x hx
  unfold proveF at hx
  split at hx
  · cases hx
  · split at hx
    · cases hx
    · unfold proveW at hx
      rw [if_pos (keyed_one _)] at hx
      exact hx
end Trie
end Go.Proofs.YtefcmigbdfeaiaaDoor

namespace Go.Proofs.YtefcmigbdfeaiaaDoor
set_option linter.unusedVariables false
open Go.RowKit Go.Instr
attribute [local go_sem] ba_get ByteArray.mk_append_mk
attribute [local go_sem ↓] Go.wp_at_zero Go.wp_at_succ
set_option maxRecDepth 100000 in
set_option maxHeartbeats 4000000 in
theorem law_ReceiptShown (w : World) (l : List (Int × List UInt8 × Int)) (hs : ∀ x ∈ l, x.2.1.length ≤ 9223372036854775807) (at_ : Int) (A : Option Addr) (c : Nat) (HR : Reads w w.heap.size 3 A l.length (rcells l)) (hT : Tbl w) :
    Calls Tryd.prog 10 #[.slice A l.length c, .int .i64 at_] w fun e w' => e = .returned (.bool true) ∧ Below w.heap.size w w' := by
  have HP : Hid (∀ w', Below w.heap.size w w' → (fun e w' => e = Ending.returned (.bool true) ∧ Below w.heap.size w w') (Ending.returned (.bool true)) w') := Lib.hid (fun W' a2 => ⟨rfl, a2⟩)
  generalize (fun e w' => e = Ending.returned (.bool true) ∧ Below w.heap.size w w') = P at HP ⊢
  have HRd := Lib.hid (fun W (hW : Below w.heap.size w W) => (HR.below hW).more hW.size)
  have HTb := Lib.hid (fun W (hW : Below w.heap.size w W) => hT.next hW)
  have HWk := Lib.hid (fun W (hW : Below w.heap.size w W) => law17_works W (hT.next hW))
  have HRo := Lib.hid (fun W (hW : Below w.heap.size w W) => receipt_RootF l hs W (hT.next hW) A c (HRd.out W hW))
  have HPr := Lib.hid (fun W (hW : Below w.heap.size w W) => receipt_Prove l hs at_ W (hT.next hW) A c (HRd.out W hW))
  have HRw := Lib.hid HR
  clear HR hT hs
  by_cases he : (treeF l).2 = 0
  rotate_left
  · have hpf : proveF l at_ = ([], (treeF l).2) := by unfold proveF; rw [if_pos he]
    rw [hpf] at HPr
    clear hpf
    generalize treeF l = r at *
    obtain ⟨t, cd⟩ := r
    unfold RRootEnd at HRo
    simp only at HRo HPr he
    rw [if_neg he] at HRo
    have hc1 : ((cd : Int) != 0) = true := by simp; exact he
    clear he
    go_enter Tryd.func10, Tryd.ntmps10
    go_wp2_with fail
    refine (HWk.out _ (Below.refl _ _)).mono ?_
    rintro e w1 ⟨rfl, hb1⟩
    have B1 := Lib.hid hb1
    clear hb1
    go_wp2_with fail
    refine (HRo.out _ B1.out).mono ?_
    rintro e w2 ⟨rfl, hb2⟩
    have B2 := Lib.hid (B1.out.nxt hb2)
    clear hb2
    go_wp2_with fail
    refine (HPr.out _ B2.out).mono ?_
    rintro e w3 ⟨A3, n3, c3, rfl, hn3, own3, hb3⟩
    have B3 := Lib.hid (B2.out.nxt hb3)
    obtain rfl : n3 = 0 := hn3
    clear own3 hb3
    go_wp2_with fail
    exact HP.out _ B3.out
  by_cases ha : at_ < 0 ∨ 255 < at_
  · have hpf : proveF l at_ = ([], 1) := by unfold proveF; rw [if_neg (by simp [he]), if_pos ha]
    rw [hpf] at HPr
    unfold RRootEnd at HRo
    rw [he, if_pos rfl] at HRo
    clear hpf he
    generalize treeF l = r at *
    obtain ⟨t, cd⟩ := r
    simp only at HRo HPr
    rcases ha with h | h
    · have g1 : (at_ < 0) = True := by simp [h]
      clear h
      go_enter Tryd.func10, Tryd.ntmps10
      go_wp2_with fail
      refine (HWk.out _ (Below.refl _ _)).mono ?_
      rintro e w1 ⟨rfl, hb1⟩
      have B1 := Lib.hid hb1
      clear hb1
      go_wp2_with fail
      refine (HRo.out _ B1.out).mono ?_
      rintro e w2 ⟨rfl, hb2⟩
      have B2 := Lib.hid (B1.out.nxt hb2)
      clear hb2
      go_wp2_with fail
      refine (HPr.out _ B2.out).mono ?_
      rintro e w3 ⟨A3, n3, c3, rfl, hn3, own3, hb3⟩
      have B3 := Lib.hid (B2.out.nxt hb3)
      obtain rfl : n3 = 0 := hn3
      clear own3 hb3
      go_wp2_with fail
      exact HP.out _ B3.out
    · have g1 : (at_ < 0) = False := by simp; omega
      have g2 : (255 < at_) = True := by simp [h]
      clear h
      go_enter Tryd.func10, Tryd.ntmps10
      go_wp2_with fail
      refine (HWk.out _ (Below.refl _ _)).mono ?_
      rintro e w1 ⟨rfl, hb1⟩
      have B1 := Lib.hid hb1
      clear hb1
      go_wp2_with fail
      refine (HRo.out _ B1.out).mono ?_
      rintro e w2 ⟨rfl, hb2⟩
      have B2 := Lib.hid (B1.out.nxt hb2)
      clear hb2
      go_wp2_with fail
      refine (HPr.out _ B2.out).mono ?_
      rintro e w3 ⟨A3, n3, c3, rfl, hn3, own3, hb3⟩
      have B3 := Lib.hid (B2.out.nxt hb3)
      obtain rfl : n3 = 0 := hn3
      clear own3 hb3
      go_wp2_with fail
      exact HP.out _ B3.out
  have g1 : (at_ < 0) = False := by simp; omega
  have g2 : (255 < at_) = False := by simp; omega
  obtain ⟨k, rfl⟩ := Int.eq_ofNat_of_zero_le (show 0 ≤ at_ by omega)
  have hk : k < 256 := by omega
  obtain ⟨s1, s2, s3⟩ := Trie.shown_at he k hk
  obtain ⟨h8, hg, hok, _⟩ := Trie.treeF_look he
  have H7 : Hid (∀ x ∈ (proveF l (k : Int)).1, x.length ≤ 700) := Lib.hid (fun x hx => told_700m hg _ x (Trie.proveF_len _ x hx))
  unfold RRootEnd at HRo
  rw [he, if_pos rfl] at HRo
  clear he hg ha
  generalize proveF l (k : Int) = pf at *
  obtain ⟨nodes, fc⟩ := pf
  simp only at s1 s2 s3 H7
  subst s1
  have HV := Lib.hid (fun A3 c3 W (hW : Below w.heap.size w W) (hR : Reads W W.heap.size 1 A3 nodes.length (strv nodes)) => receipt_Verify (Trie.sumT (treeF l).1) (k : Int) W (HTb.out W hW) nodes A3 c3 hR (by omega) (fun x hx => by have := H7.out x hx; omega))
  generalize Trie.sumT (treeF l).1 = sm at *
  by_cases hi : k < l.length
  rotate_left
  · rw [dif_neg hi] at s3
    rw [s3] at HV
    have g3 : ((l.length : Int) ≤ (k : Int)) = True := by simp; omega
    clear s3 hi hk h8 hok s2
    go_enter Tryd.func10, Tryd.ntmps10
    go_wp2_with fail
    refine (HWk.out _ (Below.refl _ _)).mono ?_
    rintro e w1 ⟨rfl, hb1⟩
    have B1 := Lib.hid hb1
    clear hb1
    go_wp2_with fail
    refine (HRo.out _ B1.out).mono ?_
    rintro e w2 ⟨rfl, hb2⟩
    have B2 := Lib.hid (B1.out.nxt hb2)
    clear hb2
    go_wp2_with fail
    refine (HPr.out _ B2.out).mono ?_
    rintro e w3 ⟨A3, n3, c3, rfl, hn3, own3, hb3⟩
    have B3 := Lib.hid (B2.out.nxt hb3)
    obtain rfl := hn3
    have R3 := Lib.hid (Reads.of_own own3)
    clear own3 hb3
    go_wp2_with fail
    refine (HV.out _ _ _ B3.out R3.out).mono ?_
    rintro e w4 ⟨rfl, hb4⟩
    have B4 := Lib.hid (B3.out.nxt hb4)
    have HAl : Hid (∀ f, Below w.heap.size w (w4.alloc (.cells f 76))) := Lib.hid (fun f => B4.out.nxt (by go_grown))
    clear hb4 R3 HV
    unfold rcV
    go_wp2_with fail
    exact HP.out _ (HAl.out _)
  rw [dif_pos hi] at s3
  rw [s3] at HV
  have hx := hok _ (List.getElem_mem hi)
  have ic := rcells_at hi
  have hil := rcells_length l
  obtain ⟨ad, off, hAe, hbl, hcell⟩ := HRw.out.form (by omega) (by omega)
  subst hAe
  have e0 : (rcells l)[3 * k]'(by omega) = .int .i64 l[k].1 := by
    have := ic.1; rw [List.getElem?_eq_getElem (by omega)] at this; exact Option.some.inj this
  have e1 : (rcells l)[3 * k + 1]'(by omega) = .string ⟨l[k].2.1.toArray⟩ := by
    have := ic.2.1; rw [List.getElem?_eq_getElem (by omega)] at this; exact Option.some.inj this
  have e2 : (rcells l)[3 * k + 2]'(by omega) = .int .i64 l[k].2.2 := by
    have := ic.2.2; rw [List.getElem?_eq_getElem (by omega)] at this; exact Option.some.inj this
  have q0 := hcell (3 * k) (by omega)
  have q1 := hcell (3 * k + 1) (by omega)
  have q2 := hcell (3 * k + 2) (by omega)
  rw [e0] at q0
  rw [e1] at q1
  rw [e2] at q2
  have HC : Hid (∀ W, Below w.heap.size w W → W.cell? ⟨ad, off + k * 3, none⟩ = some (.int .i64 l[k].1) ∧ W.cell? ⟨ad, off + k * 3 + 1, none⟩ = some (.string ⟨l[k].2.1.toArray⟩) ∧ W.cell? ⟨ad, off + k * 3 + 2, none⟩ = some (.int .i64 l[k].2.2)) := Lib.hid (fun W hb => by
    refine ⟨?_, ?_, ?_⟩
    · rw [show k * 3 = 3 * k by omega]; exact (hb.cell (p := ⟨ad, off + 3 * k, none⟩) hbl).trans q0
    · rw [show off + k * 3 + 1 = off + (3 * k + 1) by omega]; exact (hb.cell (p := ⟨ad, off + (3 * k + 1), none⟩) hbl).trans q1
    · rw [show off + k * 3 + 2 = off + (3 * k + 2) by omega]; exact (hb.cell (p := ⟨ad, off + (3 * k + 2), none⟩) hbl).trans q2)
  have g3 : ((l.length : Int) ≤ (k : Int)) = False := by simp; omega
  have g4 : (k : Int) < (l.length : Int) := by omega
  have g5 : (0 : Int) ≤ (k : Int) := by omega
  clear s3 hk h8 hok s2 ic hil e0 e1 e2 q0 q1 q2 hcell HRw
  generalize l[k] = x at *
  obtain ⟨xc, xf, xq⟩ := x
  obtain ⟨cn, rfl⟩ := Int.eq_ofNat_of_zero_le (show 0 ≤ xc from hx.1)
  obtain ⟨qn, rfl⟩ := Int.eq_ofNat_of_zero_le (show 0 ≤ xq from hx.2.2.2.2.1)
  simp only [Int.toNat_natCast] at HV HC
  clear hx hi
  go_enter Tryd.func10, Tryd.ntmps10
  go_wp2_with fail
  refine (HWk.out _ (Below.refl _ _)).mono ?_
  rintro e w1 ⟨rfl, hb1⟩
  have B1 := Lib.hid hb1
  clear hb1
  go_wp2_with fail
  refine (HRo.out _ B1.out).mono ?_
  rintro e w2 ⟨rfl, hb2⟩
  have B2 := Lib.hid (B1.out.nxt hb2)
  clear hb2
  go_wp2_with fail
  refine (HPr.out _ B2.out).mono ?_
  rintro e w3 ⟨A3, n3, c3, rfl, hn3, own3, hb3⟩
  have B3 := Lib.hid (B2.out.nxt hb3)
  obtain rfl := hn3
  have R3 := Lib.hid (Reads.of_own own3)
  clear own3 hb3
  go_wp2_with fail
  refine (HV.out _ _ _ B3.out R3.out).mono ?_
  rintro e w4 ⟨rfl, hb4⟩
  have B4 := Lib.hid (B3.out.nxt hb4)
  have HAl : Hid (∀ f, Below w.heap.size w (w4.alloc (.cells f 76))) := Lib.hid (fun f => B4.out.nxt (by go_grown))
  have HBk : Hid (∀ f, Blk (w4.alloc (.cells f 76)) w4.heap.size 76 f) := Lib.hid (fun f => Blk.new _ _ _)
  clear hb4 R3 HV
  unfold rcV
  go_upto_region 10 with fail
  have F5 : Hid (Blk (w4.alloc (.cells #[.int .i64 (cn : Int), .string ⟨xf.toArray⟩, .int .i64 (qn : Int)] 76)) w4.heap.size 76 #[.int .i64 (cn : Int), .string ⟨xf.toArray⟩, .int .i64 (qn : Int)] ∧ Below w.heap.size w (w4.alloc (.cells #[.int .i64 (cn : Int), .string ⟨xf.toArray⟩, .int .i64 (qn : Int)] 76))) := Lib.hid ⟨HBk.out _, HAl.out _⟩
  generalize w4.alloc (.cells #[.int .i64 (cn : Int), .string ⟨xf.toArray⟩, .int .i64 (qn : Int)] 76) = W5 at F5 ⊢
  generalize w4.heap.size = X at F5 ⊢
  obtain ⟨r0, r1, r2⟩ := HC.out W5 F5.out.2
  have k0 : W5.cell? ⟨X, 0, none⟩ = some (.int .i64 (cn : Int)) := F5.out.1.cell 0
  have k1 : W5.cell? ⟨X, 1, none⟩ = some (.string ⟨xf.toArray⟩) := F5.out.1.cell 1
  have k2 : W5.cell? ⟨X, 2, none⟩ = some (.int .i64 (qn : Int)) := F5.out.1.cell 2
  have HB5 := Lib.hid F5.out.2
  clear HC HAl HBk F5 B4
  go_upto_region 12 with fail
  go_quiet (fail)
  go_wp2_with fail
  exact HP.out _ (below_drewN HB5.out _)
end Go.Proofs.YtefcmigbdfeaiaaDoor

namespace Go.Proofs.YtefcmigbdfeaiaaDoor
set_option linter.unusedVariables false
open Go.RowKit Go.Instr Go.ChangeShapes Go.WideShapes Go.Deep
theorem open_receipts {H : Type} {enc : TypeId × Value → H} {W : World} {fuel : Nat} {A : Option Addr} {n c : Nat} {x : DataW H × List MemPlace}
    (h : DataW.trod enc Tryd.prog W 0 (fun _ => true) true fuel 72 [.slice A n c] = some x) :
    ∃ L : List (Int × List UInt8 × Int), L.length = n ∧ Reads W W.heap.size 3 A n (rcells L) ∧ n ≤ maxLen ∧ ∀ x ∈ L, x.2.1.length ≤ 9223372036854775807 := by
  rcases open_slice_fields Tryd.underlying72 Tryd.underlying76 (by kernel_rfl) (by kernel_rfl) h with ⟨e, _⟩ | ⟨a, len, cap, m, D, Pl, e, hb, hl, hcap, hm, _, hi⟩
  · injection e with e _
    injection e with e1 e2 e3
    subst e1
    subst e2
    exact ⟨[], rfl, Reads.none_, by simp only [maxLen]; omega, fun x hx => by cases hx⟩
  · injection e with e _
    injection e with e1 e2 e3
    subst e1
    subst e2
    have hmn : n ≤ m := by rw [hm]; simp only [if_true]; omega
    have each : ∀ i, i < n → ∃ s : Int × List UInt8 × Int, W.cell? (a.add (i * 3)) = some (.int .i64 s.1) ∧ W.cell? (a.add (i * 3 + 1)) = some (.string ⟨s.2.1.toArray⟩) ∧ W.cell? (a.add (i * 3 + 2)) = some (.int .i64 s.2.2) ∧ s.2.1.length ≤ 9223372036854775807 := fun i hin => by
      obtain ⟨ys, k, _, _, hyl, hf⟩ := hi i (by omega)
      obtain ⟨v0, y0, c0, _, t0⟩ := hf 0 _ rfl
      obtain ⟨v1, y1, c1, _, t1⟩ := hf 1 _ rfl
      obtain ⟨v2, y2, c2, _, t2⟩ := hf 2 _ rfl
      obtain ⟨s0, e0, _⟩ := DataW.trod_int Tryd.underlying28 t0
      obtain ⟨s1, e1, _, z1⟩ := DataW.trod_string Tryd.underlying9 t1
      obtain ⟨s2, e2, _⟩ := DataW.trod_int Tryd.underlying3 t2
      injection e0 with e0; injection e1 with e1; injection e2 with e2
      subst e0; subst e1; subst e2
      refine ⟨(s0, s1.data.toList, s2), c0, c1, c2, ?_⟩
      show s1.data.toList.length ≤ 9223372036854775807; simp only [maxLen] at z1; have e : s1.data.toList.length = s1.size := Array.length_toList; omega
    obtain ⟨L, hL, hc⟩ := list_of (fun i (s : Int × List UInt8 × Int) => W.cell? (a.add (i * 3)) = some (.int .i64 s.1) ∧ W.cell? (a.add (i * 3 + 1)) = some (.string ⟨s.2.1.toArray⟩) ∧ W.cell? (a.add (i * 3 + 2)) = some (.int .i64 s.2.2) ∧ s.2.1.length ≤ 9223372036854775807) n each
    refine ⟨L, hL, row_reads (by rw [rcells_length, hL]; omega) (by omega) (fun j u hu => ?_), by omega, fun x hx => by
      obtain ⟨i, hi2, rfl⟩ := List.getElem_of_mem hx
      exact (hc i _ (List.getElem?_eq_getElem hi2)).2.2.2⟩
    have hj : j < 3 * L.length := by have := (List.getElem?_eq_some_iff.1 hu).1; rwa [rcells_length] at this
    have hx : L[j / 3]? = some (L[j / 3]'(by omega)) := List.getElem?_eq_getElem (by omega)
    obtain ⟨k0, k1, k2, _⟩ := hc (j / 3) _ hx
    obtain ⟨i0, i1, i2⟩ := rcells_at (l := L) (i := j / 3) (by omega)
    have hm3 : j % 3 = 0 ∨ j % 3 = 1 ∨ j % 3 = 2 := by omega
    rcases hm3 with hm2 | hm2 | hm2
    · rw [show 3 * (j / 3) = j by omega, hu] at i0
      have i0' := Option.some.inj i0
      subst i0'
      rwa [show j / 3 * 3 = j by omega] at k0
    · rw [show 3 * (j / 3) + 1 = j by omega, hu] at i1
      have i1' := Option.some.inj i1
      subst i1'
      rwa [show j / 3 * 3 + 1 = j by omega] at k1
    · rw [show 3 * (j / 3) + 2 = j by omega, hu] at i2
      have i2' := Option.some.inj i2
      subst i2'
      rwa [show j / 3 * 3 + 2 = j by omega] at k2
end Go.Proofs.YtefcmigbdfeaiaaDoor
