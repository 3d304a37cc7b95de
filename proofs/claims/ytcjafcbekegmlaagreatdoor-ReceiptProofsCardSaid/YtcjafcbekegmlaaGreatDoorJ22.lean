import Derived.Test.YtcjafcbekegmlaaGreatDoorJ21
import Derived.Test.YtcjafcbekegmlaaGreatDoorJ13
set_option linter.unusedSimpArgs false
set_option linter.unusedVariables false
namespace Go.Proofs.YtcjafcbekegmlaaGreatDoor
set_option linter.unusedVariables false
open Go.RowKit Go.Instr
attribute [local go_sem] ba_get ByteArray.mk_append_mk
attribute [local go_sem ↓] Go.wp_at_zero Go.wp_at_succ
def TextsEnd (w : World) (l : List (List UInt8)) (e : Ending) (w' : World) : Prop :=
  ∃ A n c, e = .returned (.slice A n c) ∧ n = l.length ∧ w'.ownsRow w.heap.size 9 1 (.slice A n c) n (strv l) ∧ Below w.heap.size w w'
theorem own_lower {w : World} {base base' e size n : Nat} {v : Value} {xs : List Value} (h : w.ownsRow base e size v n xs) (hb : base' ≤ base) : w.ownsRow base' e size v n xs := by
  refine ⟨h.1, ?_⟩
  rcases h.2 with hn | ⟨g, cap, cur, h1, h2, rest⟩
  · exact .inl hn
  · exact .inr ⟨g, cap, cur, h1, Nat.le_trans hb h2, rest⟩
theorem TextsEnd.base {w W : World} {l : List (List UInt8)} {e : Ending} {w' : World} (hb : Below w.heap.size w W) (h : TextsEnd W l e w') : TextsEnd w l e w' := by
  obtain ⟨A, n, c, h1, h2, h3, h4⟩ := h
  exact ⟨A, n, c, h1, h2, own_lower h3 hb.size, hb.nxt h4⟩
def toldW (may : List UInt8 → Bool) (t : Trie.T) : List (List UInt8) := textsD (Trie.goT may t [])
theorem told_Visit (w0 : World) (fm : FuncId) (capsM : Array Value) (may : List UInt8 → Bool) (HM : MayF w0 fm capsM may) (bm bo : Nat) : Visit 100000 w0 117 #[.pointer (some ⟨bm, 0, none⟩), .pointer (some ⟨bo, 0, none⟩)] may (ToldI w0 fm capsM bm bo) where
  enters := enters_of (fn := Tryz.f117) (by kernel_rfl) (by kernel_rfl) rfl
  low := fun D W h => by obtain ⟨_, _, _, _, _, _, h, _⟩ := h; exact h
  next := fun D W W' h hb => h.next hb
  calls := fun D pl t x W hD hI hn ha hk => told_visit w0 fm capsM may HM bm bo D hD pl t x W hI hn ha hk
set_option maxHeartbeats 1000000 in
theorem trie_told (w : World) (t : Trie.T) (v : Value) (h : TrieP w t v) (hc : Trie.count t ≤ 20000) (fm : FuncId) (capsM : Array Value) (may : List UInt8 → Bool) (HM : MayF w fm capsM may) :
    Calls Tryz.prog 83 #[v, .func (.func fm) #[] capsM] w (TextsEnd w (toldW may t)) := by
  obtain ⟨hg, b, x, rfl, hbk, hk⟩ := h
  have HP : Hid (∀ A n c w', n = (toldW may t).length → w'.ownsRow w.heap.size 9 1 (.slice A n c) n (strv (toldW may t)) → Below w.heap.size w w' → TextsEnd w (toldW may t) (.returned (.slice A n c)) w') := Lib.hid (fun A n c w' h1 h2 h3 => ⟨A, n, c, rfl, h1, h2, h3⟩)
  have c0 : w.cell? ⟨b, 0, none⟩ = some x := hbk.cell 0
  have HLt := Lib.hid hbk.lt
  have HW : Hid (∀ W, ToldI w fm capsM w.heap.size (w.heap.size + 1) [] W → Calls Tryz.prog 116 #[x, .string ⟨#[]⟩, .func (.func 117) #[] #[.pointer (some ⟨w.heap.size, 0, none⟩), .pointer (some ⟨w.heap.size + 1, 0, none⟩)]] W (WalkEnd (ToldI w fm capsM w.heap.size (w.heap.size + 1)) (Trie.goT may t []))) :=
    Lib.hid (fun W hW => trie_walk 100000 w _ _ _ _ (told_Visit w fm capsM may HM w.heap.size (w.heap.size + 1)) t [] x [] W (by simpa using Trie.goT_short hg.wf hc _ []) hW (Trie.At.top hg) hk)
  have HD : Hid ((toldW may t).length = (Trie.goT may t []).length) := Lib.hid (by simp [toldW, textsD])
  generalize TextsEnd w (toldW may t) = P at HP ⊢
  have hx : x = .pointer none ∨ ∃ b2, x = .pointer (some ⟨b2, 0, none⟩) := by
    rcases hk.form with ⟨_, h⟩ | ⟨b2, _, _, h, _⟩
    · exact .inl h
    · exact .inr ⟨b2, h⟩
  clear hk hbk hg hc HM
  have HI0 : Hid (ToldI w fm capsM w.heap.size (w.heap.size + 1) [] ((w.alloc (.cells #[.func (.func fm) #[] capsM] 115)).alloc (.cells #[.slice none 0 0] 23))) := by
    have h1 := Blk.new (w.alloc (.cells #[.func (.func fm) #[] capsM] 115)) 23 #[.slice none 0 0]
    exact Lib.hid ⟨none, 0, 0, by simpa using h1, rfl, World.ownsRow_nil _ _ _ _, by go_grown, by omega, (Blk.new _ _ _).alloc _, Nat.le_refl _⟩
  have hal : ∀ o o2 : Obj, ((w.alloc o).alloc o2).cell? ⟨b, 0, none⟩ = some x := fun o o2 => ((((Below.refl _ w).alloc (Nat.le_refl _) o).alloc (by simp) o2).cell (p := ⟨b, 0, none⟩) HLt.out).trans c0
  rcases hx with rfl | ⟨b2, rfl⟩
  all_goals
    go_enter Tryz.func83, Tryz.ntmps83
    go_wp2_with (go_at_call 116; refine (HW.out _ HI0.out).mono ?_; rintro e w1 ⟨rfl, hI⟩; obtain ⟨A, n, c, h1, h2, h3, h4, h5, h6⟩ := hI; have co := h1.cell 0; have HH := Lib.hid (And.intro h1 (And.intro h2 (And.intro h3 h4))); clear h1 h2 h3 h4 h5 h6)
    exact HP.out _ _ _ _ (by rw [HD.out]; exact HH.out.2.1) HH.out.2.2.1 HH.out.2.2.2
def allW : List UInt8 → Bool := fun _ => true
def trailW (path : List UInt8) : List UInt8 → Bool := fun pl => decide (Nib.common pl path = pl.length)
set_option maxHeartbeats 1000000 in
theorem may_trail (w : World) (path : List UInt8) (hp : path.length ≤ 10000) (b : Nat) (hb : Blk w b 9 #[.string ⟨path.toArray⟩]) : MayF w 105 #[.pointer (some ⟨b, 0, none⟩)] (trailW path) where
  enters := enters_of (fn := Tryz.f105) (by kernel_rfl) (by kernel_rfl) rfl
  calls := fun pl W hf hl hW => by
    show Calls Tryz.prog 105 #[.string ⟨pl.toArray⟩, .pointer (some ⟨b, 0, none⟩)] W fun e W' => e = .returned (.bool (trailW path pl)) ∧ Below W.heap.size W W'
    have c0 : W.cell? ⟨b, 0, none⟩ = some (.string ⟨path.toArray⟩) := (hb.below hW hb.lt).cell 0
    have HCom : Hid (Calls Tryz.prog 106 #[.string ⟨pl.toArray⟩, .string ⟨path.toArray⟩] W fun e w' => e = .returned (.int .i64 ((Nib.common pl path : Nat) : Int)) ∧ Below W.heap.size W w') := Lib.hid (nib_Common pl path W (by omega) (by omega))
    have HR : Hid (trailW path pl = (((Nib.common pl path : Nat) : Int) == ((pl.length : Nat) : Int))) := Lib.hid (by unfold trailW; rw [Bool.eq_iff_iff]; simp; omega)
    clear hb hW
    go_enter Tryz.func105, Tryz.ntmps105
    go_wp2_with (go_at_call 106; refine HCom.out.mono ?_; rintro e w1 ⟨rfl, hb1⟩)
    go_ret
    exact ⟨ret_bool HR.out.symm, hb1⟩
set_option maxHeartbeats 1000000 in
theorem trie_Trail (w : World) (t : Trie.T) (v : Value) (h : TrieP w t v) (hc : Trie.count t ≤ 20000) (key : List UInt8) (hk : key.length ≤ 2000) :
    Calls Tryz.prog 68 #[v, .string ⟨key.toArray⟩] w (TextsEnd w (toldW (trailW (Nib.of key)) t)) := by
  have HP : Hid (∀ A n c w', n = (toldW (trailW (Nib.of key)) t).length → w'.ownsRow w.heap.size 9 1 (.slice A n c) n (strv (toldW (trailW (Nib.of key)) t)) → Below w.heap.size w w' → TextsEnd w (toldW (trailW (Nib.of key)) t) (.returned (.slice A n c)) w') := Lib.hid (fun A n c w' h1 h2 h3 => ⟨A, n, c, rfl, h1, h2, h3⟩)
  have HOf := Lib.hid (nib_Of key w (by omega))
  have HT : Hid (∀ W bp, Below w.heap.size w W → Blk W bp 9 #[.string ⟨(Nib.of key).toArray⟩] → Calls Tryz.prog 83 #[v, .func (.func 105) #[] #[.pointer (some ⟨bp, 0, none⟩)]] W (TextsEnd w (toldW (trailW (Nib.of key)) t))) :=
    Lib.hid (fun W bp h1 h2 => (trie_told W t v (h.next h1) hc _ _ _ (may_trail W (Nib.of key) (by rw [Nib.of_length]; omega) bp h2)).mono (fun e w' he => he.base h1))
  generalize TextsEnd w (toldW (trailW (Nib.of key)) t) = P at HP ⊢
  obtain ⟨_, b, x, rfl, _, _⟩ := h
  clear hc
  go_enter Tryz.func68, Tryz.ntmps68
  go_wp2_with (first | (go_at_call 53; refine HOf.out.mono ?_; rintro e w1 ⟨rfl, hb1⟩) | (go_at_call 83; refine (HT.out _ w1.heap.size (hb1.alloc hb1.size _) (Blk.new _ _ _)).mono ?_; rintro e w2 ⟨A, n, c, rfl, h1, h2, h3⟩; have HH := Lib.hid (And.intro h1 (And.intro h2 h3)); clear h1 h2 h3))
  exact HP.out _ _ _ _ HH.out.1 HH.out.2.1 HH.out.2.2
end Go.Proofs.YtcjafcbekegmlaaGreatDoor

namespace Go.Proofs.YtcjafcbekegmlaaGreatDoor
set_option linter.unusedVariables false
open Nib
def stepW (n : Nd) (left : List UInt8) : List UInt8 × List UInt8 :=
  if common n.2.1 left ≠ n.2.1.length then ([], [])
  else if n.1 = 2 then (n.2.2.2.getD 0 [], left.drop n.2.1.length)
  else if n.1 = 1 ∧ n.2.1.length < left.length then ([], [])
  else if n.1 = 1 ∨ left = [] then ([], n.2.2.1)
  else if n.2.2.2.getD (left.headD 0).toNat [] = [] then ([], [])
  else (n.2.2.2.getD (left.headD 0).toNat [], left.tail)
def followW : List UInt8 → List UInt8 → List (List UInt8) → Nat → List UInt8 × Nat × Bool
  | _, _, [], k => ([], k, false)
  | sought, left, x :: r, k =>
    if shaW (1 :: x) ≠ sought ∨ (decN x).2 ≠ 0 then ([], k, false)
    else if (stepW (decN x).1 left).1 = [] then ((stepW (decN x).1 left).2, k + 1, true)
    else followW (stepW (decN x).1 left).1 (stepW (decN x).1 left).2 r (k + 1)
def verifyW (root key : List UInt8) (nodes : List (List UInt8)) : List UInt8 × Bool × Nat :=
  if Trie.keyedW key = false then ([], false, 1)
  else if root = [] then (if nodes = [] then ([], false, 0) else ([], false, 130))
  else if (followW root (Nib.of key) nodes 0).2.2 = true ∧ (followW root (Nib.of key) nodes 0).2.1 = nodes.length then ((followW root (Nib.of key) nodes 0).1, decide ((followW root (Nib.of key) nodes 0).1 ≠ []), 0)
  else ([], false, 130)
theorem followW_cons (s left x : List UInt8) (r : List (List UInt8)) (k : Nat) : followW s left (x :: r) k = if shaW (1 :: x) ≠ s ∨ (decN x).2 ≠ 0 then ([], k, false)
    else if (stepW (decN x).1 left).1 = [] then ((stepW (decN x).1 left).2, k + 1, true)
    else followW (stepW (decN x).1 left).1 (stepW (decN x).1 left).2 r (k + 1) := rfl
theorem followW_le : ∀ (r : List (List UInt8)) (s l : List UInt8) (k : Nat), (followW s l r k).2.1 ≤ k + r.length
  | [], _, _, _ => by simp [followW]
  | x :: r, s, l, k => by
    rw [followW_cons]
    split
    · show k ≤ _
      omega
    · split
      · show k + 1 ≤ _
        simp
      · have := followW_le r (stepW (decN x).1 l).1 (stepW (decN x).1 l).2 (k + 1)
        rw [List.length_cons]; omega
theorem headD_ix {a : UInt8} (h : a ≤ 15) : a.toNat = (Trie.ix a).val := by
  have : a.toNat ≤ 15 := by rw [UInt8.le_iff_toNat_le] at h; exact h
  unfold Trie.ix
  simp
  omega
namespace Trie
def nd (t : T) : Nd := (kindT t, pathT t, valT t, sumsT t)
theorem decN_text {t : T} (hn : t ≠ .nil) (hw : wf t) (hs : small t) : decN (textT t) = (nd t, 0) :=
  decN_of (nd t) (sumsT_length t) (fineT hn hw hs)
theorem sum_text {t : T} (hn : t ≠ .nil) : shaW (1 :: textT t) = sumT t := (sumT_eq hn).symm
def trailT : T → List UInt8 → List T
  | .nil, _ => []
  | .leaf p v, _ => [.leaf p v]
  | .ext p t, q => .ext p t :: if common p q = p.length then trailT t (q.drop p.length) else []
  | .branch v kids, q => .branch v kids :: match q with
    | [] => []
    | b :: r => trailT (kids (ix b)) r
theorem step_leaf (p v q : List UInt8) : stepW (nd (.leaf p v)) q = ([], look (.leaf p v) q) := by
  unfold stepW nd
  simp only [pathT, kindT, valT, look]
  by_cases h : common p q = p.length
  · rw [if_neg (by simpa using h), if_neg (by decide)]
    have hq := prefix_common.1 h
    have hle := (common_le p q).2
    by_cases hl : p.length < q.length
    · rw [if_pos ⟨trivial, hl⟩, if_neg (fun e => by rw [e] at hl; omega)]
    · rw [if_neg (fun e => hl e.2), if_pos (.inl trivial), if_pos]
      rw [hq, List.drop_of_length_le (by omega), List.append_nil]
  · rw [if_pos h, if_neg (fun e => h (by subst e; have := (common_take q q q.length).2 ⟨Nat.le_refl _, Nat.le_refl _, rfl⟩; have := (common_le q q).1; omega))]
theorem step_ext (p q : List UInt8) (t : T) : stepW (nd (.ext p t)) q = if common p q = p.length then (sumT t, q.drop p.length) else ([], []) := by
  unfold stepW nd
  simp only [pathT, kindT, valT]
  by_cases h : common p q = p.length
  · rw [if_neg (by simpa using h), if_pos trivial, if_pos h]
    rfl
  · rw [if_pos h, if_neg h]
theorem step_end (v : List UInt8) (kids : Fin 16 → T) : stepW (nd (.branch v kids)) [] = ([], v) := by
  unfold stepW nd
  simp only [pathT, kindT, valT]
  rfl
theorem common_nil (q : List UInt8) : common [] q = 0 := by cases q <;> rfl
theorem stepW_branch (v : List UInt8) (K : List (List UInt8)) (b : UInt8) (r : List UInt8) : stepW (3, [], v, K) (b :: r) = if K.getD b.toNat [] = [] then ([], []) else (K.getD b.toNat [], r) := by
  unfold stepW
  simp [common_nil]
theorem step_branch (v : List UInt8) (kids : Fin 16 → T) (b : UInt8) (r : List UInt8) (hb : b ≤ 15) : stepW (nd (.branch v kids)) (b :: r) = if sumT (kids (ix b)) = [] then ([], []) else (sumT (kids (ix b)), r) := by
  have e : (sumsT (.branch v kids)).getD b.toNat [] = sumT (kids (ix b)) := by
    rw [headD_ix hb, sumsT_at]
    rfl
  show stepW (3, [], v, sumsT (.branch v kids)) (b :: r) = _
  rw [stepW_branch]
  simp only [e]
theorem sumT_empty {t : T} : sumT t = [] ↔ t = .nil := by
  constructor
  · intro h
    refine Classical.byContradiction fun hn => ?_
    have := sumT_len hn
    rw [h] at this
    cases this
  · intro h; subst h; rfl
theorem follow_trail (t : T) : ∀ (q : List UInt8) (k : Nat), t ≠ .nil → wf t → small t → fit q = true → followW (sumT t) q ((trailT t q).map textT) k = (look t q, k + (trailT t q).length, true) := by
  induction t with
  | nil => intro q k h; exact absurd rfl h
  | leaf p v =>
    intro q k hn hw hs hq
    simp only [trailT, List.map_cons, List.map_nil, List.length_singleton]
    rw [followW_cons, decN_text hn hw hs, sum_text hn, if_neg (by simp), step_leaf, if_pos rfl]
  | ext p t ih =>
    intro q k hn hw hs hq
    have hnt : t ≠ .nil := fun e => by have := hw.2.2.1; rw [e] at this; cases this
    simp only [trailT, List.map_cons, List.length_cons]
    rw [followW_cons, decN_text hn hw hs, sum_text hn, if_neg (by simp), step_ext]
    simp only [look]
    by_cases hc : common p q = p.length
    · rw [if_pos hc, if_pos hc, if_pos hc, if_neg (fun e => hnt (sumT_empty.1 e)), ih _ _ hnt hw.2.2.2 (small_ext hw.1 hs) (fit_drop _ hq)]
      simp only [Prod.mk.injEq, true_and, and_true]
      omega
    · rw [if_neg hc, if_neg hc, if_neg hc, if_pos rfl]
      rfl
  | branch v kids ih =>
    intro q k hn hw hs hq
    cases q with
    | nil =>
      simp only [trailT, List.map_cons, List.map_nil, List.length_singleton]
      rw [followW_cons, decN_text hn hw hs, sum_text hn, if_neg (by simp), step_end, if_pos rfl]
      rfl
    | cons b r =>
      obtain ⟨hb, hr⟩ := fit_cons hq
      simp only [trailT, List.map_cons, List.length_cons]
      rw [followW_cons, decN_text hn hw hs, sum_text hn, if_neg (by simp), step_branch _ _ _ _ hb]
      simp only [look]
      by_cases he : kids (ix b) = .nil
      · rw [if_pos (sumT_empty.2 he), if_pos rfl, he]
        rfl
      · rw [if_neg (fun e => he (sumT_empty.1 e)), if_neg (fun e => he (sumT_empty.1 e)), ih _ _ _ he (hw.1 _) (small_kid hs _) hr]
        simp only [Prod.mk.injEq, true_and, and_true]
        omega
theorem trailW_iff {path pl : List UInt8} : trailW path pl = true ↔ path = pl ++ path.drop pl.length := by
  unfold trailW
  rw [decide_eq_true_eq]
  exact prefix_common
theorem goT_no (may : List UInt8 → Bool) (t : T) (pl : List UInt8) (h : may pl = false) : goT may t pl = [] := by
  cases t <;> simp [goT, h]
theorem goT_trail (t : T) : ∀ (pl q : List UInt8), wf t → fit q = true → (goT (trailW (pl ++ q)) t pl).map (·.2) = trailT t q := by
  have yes : ∀ pl q : List UInt8, trailW (pl ++ q) pl = true := fun pl q => trailW_iff.2 (by simp)
  induction t with
  | nil => intro pl q _ _; rfl
  | leaf p v => intro pl q _ _; simp [goT, yes, trailT]
  | ext p t ih =>
    intro pl q hw hq
    simp only [goT, yes, if_true, List.map_cons, trailT]
    congr 1
    by_cases hc : common p q = p.length
    · rw [if_pos hc, ← ih (pl ++ p) (q.drop p.length) hw.2.2.2 (fit_drop _ hq), List.append_assoc, ← prefix_common.1 hc]
    · rw [if_neg hc, goT_no _ _ _ _]
      · rfl
      · rw [Bool.eq_false_iff]
        intro h
        have := trailW_iff.1 h
        rw [List.append_assoc] at this
        have h2 := List.append_cancel_left this
        apply hc
        rw [prefix_common]
        rw [h2]
        simp
  | branch v kids ih =>
    intro pl q hw hq
    simp only [goT, yes, if_true, List.map_cons]
    cases q with
    | nil =>
      show T.branch v kids :: _ = T.branch v kids :: []
      congr 1
      rw [List.map_eq_nil_iff, List.flatMap_eq_nil_iff]
      intro i _
      refine goT_no _ _ _ ?_
      rw [Bool.eq_false_iff]
      intro h
      have := congrArg List.length (trailW_iff.1 h)
      simp at this
    | cons b r =>
      obtain ⟨hb, hr⟩ := fit_cons hq
      show T.branch v kids :: _ = T.branch v kids :: trailT (kids (ix b)) r
      congr 1
      rw [List.map_flatMap]
      have key : ∀ i : Fin 16, (goT (trailW (pl ++ b :: r)) (kids i) (pl ++ [Trie.hb i])).map (·.2) = if i = ix b then trailT (kids (ix b)) r else [] := by
        intro i
        by_cases e : i = ix b
        · subst e
          rw [if_pos rfl, ← ih (ix b) (pl ++ [Trie.hb (ix b)]) r (hw.1 _) hr, List.append_assoc]
          have : Trie.hb (ix b) = b := by
            unfold Trie.hb
            apply UInt8.toNat_inj.1
            have h15 : b.toNat ≤ 15 := by rw [UInt8.le_iff_toNat_le] at hb; exact hb
            simp [ix]
            omega
          rw [this]
          rfl
        · rw [if_neg e, goT_no]
          · rfl
          · rw [Bool.eq_false_iff]
            intro h
            have := trailW_iff.1 h
            rw [List.append_assoc] at this
            have h2 := List.append_cancel_left this
            simp only [List.cons_append, List.nil_append, List.cons.injEq] at h2
            apply e
            have h3 := (ix_of i).1
            rw [← h3]
            show ix (UInt8.ofNat i.val) = ix b
            rw [h2.1]
            rfl
      simp only [key]
      have h2 : ∀ l : List (Fin 16), l.Nodup → (l.flatMap fun j => if j = ix b then trailT (kids (ix b)) r else []) = if ix b ∈ l then trailT (kids (ix b)) r else [] := by
        intro l
        induction l with
        | nil => intro _; rfl
        | cons a l ihl =>
          intro hn
          rw [List.nodup_cons] at hn
          rw [List.flatMap_cons, ihl hn.2]
          by_cases e : a = ix b
          · subst e; rw [if_pos rfl, if_neg hn.1]; simp
          · rw [if_neg e]
            simp [show ¬ ix b = a from fun h => e h.symm]
      rw [h2 _ (List.nodup_finRange 16), if_pos (List.mem_finRange _)]
theorem told_trail {t : T} (hw : wf t) {q : List UInt8} (hq : fit q = true) : toldW (trailW q) t = (trailT t q).map textT := by
  rw [← goT_trail t [] q hw hq, List.nil_append, toldW, textsD, List.map_map]
  rfl
theorem verify_whole {t : T} (h : Good t) {key : List UInt8} (hk : keyedW key = true) : verifyW (sumT t) key (toldW (trailW (Nib.of key)) t) = (look t (Nib.of key), decide (look t (Nib.of key) ≠ []), 0) := by
  unfold verifyW
  rw [if_neg (by simp [hk]), told_trail h.wf (Nib.fit_of key)]
  by_cases hn : t = .nil
  · subst hn
    rw [if_pos (show sumT .nil = [] from rfl), if_pos (show (trailT .nil (Nib.of key)).map textT = [] from rfl)]
    rfl
  · rw [if_neg (fun e => hn (sumT_empty.1 e)), follow_trail t _ 0 hn h.wf h.small (Nib.fit_of key)]
    simp
end Trie
end Go.Proofs.YtcjafcbekegmlaaGreatDoor

namespace Go.Proofs.YtcjafcbekegmlaaGreatDoor
set_option linter.unusedVariables false
open Go.RowKit Go.Instr
attribute [local go_sem] ba_get ByteArray.mk_append_mk
attribute [local go_sem ↓] Go.wp_at_zero Go.wp_at_succ
namespace Trie
end Trie
theorem icells_at {l : List (List UInt8 × List UInt8)} {i : Nat} (h : i < l.length) : (icells l)[2 * i]? = some (.string ⟨l[i].1.toArray⟩) ∧ (icells l)[2 * i + 1]? = some (.string ⟨l[i].2.toArray⟩) := by
  induction l generalizing i with
  | nil => simp at h
  | cons a l ih =>
    rcases i with _ | i
    · simp [icells]
    · have := ih (show i < l.length by simpa using h)
      rw [show 2 * (i + 1) = 2 * i + 1 + 1 by omega]
      simpa [icells] using this
theorem icells_length (l : List (List UInt8 × List UInt8)) : (icells l).length = 2 * l.length := by
  induction l with
  | nil => rfl
  | cons a l ih =>
    rw [show icells (a :: l) = .string ⟨a.1.toArray⟩ :: .string ⟨a.2.toArray⟩ :: icells l from rfl, List.length_cons, List.length_cons, ih, List.length_cons]; omega
end Go.Proofs.YtcjafcbekegmlaaGreatDoor

namespace Go.Proofs.YtcjafcbekegmlaaGreatDoor
set_option linter.unusedVariables false
open Go.RowKit Go.Instr
theorem take_eq_succ' {α : Type} {xs ys : List α} {i : Nat} (h1 : i < xs.length) (h2 : i < ys.length) (h : xs.take i = ys.take i) : (xs.take (i + 1) = ys.take (i + 1)) ↔ xs[i] = ys[i] := by
  rw [List.take_succ_eq_append_getElem h1, List.take_succ_eq_append_getElem h2, h]
  exact ⟨fun e => by simpa using List.append_cancel_left e, fun e => by rw [e]⟩
set_option maxHeartbeats 400000 in
theorem book_SameTexts (A B : Option Addr) (n m c d : Nat) (xs ys : List (List UInt8)) (w : World) (ha : Reads w w.heap.size 1 A n (strv xs)) (hb : Reads w w.heap.size 1 B m (strv ys)) (hn : n ≤ 1048576) (hm : m ≤ 1048576) :
    Calls Tryz.prog 16 #[.slice A n c, .slice B m d] w fun e w' => e = .returned (.bool (decide (xs = ys))) ∧ Below w.heap.size w w' := by
  have hxl : xs.length = n := by have := ha.1; rw [strv_length] at this; omega
  have hyl : ys.length = m := by have := hb.1; rw [strv_length] at this; omega
  by_cases hnm : n = m
  · subst hnm
    have hq : ((n : Int) == (n : Int)) = true := by simp
    go_enter Tryz.func16, Tryz.ntmps16
    go_wp2
    refine wp_loop_ghost_k (fun k a wr => ∀ Φ : Act → Prop, (∀ (s2 s3 s4 s7 s8 s9 s10 s11 s12 s13 s14 s15 s16 s17 s18 s19 s20 s21 s22 s23 s24 s25 s26 s27 s28 s29 s30 : Value) (i : Nat) (q : Bool), (i + k = n ∧ (q = true ↔ xs.take i = ys.take i) ∧ (q = false → xs ≠ ys) ∧ Below w.heap.size w wr) → Φ { tmps := #[.slice A n c, .slice B n d, s2, s3, s4, .bool q, .int .i64 i, s7, s8, s9, s10, s11, s12, s13, s14, s15, s16, s17, s18, s19, s20, s21, s22, s23, s24, s25, s26, s27, s28, s29, s30], defers := [] }) → Φ a) (n) ?_ ?_
    · refine fun Φ hΦ => hΦ _ _ _ _ _ _ _ _ _ _ _ _ _ _ _ _ _ _ _ _ _ _ _ _ _ _ _ (0) (true) ?_
      exact ⟨by omega, by simp, by simp, Below.refl _ _⟩
    · intro k1 a1 wr1 hI1 J1 K1 hJ1 hK1
      refine hI1 (fun a => Code.wp _ _ _ a _) ?_
      clear hI1 a1
      intro s0 s1 s2 s3 s4 s5 s6 s7 s8 s9 s10 s11 s12 s13 s14 s15 s16 s17 s18 s19 s20 s21 s22 s23 s24 s25 s26 i q hrel
      show Code.wp _ _ _ _ _
      obtain ⟨h1, h2, h3, hw⟩ := hrel
      cases q with
      | false =>
        have h3' : xs ≠ ys := by simpa using h3
        have H3 := Lib.hid h3'
        clear h3'
        clear h2 h3
        go_wp2
        go_ret
        exact ⟨ret_bool (by simpa using H3.out), hw⟩
      | true =>
        have H2 := Lib.hid h2
        clear h2 h3
        by_cases hi : i < n
        · obtain ⟨b1, o1, rfl, hl1, hc1⟩ := ha.form (by omega) (by omega)
          obtain ⟨b2, o2, rfl, hl2, hc2⟩ := hb.form (by omega) (by omega)
          have g1 := (hw.cell (p := ⟨b1, o1 + i, none⟩) hl1).trans (hc1 i (by rw [strv_length]; omega))
          have g2 := (hw.cell (p := ⟨b2, o2 + i, none⟩) hl2).trans (hc2 i (by rw [strv_length]; omega))
          simp only [strv, List.getElem_map] at g1 g2
          clear hc1 hc2
          go_wp2
          go_quiet (fail)
          go_wp2
          refine Handed.intro (n - (i + 1)) ?_ (hJ1 _ _ _ (fun Φ hΦ => hΦ _ _ _ _ _ _ _ _ _ _ _ _ _ _ _ _ _ _ _ _ _ _ _ _ _ _ _ (i + 1) (xs[i] == ys[i]) ?_))
          · omega
          · have hx := take_eq_succ' (xs := xs) (ys := ys) (i := i) (by omega) (by omega) (by simpa using H2.out)
            refine ⟨by omega, ?_, ?_, below_drewN hw _⟩
            · rw [hx]; simp
            · intro hq e
              subst e
              simp at hq
        · have e : i = n := by omega
          subst e
          go_wp2
          go_ret
          exact ⟨ret_bool (by have h2 : xs.take i = ys.take i := by simpa using H2.out
                              rw [List.take_of_length_le (by omega), List.take_of_length_le (by omega)] at h2
                              simpa using h2), hw⟩
  · have hq : ((n : Int) == (m : Int)) = false := by rw [beq_eq_false_iff_ne]; omega
    go_enter Tryz.func16, Tryz.ntmps16
    go_wp2
    refine wp_loop_rounds 1 ?_
    rw [rounds_succ]
    go_wp2
    go_ret
    exact ⟨ret_bool (by symm; rw [decide_eq_false_iff_not]; intro e; subst e; omega), Below.refl _ _⟩
end Go.Proofs.YtcjafcbekegmlaaGreatDoor
