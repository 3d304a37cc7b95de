import Derived.Test.YtaplecncnkkigaaDoorK25
import Derived.Test.YtaplecncnkkigaaDoorK22
import Derived.Test.YtaplecncnkkigaaDoorK26
import Derived.Test.YtaplecncnkkigaaDoorK01
/- The walks of layer 10 (trie): Cover. No conditions. -/
namespace Go.Proofs.YtaplecncnkkigaaDoor
set_option linter.unusedVariables false
open Go.RowKit Go.Instr
attribute [local go_sem] ba_get ByteArray.mk_append_mk
attribute [local go_sem ↓] Go.wp_at_zero Go.wp_at_succ

theorem blk_set0 {w : World} {g : Nat} {t : TypeId} {u v : Value} (h : Blk w g t #[u]) : Blk (w.setCell ⟨g, 0, none⟩ v) g t #[v] := h.set_ 0 v
theorem blk_new' (w : World) (t : TypeId) (cs : Array Value) {g : Nat} (h : g = w.heap.size) : Blk (w.alloc (.cells cs t)) g t cs := by subst h; exact Blk.new w t cs
def CoverIn (w : World) (low high end_ : List UInt8) (b5 : Nat) (p7 p8 : Value) (wx : World) : Prop :=
  ∃ b7 b8, p7 = .pointer (some ⟨b7, 0, none⟩) ∧ p8 = .pointer (some ⟨b8, 0, none⟩) ∧ Blk wx b7 9 #[.string ⟨low.toArray⟩] ∧ Blk wx b5 9 #[.string ⟨end_.toArray⟩] ∧ Blk wx b8 9 #[.string ⟨high.toArray⟩] ∧ Below w.heap.size w wx
set_option maxRecDepth 100000 in
set_option maxHeartbeats 2000000 in
theorem trie_Cover (w : World) (t : Trie.T) (v : Value) (h : TrieP w t v) (hc : Trie.count t ≤ 20000) (from_ end_ : List UInt8) (h1 : from_.length ≤ 2000) (h2 : end_.length ≤ 2000) :
    Calls Tryd.prog 22 #[v, .string ⟨from_.toArray⟩, .string ⟨end_.toArray⟩] w (TextsEnd w (toldW (coverW (Nib.of from_) (Nib.of end_) end_) t)) := by
  have HP : Hid (∀ A n c w', n = (toldW (coverW (Nib.of from_) (Nib.of end_) end_) t).length → w'.ownsRow w.heap.size 9 1 (.slice A n c) n (strv (toldW (coverW (Nib.of from_) (Nib.of end_) end_) t)) → Below w.heap.size w w' → TextsEnd w (toldW (coverW (Nib.of from_) (Nib.of end_) end_) t) (.returned (.slice A n c)) w') := Lib.hid (fun A n c w' h1 h2 h3 => ⟨A, n, c, rfl, h1, h2, h3⟩)
  have HO1 : Hid (∀ W, Calls Tryd.prog 52 #[.string ⟨from_.toArray⟩] W fun e w' => e = .returned (.string ⟨(Nib.of from_).toArray⟩) ∧ Below W.heap.size W w') := Lib.hid (fun W => nib_Of from_ W h1)
  have HO2 : Hid (∀ W, Calls Tryd.prog 52 #[.string ⟨end_.toArray⟩] W fun e w' => e = .returned (.string ⟨(Nib.of end_).toArray⟩) ∧ Below W.heap.size W w') := Lib.hid (fun W => nib_Of end_ W h2)
  have HT : Hid (∀ W b7 b5 b8, Below w.heap.size w W → Blk W b7 9 #[.string ⟨(Nib.of from_).toArray⟩] → Blk W b5 9 #[.string ⟨end_.toArray⟩] → Blk W b8 9 #[.string ⟨(Nib.of end_).toArray⟩] → Calls Tryd.prog 50 #[v, .func (.func 55) #[] #[.pointer (some ⟨b7, 0, none⟩), .pointer (some ⟨b5, 0, none⟩), .pointer (some ⟨b8, 0, none⟩)]] W (TextsEnd w (toldW (coverW (Nib.of from_) (Nib.of end_) end_) t))) :=
    Lib.hid (fun W b7 b5 b8 k0 k7 k5 k8 => (trie_told W t v (h.next k0) hc _ _ _ (may_cover W (Nib.of from_) (Nib.of end_) end_ (by rw [Nib.of_length]; omega) (by rw [Nib.of_length]; omega) b7 b5 b8 k7 k5 k8)).mono (fun e w' he => he.base k0))
  generalize TextsEnd w (toldW (coverW (Nib.of from_) (Nib.of end_) end_) t) = P at HP ⊢
  obtain ⟨_, b, x, rfl, _, _⟩ := h
  clear hc h1 h2
  generalize Nib.of from_ = low at *
  generalize Nib.of end_ = high at *
  go_enter Tryd.func22, Tryd.ntmps22
  go_upto_region 1 with fail
  have F0 : Hid (Blk (w.alloc (.cells #[.string ⟨end_.toArray⟩] 9)) w.heap.size 9 #[.string ⟨end_.toArray⟩] ∧ Below w.heap.size w (w.alloc (.cells #[.string ⟨end_.toArray⟩] 9))) := Lib.hid ⟨Blk.new _ _ _, by go_grown⟩
  generalize w.alloc (.cells #[.string ⟨end_.toArray⟩] 9) = W0 at F0 ⊢
  have c5 : W0.cell? ⟨w.heap.size, 0, none⟩ = some (.string ⟨end_.toArray⟩) := F0.out.1.cell 0
  have hal : ∀ o : Obj, (W0.alloc o).cell? ⟨w.heap.size, 0, none⟩ = some (.string ⟨end_.toArray⟩) := fun o => (((Below.refl _ W0).alloc (Nat.le_refl _) o).cell (p := ⟨w.heap.size, 0, none⟩) F0.out.1.lt).trans c5
  go_cut [7, 8] (fun s7 s8 wx => CoverIn w low high end_ w.heap.size s7 s8 wx)
  case first =>
    have HLt0 := Lib.hid F0.out.1.lt
    have hal2 : ∀ o o2 : Obj, ((W0.alloc o).alloc o2).cell? ⟨w.heap.size, 0, none⟩ = some (.string ⟨end_.toArray⟩) := fun o o2 => ((((Below.refl _ W0).alloc (Nat.le_refl _) o).alloc (by simp) o2).cell (p := ⟨w.heap.size, 0, none⟩) F0.out.1.lt).trans c5
    have hlt0 := F0.out.1.lt
    go_region_held3 (fun w' => w'.cell? ⟨w.heap.size, 0, none⟩ = some (.string ⟨end_.toArray⟩)) (first | go_keep | assumption | (simp [*]; done) | (repeat (first | assumption | (rw [World.cell?_alloc_lt _ _ _ (by simp; omega)]) | (rw [World.cell?_setCell_other _ _ _ _ (by intro e; injection e with e; omega)])))) (first
      | (go_at_call 52; ((with_reducible refine (HO1.out _).mono ?_); rintro e w1 ⟨rfl, hb1⟩; have hz1 := hb1.size; (try simp only [World.size_alloc, World.size_drew] at hz1); (try have q5 : W0.heap.size < w1.heap.size := (by omega)); (try have q6 : W0.heap.size + 1 < w1.heap.size := (by omega)); have q0 : w.heap.size < w1.heap.size := (by omega); obtain ⟨hc1, hf1⟩ := bcell hb1; (try simp only [World.size_alloc, World.size_drew] at hc1 hf1); have d5 : w1.cell? ⟨w.heap.size, 0, none⟩ = some (.string ⟨end_.toArray⟩) := (hb1.cell (p := ⟨w.heap.size, 0, none⟩) (by simp; omega)).trans (by first | exact c5 | exact hal _ | exact hal2 _ _)))
      | (go_at_call 52; ((with_reducible refine (HO2.out _).mono ?_); rintro e w2 ⟨rfl, hb2⟩; have hz2 := hb2.size; (try simp only [World.size_alloc, World.size_drew] at hz2); (try have q1 : w1.heap.size < w2.heap.size := (by omega)); (try have q2 : w1.heap.size + 1 < w2.heap.size := (by omega)); (try have q3 : W0.heap.size < w2.heap.size := (by omega)); (try have q4 : W0.heap.size + 1 < w2.heap.size := (by omega)); have q9 : w.heap.size < w2.heap.size := (by omega); obtain ⟨hc2, hf2⟩ := bcell hb2; (try simp only [World.size_alloc, World.size_drew] at hc2 hf2); have d6 : w2.cell? ⟨w.heap.size, 0, none⟩ = some (.string ⟨end_.toArray⟩) := (hb2.cell (p := ⟨w.heap.size, 0, none⟩) (by simp; omega)).trans (by first | assumption | (simp [*]; done)))))
    all_goals go_wp2
    all_goals go_meet
    all_goals refine ⟨_, _, rfl, rfl, ?_, ?_, ?_, ?_⟩
    all_goals repeat' (first
      | (with_reducible exact F0.out.1)
      | (with_reducible exact F0.out.2)
      | (with_reducible exact Blk.new _ _ _)
      | (with_reducible refine Blk.drew ?_)
      | (with_reducible refine blk_set0 (u := .string ⟨#[]⟩) ?_)
      | (with_reducible refine Blk.far ?_ (by first | omega | (simp only [World.size_alloc, World.size_drew, World.size_setCell]; omega)) _)
      | ((with_reducible apply blk_new'); (first | rfl | (simp only [World.size_alloc, World.size_drew, World.size_setCell]; done)))
      | (with_reducible refine Blk.alloc ?_ _)
      | (with_reducible refine Blk.below ?_ hb2 (by first | omega | (simp only [World.size_alloc, World.size_drew, World.size_setCell]; omega)))
      | (with_reducible refine Blk.below ?_ hb1 (by first | omega | (simp only [World.size_alloc, World.size_drew, World.size_setCell]; omega)))
      | (with_reducible refine Below.drew ?_)
      | (with_reducible refine Below.alloc ?_ (by first | omega | (simp only [World.size_alloc, World.size_drew, World.size_setCell]; omega)) _)
      | (with_reducible refine Below.setCell ?_ (by first | omega | (simp only [World.size_alloc, World.size_drew, World.size_setCell]; omega)) _)
      | (with_reducible refine Below.trans ?_ (hb2.mono (by first | omega | (simp only [World.size_alloc, World.size_drew, World.size_setCell]; omega))))
      | (with_reducible refine Below.trans ?_ (hb1.mono (by first | omega | (simp only [World.size_alloc, World.size_drew, World.size_setCell]; omega)))))
  case rest =>
    obtain ⟨b7, b8, h7, h8, k7, k5, k8, kb⟩ := hcut
    subst h7
    subst h8
    have HC := Lib.hid (And.intro k7 (And.intro k5 (And.intro k8 kb)))
    clear k7 k5 k8 kb c5 hal F0
    go_wp2_with (go_at_call 50; refine (HT.out _ b7 w.heap.size b8 HC.out.2.2.2 HC.out.1 HC.out.2.1 HC.out.2.2.1).mono ?_; rintro e w2 ⟨A, n, c, rfl, h1, h2, h3⟩; have HH := Lib.hid (And.intro h1 (And.intro h2 h3)); clear h1 h2 h3)
    exact HP.out _ _ _ _ HH.out.1 HH.out.2.1 HH.out.2.2
end Go.Proofs.YtaplecncnkkigaaDoor

/- Plain laws: the nodes of a range, and of a part of it. No program in sight. -/
namespace Go.Proofs.YtaplecncnkkigaaDoor
set_option linter.unusedVariables false
theorem sub_flat {α β : Type} (f g : α → List β) : ∀ (l : List α), (∀ x ∈ l, (f x).Sublist (g x)) → (l.flatMap f).Sublist (l.flatMap g)
  | [], _ => List.Sublist.refl _
  | x :: l, h => by
    rw [List.flatMap_cons, List.flatMap_cons]
    exact (h x (by simp)).append (sub_flat f g l fun y hy => h y (by simp [hy]))
theorem goT_sub (m1 m2 : List UInt8 → Bool) (h : ∀ pl, m1 pl = true → m2 pl = true) (t : Trie.T) : ∀ pl, (Trie.goT m1 t pl).Sublist (Trie.goT m2 t pl) := by
  induction t with
  | nil => intro pl; simp [Trie.goT]
  | leaf p v =>
    intro pl
    simp only [Trie.goT]
    by_cases h1 : m1 pl = true
    · rw [if_pos h1, if_pos (h pl h1)]
      exact List.Sublist.refl _
    · rw [if_neg h1]; exact List.nil_sublist _
  | ext p t ih =>
    intro pl
    simp only [Trie.goT]
    by_cases h1 : m1 pl = true
    · rw [if_pos h1, if_pos (h pl h1)]
      exact (ih _).cons_cons _
    · rw [if_neg h1]; exact List.nil_sublist _
  | branch v kids ih =>
    intro pl
    simp only [Trie.goT]
    by_cases h1 : m1 pl = true
    · rw [if_pos h1, if_pos (h pl h1)]
      exact (sub_flat _ _ _ fun i _ => ih i _).cons_cons _
    · rw [if_neg h1]; exact List.nil_sublist _
theorem told_sub (m1 m2 : List UInt8 → Bool) (h : ∀ pl, m1 pl = true → m2 pl = true) (t : Trie.T) : (toldW m1 t).Sublist (toldW m2 t) :=
  (goT_sub m1 m2 h t []).map _
theorem side_empty (x : List UInt8) : Nib.side x (Nib.of []) = 1 := by
  rw [Nib.side_eq]
  have : Op.bytesLess x (Nib.of []) = false := by
    show Op.bytesLess x [] = false
    cases x <;> rfl
  rw [if_pos this]
theorem cover_all : coverW (Nib.of []) (Nib.of []) [] = allW := by
  funext pl
  simp [coverW, allW, side_empty]
theorem cover_from (a b : List UInt8) (pl : List UInt8) (h : coverW (Nib.of a) (Nib.of b) b pl = true) : coverW (Nib.of a) (Nib.of []) [] pl = true := by
  simp [coverW] at h ⊢
  exact h.1
theorem cover_end (a b : List UInt8) (pl : List UInt8) (h : coverW (Nib.of a) (Nib.of b) b pl = true) : coverW (Nib.of []) (Nib.of b) b pl = true := by
  simp [coverW, side_empty] at h ⊢
  exact h.2
theorem cover_any (a b : List UInt8) (pl : List UInt8) (h : coverW (Nib.of a) (Nib.of b) b pl = true) : allW pl = true := rfl
theorem trail_cover (key a b : List UInt8) (h1 : Op.bytesLess key a = false) (h2 : b = [] ∨ Op.bytesLess key b = true) (pl : List UInt8) (h : trailW (Nib.of key) pl = true) : coverW (Nib.of a) (Nib.of b) b pl = true := by
  have hp : Nib.of key = pl ++ (Nib.of key).drop pl.length := Trie.prefix_common.1 (of_decide_eq_true h)
  have g1 : 0 ≤ Nib.side pl (Nib.of a) := by
    rcases Nib.side_cases pl (Nib.of a) with e | e | e
    · have := (Nib.side_below ((Nib.of key).drop pl.length) e).1
      rw [← hp, Nib.blt_of, h1] at this
      cases this
    · omega
    · omega
  have g2 : b = [] ∨ Nib.side pl (Nib.of b) ≤ 0 := by
    rcases h2 with h2 | h2
    · exact .inl h2
    · refine .inr ?_
      rcases Nib.side_cases pl (Nib.of b) with e | e | e
      · omega
      · omega
      · have := Nib.side_above ((Nib.of key).drop pl.length) e
        rw [← hp, Nib.blt_of, h2] at this
        cases this
  simp only [coverW, Bool.and_eq_true, Bool.or_eq_true, decide_eq_true_eq]
  exact ⟨g1, g2.imp (fun e => by rw [e]; rfl) id⟩
end Go.Proofs.YtaplecncnkkigaaDoor

/- Layer 10's laws: among, where the one list stands in the other. No conditions. -/
namespace Go.Proofs.YtaplecncnkkigaaDoor
set_option linter.unusedVariables false
open Go.RowKit Go.Instr
attribute [local go_sem] ba_get ByteArray.mk_append_mk

theorem sub_step {s x : List UInt8} {r l : List (List UInt8)} (h : (s :: r).Sublist (x :: l)) : (x = s → r.Sublist l) ∧ (x ≠ s → (s :: r).Sublist l) := by
  cases h with
  | cons _ h => exact ⟨fun _ => (List.sublist_cons_self _ _).trans h, fun _ => h⟩
  | cons_cons _ h => exact ⟨fun _ => h, fun hne => absurd rfl hne⟩
theorem text_cell {w : World} {B : Nat} {A : Option Addr} {l : List (List UInt8)} (h : Reads w B 1 A l.length (strv l)) {i : Nat} (hi : i < l.length) :
    ∃ ad off, A = some ⟨ad, off, none⟩ ∧ ad < B ∧ ∀ w', Below B w w' → w'.cell? ⟨ad, off + i, none⟩ = some (.string ⟨l[i].toArray⟩) := by
  obtain ⟨ad, off, rfl, hbl, hcell⟩ := h.form (by omega) (by omega)
  refine ⟨ad, off, rfl, hbl, fun w' hb => ?_⟩
  have q := hcell i (by rw [strv_length]; exact hi)
  have e : (strv l)[i]'(by rw [strv_length]; exact hi) = .string ⟨l[i].toArray⟩ := by simp [strv]
  rw [e] at q
  exact (hb.cell (p := ⟨ad, off + i, none⟩) hbl).trans q

set_option maxRecDepth 100000 in
set_option maxHeartbeats 1000000 in
theorem among_inner (w0 : World) (B : Option Addr) (d : Nat) (ys : List (List UInt8)) (HB : Reads w0 w0.heap.size 1 B ys.length (strv ys)) (hy : ys.length ≤ 1048576) (s : List UInt8) (r : List (List UInt8)) (j0 : Nat) (hs : (s :: r).Sublist (ys.drop j0))
    (Q : Exit → Act → World → Prop) (p0 p8 p9 p10 : Value)
    (hQ : ∀ (j : Nat), j < ys.length → r.Sublist (ys.drop (j + 1)) → ∀ (s2 s3 s4 s6 s11 s12 s13 s14 s15 s16 s17 s18 s19 s20 s21 s22 s23 s24 s25 s26 s27 s28 s29 s30 s31 s32 s33 s34 : Value) (w2 : World), Below w0.heap.size w0 w2 → Q (.exit 2) { tmps := #[p0, .slice B ys.length d, s2, s3, s4, .int .i64 (j : Int), s6, .string ⟨s.toArray⟩, p8, p9, p10, s11, s12, s13, s14, s15, s16, s17, s18, s19, s20, s21, s22, s23, s24, s25, s26, s27, s28, s29, s30, s31, s32, s33, s34], defers := [] } w2)
    (s2 s3 s4 s6 s11 s12 s13 s14 s15 s16 s17 s18 s19 s20 s21 s22 s23 s24 s25 s26 s27 s28 s29 s30 s31 s32 s33 s34 : Value) :
    Code.wp Tryd.prog (.loop (loopAt Tryd.f38 1)) Q { tmps := #[p0, .slice B ys.length d, s2, s3, s4, .int .i64 (j0 : Int), s6, .string ⟨s.toArray⟩, p8, p9, p10, s11, s12, s13, s14, s15, s16, s17, s18, s19, s20, s21, s22, s23, s24, s25, s26, s27, s28, s29, s30, s31, s32, s33, s34], defers := [] } w0 := by
  have HQ := Lib.hid hQ
  have HBB := Lib.hid HB
  have HS := Lib.hid hs
  have hj0 : j0 < ys.length := by
    have := hs.length_le
    simp at this; omega
  clear hQ HB hs
  refine wp_loop_ghost_k (fun k a wr => ∀ Φ : Act → Prop, (∀ (s2 s3 s4 s6 s11 s12 s13 s14 s15 s16 s17 s18 s19 s20 s21 s22 s23 s24 s25 s26 s27 s28 s29 s30 s31 s32 s33 s34 : Value) (j : Nat), (j + k = ys.length ∧ j < ys.length ∧ (s :: r).Sublist (ys.drop j) ∧ Below w0.heap.size w0 wr) → Φ { tmps := #[p0, .slice B ys.length d, s2, s3, s4, .int .i64 (j : Int), s6, .string ⟨s.toArray⟩, p8, p9, p10, s11, s12, s13, s14, s15, s16, s17, s18, s19, s20, s21, s22, s23, s24, s25, s26, s27, s28, s29, s30, s31, s32, s33, s34], defers := [] }) → Φ a) (ys.length - j0) ?_ ?_
  · refine fun Φ hΦ => hΦ _ _ _ _ _ _ _ _ _ _ _ _ _ _ _ _ _ _ _ _ _ _ _ _ _ _ _ _ (j0) ?_
    exact ⟨by omega, hj0, HS.out, Below.refl _ _⟩
  · intro k1 a1 wr1 hI1 J1 K1 hJ1 hK1
    refine hI1 (fun a => Code.wp _ _ _ a _) ?_
    clear hI1 a1
    intro s0 s1 s2 s3 s4 s5 s6 s7 s8 s9 s10 s11 s12 s13 s14 s15 s16 s17 s18 s19 s20 s21 s22 s23 s24 s25 s26 s27 j hrel
    show Code.wp _ _ _ _ _
    conv => arg 2; whnf
    obtain ⟨h1, h2, h3, hb⟩ := hrel
    obtain ⟨ad, off, rfl, hbl, hcell⟩ := text_cell HBB.out h2
    have q0 := hcell _ hb
    rw [List.drop_eq_getElem_cons h2] at h3
    obtain ⟨s1, s2⟩ := sub_step h3
    have hj1 : (j : Int) < ys.length := by omega
    have hj9 : (0 : Int) ≤ j := by omega
    have hlen : (ys.length : Int) ≤ 1048576 := by omega
    have HI := Lib.hid (And.intro h1 (And.intro h2 hb))
    have S1 := Lib.hid s1
    have S2 := Lib.hid s2
    clear h1 hb hbl hcell h3 s1 s2
    generalize ys[j] = x at *
    by_cases hx : x = s
    · have HR := Lib.hid (S1.out hx)
      clear S1 S2 h2
      subst hx
      go_wp2_with fail
      exact HQ.out j HI.out.2.1 HR.out _ _ _ _ _ _ _ _ _ _ _ _ _ _ _ _ _ _ _ _ _ _ _ _ _ _ _ _ _ HI.out.2.2
    · have HR := Lib.hid (S2.out hx)
      have hx1 : (x == s) = false := by simp [hx]
      have hx2 : (x.toArray = s.toArray) = False := by simp [hx]
      clear S1 S2 h2 hx
      go_wp2_with fail
      refine Handed.intro (ys.length - (j + 1)) ?_ (hJ1 _ _ _ (fun Φ hΦ => hΦ _ _ _ _ _ _ _ _ _ _ _ _ _ _ _ _ _ _ _ _ _ _ _ _ _ _ _ _ (j + 1) ?_))
      · have := HI.out.1
        have := HI.out.2.1
        show ys.length - (j + 1) < k1
        omega
      · have := HI.out.1
        have hl := HR.out.length_le
        simp at hl
        exact ⟨by omega, by omega, HR.out, HI.out.2.2⟩

set_option maxRecDepth 100000 in
set_option maxHeartbeats 1000000 in
theorem law10_among (w : World) (A B : Option Addr) (c d : Nat) (xs ys : List (List UInt8)) (HA : Reads w w.heap.size 1 A xs.length (strv xs)) (HB : Reads w w.heap.size 1 B ys.length (strv ys)) (hx : xs.length ≤ 1048576) (hy : ys.length ≤ 1048576) (hs : xs.Sublist ys) :
    Calls Tryd.prog 38 #[.slice A xs.length c, .slice B ys.length d] w fun e w' => e = .returned (.bool true) ∧ Below w.heap.size w w' := by
  have HP : Hid (∀ w', Below w.heap.size w w' → (fun e w' => e = Ending.returned (.bool true) ∧ Below w.heap.size w w') (Ending.returned (.bool true)) w') := Lib.hid (fun W' a2 => ⟨rfl, a2⟩)
  generalize (fun e w' => e = Ending.returned (.bool true) ∧ Below w.heap.size w w') = P at HP ⊢
  have HAA := Lib.hid HA
  have HBB := Lib.hid HB
  have HS := Lib.hid hs
  clear HA HB hs
  go_enter Tryd.func38, Tryd.ntmps38
  go_wp2
  refine wp_loop_ghost_k (fun k a wr => ∀ Φ : Act → Prop, (∀ (s2 s3 s4 s6 s7 s11 s12 s13 s14 s15 s16 s17 s18 s19 s20 s21 s22 s23 s24 s25 s26 s27 s28 s29 s30 s31 s32 s33 s34 : Value) (i j : Nat), (i + k = xs.length ∧ j ≤ ys.length ∧ (xs.drop i).Sublist (ys.drop j) ∧ Below w.heap.size w wr) → Φ { tmps := #[.slice A xs.length c, .slice B ys.length d, s2, s3, s4, .int .i64 (j : Int), s6, s7, .slice A xs.length c, .int .i64 xs.length, .int .i64 (i : Int), s11, s12, s13, s14, s15, s16, s17, s18, s19, s20, s21, s22, s23, s24, s25, s26, s27, s28, s29, s30, s31, s32, s33, s34], defers := [] }) → Φ a) (xs.length) ?_ ?_
  · refine fun Φ hΦ => hΦ _ _ _ _ _ _ _ _ _ _ _ _ _ _ _ _ _ _ _ _ _ _ _ _ _ _ _ _ _ (0) (0) ?_
    exact ⟨by omega, by omega, HS.out, Below.refl _ _⟩
  · intro k1 a1 wr1 hI1 J1 K1 hJ1 hK1
    refine hI1 (fun a => Code.wp _ _ _ a _) ?_
    clear hI1 a1
    intro s0 s1 s2 s3 s4 s5 s6 s7 s8 s9 s10 s11 s12 s13 s14 s15 s16 s17 s18 s19 s20 s21 s22 s23 s24 s25 s26 s27 s28 i j hrel
    show Code.wp _ _ _ _ _
    obtain ⟨h1, h2, h3, hb⟩ := hrel
    by_cases hi : i < xs.length
    · obtain ⟨ad, off, rfl, hbl, hcell⟩ := text_cell HAA.out hi
      have q0 := hcell _ hb
      rw [List.drop_eq_getElem_cons hi] at h3
      have hj1 : (i : Int) < xs.length := by omega
      have hj9 : (0 : Int) ≤ i := by omega
      have hlen : (xs.length : Int) ≤ 1048576 := by omega
      have HI := Lib.hid (And.intro h1 (And.intro hb h3))
      clear h1 hb hbl hcell h3
      generalize xs[i] = s at *
      go_wp2_with fail
      refine among_inner wr1 B d ys ((HBB.out.below HI.out.2.1).more HI.out.2.1.size) hy s (xs.drop (i + 1)) j HI.out.2.2 _ _ _ _ _ ?_ _ _ _ _ _ _ _ _ _ _ _ _ _ _ _ _ _ _ _ _ _ _ _ _ _ _ _ _
      intro j2 hj2 hsub s2 s3 s4 s6 s11 s12 s13 s14 s15 s16 s17 s18 s19 s20 s21 s22 s23 s24 s25 s26 s27 s28 s29 s30 s31 s32 s33 s34 w3 hb3
      have hj2a : (j2 : Int) < ys.length := by omega
      have hj2b : ((ys.length : Int) ≤ j2) = False := by simp; omega
      have hj2c : (j2 : Int) < 1048576 := by omega
      have hj2d : (0 : Int) ≤ j2 := by omega
      have HJ := Lib.hid (And.intro hj2 (And.intro hsub hb3))
      clear hj2 hsub hb3 h2
      go_wp2_with fail
      refine Handed.intro (xs.length - (i + 1)) ?_ (hJ1 _ _ _ (fun Φ hΦ => hΦ _ _ _ _ _ _ _ _ _ _ _ _ _ _ _ _ _ _ _ _ _ _ _ _ _ _ _ _ _ (i + 1) (j2 + 1) ?_))
      · have := HI.out.1
        show xs.length - (i + 1) < k1
        omega
      · have := HI.out.1
        exact ⟨by omega, HJ.out.1, HJ.out.2.1, HI.out.2.1.nxt HJ.out.2.2⟩
    · have hi2 : ((i : Int) < xs.length) = False := by simp; omega
      have H := Lib.hid hb
      clear h1 h2 h3 hb hi
      go_wp2_with fail
      exact HP.out _ H.out
end Go.Proofs.YtaplecncnkkigaaDoor
