import Derived.Test.YtcjafcbekegmlaaDoorJ22
import Derived.Test.YtcjafcbekegmlaaDoorJ13
import Derived.Test.YtcjafcbekegmlaaDoorJ12
set_option linter.unusedSimpArgs false
set_option linter.unusedVariables false
namespace Go.Proofs.YtcjafcbekegmlaaDoor
set_option linter.unusedVariables false
namespace Trie
theorem mem_itemsW {t : T} (h : Good t) (k v : List UInt8) : (k, v) ∈ itemsW t ↔ look t (Nib.of k) = v ∧ v ≠ [] := by
  rw [itemsW, List.mem_map]
  constructor
  · rintro ⟨x, hx, e⟩
    obtain ⟨q, hq, rfl, hn⟩ := (mem_items t [] x h.wf).1 hx
    injection e with e1 e2
    subst e1
    simp only [List.nil_append] at e2 ⊢
    rw [Nib.of_joined q hq (h.even q hq hn).1, ← e2]
    exact ⟨rfl, hn⟩
  · rintro ⟨e, hn⟩
    subst e
    exact ⟨(Nib.of k, look t (Nib.of k)), (mem_items t [] _ h.wf).2 ⟨Nib.of k, Nib.fit_of k, rfl, hn⟩, by simp [Nib.joined_of]⟩
theorem item_code {t : T} (h : Good t) {k v : List UInt8} (hx : (k, v) ∈ itemsW t) : putCode k v = 0 := by
  obtain ⟨rfl, hn⟩ := (mem_itemsW h k v).1 hx
  obtain ⟨s1, s2⟩ := h.small _ (Nib.fit_of k) hn
  rw [Nib.of_length] at s1
  have hk : k ≠ [] := fun e => (h.even _ (Nib.fit_of k) hn).2 (by rw [e]; rfl)
  have h1 : keyedW k = true := by simp [keyedW, hk]; omega
  simp only [putCode, h1, if_true]
  rw [if_neg]
  simp [hn]
  omega
end Trie
end Go.Proofs.YtcjafcbekegmlaaDoor

namespace Go.Proofs.YtcjafcbekegmlaaDoor
set_option linter.unusedVariables false
open Go.RowKit Go.Instr
attribute [local go_sem] ba_get ByteArray.mk_append_mk
attribute [local go_sem ↓] Go.wp_at_zero Go.wp_at_succ
theorem few_cell {w : World} {B : Nat} {A : Option Addr} {l : List (List UInt8)} (h : Reads w B 1 A l.length (strv l)) {i : Nat} (hi : i < l.length) :
    ∃ ad off, A = some ⟨ad, off, none⟩ ∧ ad < B ∧ ∀ w', Below B w w' → w'.cell? ⟨ad, off + i, none⟩ = some (.string ⟨l[i].toArray⟩) := by
  obtain ⟨ad, off, rfl, hbl, hcell⟩ := h.form (by omega) (by omega)
  refine ⟨ad, off, rfl, hbl, fun w' hb => ?_⟩
  have q := hcell i (by rw [strv_length]; exact hi)
  have e := strv_at hi
  rw [List.getElem?_eq_getElem (by rw [strv_length]; exact hi)] at e
  rw [Option.some.inj e] at q
  exact (hb.cell (p := ⟨ad, off + i, none⟩) hbl).trans q
def fewW (l : List (List UInt8)) (n each : Nat) : Bool := decide (l.length ≤ n) && l.all fun s => decide (s.length ≤ each)
set_option maxRecDepth 100000 in
theorem book_Few (w : World) (A : Option Addr) (c : Nat) (l : List (List UInt8)) (n each : Nat) (HR : Reads w w.heap.size 1 A l.length (strv l)) (hn : n ≤ 100000) (he : each ≤ 100000) :
    Calls Tryd.prog 31 #[.slice A l.length c, .int .i64 (n : Int), .int .i64 (each : Int)] w (Ret w (.bool (fewW l n each))) := by
  have HP : Hid (∀ r w', fewW l n each = r → Below w.heap.size w w' → Ret w (.bool (fewW l n each)) (Ending.returned (.bool r)) w') := Lib.hid (fun r W' a1 a2 => ⟨by rw [a1], a2⟩)
  have HC : Hid (fewW l n each = (decide (l.length ≤ n) && l.all fun s => decide (s.length ≤ each))) := Lib.hid rfl
  generalize Ret w (.bool (fewW l n each)) = P at HP ⊢
  generalize fewW l n each = lw at *
  have HRR := Lib.hid HR
  clear HR
  by_cases hln : n < l.length
  · have hI : (n : Int) < l.length := by omega
    have HF : Hid (lw = false) := Lib.hid (by rw [HC.out, decide_eq_false (by omega)]; rfl)
    go_enter Tryd.func31, Tryd.ntmps31
    go_wp2_with fail
    exact HP.out _ _ HF.out (Below.refl _ _)
  · have hI : ((n : Int) < l.length) = False := by simp; omega
    have HC2 : Hid (lw = l.all fun s => decide (s.length ≤ each)) := Lib.hid (by rw [HC.out, decide_eq_true (by omega)]; rfl)
    have hln' : l.length ≤ n := by omega
    clear HC hln
    go_enter Tryd.func31, Tryd.ntmps31
    go_wp2_with fail
    refine wp_loop_ghost_k (fun k a wr => ∀ Φ : Act → Prop, (∀ (s1 s3 s4 s5 s6 s8 s9 s10 s11 s12 s13 s14 s15 s16 s17 s18 s19 s20 s21 s22 s23 s24 : Value) (i : Nat), (i + k = l.length ∧ (l.all fun s => decide (s.length ≤ each)) = ((l.drop i).all fun s => decide (s.length ≤ each)) ∧ Below w.heap.size w wr) → Φ { tmps := #[.slice A l.length c, s1, .int .i64 (each : Int), s3, s4, s5, s6, .int .i64 (i : Int), s8, s9, s10, s11, s12, s13, s14, s15, s16, s17, s18, s19, s20, s21, s22, s23, s24], defers := [] }) → Φ a) (l.length) ?_ ?_
    · refine fun Φ hΦ => hΦ _ _ _ _ _ _ _ _ _ _ _ _ _ _ _ _ _ _ _ _ _ _ (0) ?_
      exact ⟨by omega, rfl, Below.refl _ _⟩
    · intro k1 a1 wr1 hI1 J1 K1 hJ1 hK1
      refine hI1 (fun a => Code.wp _ _ _ a _) ?_
      clear hI1 a1
      intro s0 s1 s2 s3 s4 s5 s6 s7 s8 s9 s10 s11 s12 s13 s14 s15 s16 s17 s18 s19 s20 s21 i hrel
      show Code.wp _ _ _ _ _
      obtain ⟨h1, h2, hb⟩ := hrel
      by_cases hi : i < l.length
      · obtain ⟨ad, off, rfl, hbl, hcell⟩ := few_cell HRR.out hi
        have r0 := hcell _ hb
        have hd : l.drop i = l[i] :: l.drop (i + 1) := List.drop_eq_getElem_cons hi
        have HI := Lib.hid (And.intro h1 (And.intro h2 (And.intro hb hd)))
        have hi0 : (i : Int) < l.length := by omega
        have hi1 : (0 : Int) ≤ i := by omega
        clear h1 h2 hb hd hcell hbl
        generalize l[i] = x at *
        by_cases hk : each < x.length
        · have hk' : (each : Int) < x.length := by omega
          have HF : Hid (lw = false) := Lib.hid (by rw [HC2.out, HI.out.2.1, HI.out.2.2.2, List.all_cons, decide_eq_false (by omega)]; rfl)
          clear hk
          go_wp2_with fail
          exact HP.out _ _ HF.out HI.out.2.2.1
        · have hk' : ((each : Int) < x.length) = False := by simp; omega
          have HF : Hid (decide (x.length ≤ each) = true) := Lib.hid (decide_eq_true (by omega))
          clear hk
          go_wp2_with fail
          refine Handed.intro (l.length - (i + 1)) ?_ (hJ1 _ _ _ (fun Φ hΦ => hΦ _ _ _ _ _ _ _ _ _ _ _ _ _ _ _ _ _ _ _ _ _ _ (i + 1) ?_))
          · have := HI.out.1; omega
          exact ⟨by have := HI.out.1; omega, by rw [HI.out.2.1, HI.out.2.2.2, List.all_cons, HF.out]; rfl, HI.out.2.2.1⟩
      · have hi0 : ((i : Int) < l.length) = False := by simp; omega
        have HI := Lib.hid (And.intro h2 (And.intro hb (show l.drop i = [] from List.drop_of_length_le (by omega))))
        clear h1 h2 hb
        go_wp2_with fail
        exact HP.out _ _ (by rw [HC2.out, HI.out.1, HI.out.2.2]; rfl) HI.out.2.1
end Go.Proofs.YtcjafcbekegmlaaDoor

namespace Go.Proofs.YtcjafcbekegmlaaDoor
set_option linter.unusedVariables false
open Nib
namespace Trie
def nd (t : T) : Nd := (kindT t, pathT t, valT t, sumsT t)
theorem decN_text {t : T} (hn : t ≠ .nil) (hw : wf t) (hs : small t) : decN (textT t) = (nd t, 0) :=
  decN_of (nd t) (sumsT_length t) (fineT hn hw hs)
theorem sum_text {t : T} (hn : t ≠ .nil) : shaW (1 :: textT t) = sumT t := (sumT_eq hn).symm
theorem sumT_empty {t : T} : sumT t = [] ↔ t = .nil := by
  constructor
  · intro h
    refine Classical.byContradiction fun hn => ?_
    have := sumT_len hn
    rw [h] at this
    cases this
  · intro h; subst h; rfl
def knots : T → List T
  | .nil => []
  | .leaf p v => [.leaf p v]
  | .ext p t => .ext p t :: knots t
  | .branch v kids => .branch v kids :: (List.finRange 16).flatMap fun i => knots (kids i)
theorem goT_knots (t : T) : ∀ pl, (goT allW t pl).map (·.2) = knots t := by
  induction t with
  | nil => intro pl; rfl
  | leaf p v => intro pl; simp [goT, allW, knots]
  | ext p t ih => intro pl; simp only [goT, allW, if_true, List.map_cons, knots]; rw [← ih (pl ++ p)]
  | branch v kids ih =>
    intro pl
    simp only [goT, allW, if_true, List.map_cons, knots, List.map_flatMap]
    congr 2
    funext i
    rw [← ih i (pl ++ [hb i])]
theorem told_knots (t : T) : toldW allW t = (knots t).map textT := by
  rw [← goT_knots t [], toldW, textsD, List.map_map]
  rfl
theorem trailW_iff {path pl : List UInt8} : trailW path pl = true ↔ path = pl ++ path.drop pl.length := by
  unfold trailW
  rw [decide_eq_true_eq]
  exact prefix_common
theorem goT_no (may : List UInt8 → Bool) (t : T) (pl : List UInt8) (h : may pl = false) : goT may t pl = [] := by
  cases t <;> simp [goT, h]
end Trie
end Go.Proofs.YtcjafcbekegmlaaDoor

namespace Go.Proofs.YtcjafcbekegmlaaDoor
set_option linter.unusedVariables false
open Go.RowKit Go.Instr
attribute [local go_sem] ba_get ByteArray.mk_append_mk
attribute [local go_sem ↓] Go.wp_at_zero Go.wp_at_succ
theorem blk_set0 {w : World} {g : Nat} {t : TypeId} {u v : Value} (h : Blk w g t #[u]) : Blk (w.setCell ⟨g, 0, none⟩ v) g t #[v] := h.set_ 0 v
theorem blk_new' (w : World) (t : TypeId) (cs : Array Value) {g : Nat} (h : g = w.heap.size) : Blk (w.alloc (.cells cs t)) g t cs := by subst h; exact Blk.new w t cs
def CoverIn (w : World) (low high end_ : List UInt8) (b5 : Nat) (p7 p8 : Value) (wx : World) : Prop :=
  ∃ b7 b8, p7 = .pointer (some ⟨b7, 0, none⟩) ∧ p8 = .pointer (some ⟨b8, 0, none⟩) ∧ Blk wx b7 9 #[.string ⟨low.toArray⟩] ∧ Blk wx b5 9 #[.string ⟨end_.toArray⟩] ∧ Blk wx b8 9 #[.string ⟨high.toArray⟩] ∧ Below w.heap.size w wx
set_option maxRecDepth 100000 in
set_option maxHeartbeats 2000000 in
theorem trie_Cover (w : World) (t : Trie.T) (v : Value) (h : TrieP w t v) (hc : Trie.count t ≤ 20000) (from_ end_ : List UInt8) (h1 : from_.length ≤ 1048576) (h2 : end_.length ≤ 1048576) :
    Calls Tryd.prog 23 #[v, .string ⟨from_.toArray⟩, .string ⟨end_.toArray⟩] w (TextsEnd w (toldW (coverW (Nib.of from_) (Nib.of end_) end_) t)) := by
  have HP : Hid (∀ A n c w', n = (toldW (coverW (Nib.of from_) (Nib.of end_) end_) t).length → w'.ownsRow w.heap.size 9 1 (.slice A n c) n (strv (toldW (coverW (Nib.of from_) (Nib.of end_) end_) t)) → Below w.heap.size w w' → TextsEnd w (toldW (coverW (Nib.of from_) (Nib.of end_) end_) t) (.returned (.slice A n c)) w') := Lib.hid (fun A n c w' h1 h2 h3 => ⟨A, n, c, rfl, h1, h2, h3⟩)
  have HO1 : Hid (∀ W, Calls Tryd.prog 26 #[.string ⟨from_.toArray⟩] W fun e w' => e = .returned (.string ⟨(Nib.of from_).toArray⟩) ∧ Below W.heap.size W w') := Lib.hid (fun W => nib_Of from_ W h1)
  have HO2 : Hid (∀ W, Calls Tryd.prog 26 #[.string ⟨end_.toArray⟩] W fun e w' => e = .returned (.string ⟨(Nib.of end_).toArray⟩) ∧ Below W.heap.size W w') := Lib.hid (fun W => nib_Of end_ W h2)
  have HT : Hid (∀ W b7 b5 b8, Below w.heap.size w W → Blk W b7 9 #[.string ⟨(Nib.of from_).toArray⟩] → Blk W b5 9 #[.string ⟨end_.toArray⟩] → Blk W b8 9 #[.string ⟨(Nib.of end_).toArray⟩] → Calls Tryd.prog 33 #[v, .func (.func 43) #[] #[.pointer (some ⟨b7, 0, none⟩), .pointer (some ⟨b5, 0, none⟩), .pointer (some ⟨b8, 0, none⟩)]] W (TextsEnd w (toldW (coverW (Nib.of from_) (Nib.of end_) end_) t))) :=
    Lib.hid (fun W b7 b5 b8 k0 k7 k5 k8 => (trie_told W t v (h.next k0) hc _ _ _ (may_cover W (Nib.of from_) (Nib.of end_) end_ (by rw [Nib.of_length]; omega) (by rw [Nib.of_length]; omega) b7 b5 b8 k7 k5 k8)).mono (fun e w' he => he.base k0))
  generalize TextsEnd w (toldW (coverW (Nib.of from_) (Nib.of end_) end_) t) = P at HP ⊢
  obtain ⟨_, b, x, rfl, _, _⟩ := h
  clear hc h1 h2
  generalize Nib.of from_ = low at *
  generalize Nib.of end_ = high at *
  go_enter Tryd.func23, Tryd.ntmps23
  go_upto_region 1 with fail
  have F0 : Hid (Blk (w.alloc (.cells #[.string ⟨end_.toArray⟩] 9)) w.heap.size 9 #[.string ⟨end_.toArray⟩] ∧ Below w.heap.size w (w.alloc (.cells #[.string ⟨end_.toArray⟩] 9))) := Lib.hid ⟨Blk.new _ _ _, by go_grown⟩
  generalize w.alloc (.cells #[.string ⟨end_.toArray⟩] 9) = W0 at F0 ⊢
  have c5 : W0.cell? ⟨w.heap.size, 0, none⟩ = some (.string ⟨end_.toArray⟩) := F0.out.1.cell 0
  have hal : ∀ o : Obj, (W0.alloc o).cell? ⟨w.heap.size, 0, none⟩ = some (.string ⟨end_.toArray⟩) := fun o => (((Below.refl _ W0).alloc (Nat.le_refl _) o).cell (p := ⟨w.heap.size, 0, none⟩) F0.out.1.lt).trans c5
  go_cut [7, 8] (fun s7 s8 wx => CoverIn w low high end_ w.heap.size s7 s8 wx)
  case first =>
    have HLt0 := Lib.hid F0.out.1.lt
    have hal2 : ∀ o o2 : Obj, ((W0.alloc o).alloc o2).cell? ⟨w.heap.size, 0, none⟩ = some (.string ⟨end_.toArray⟩) := fun o o2 => ((((Below.refl _ W0).alloc (Nat.le_refl _) o).alloc (by simp) o2).cell (p := ⟨w.heap.size, 0, none⟩) F0.out.1.lt).trans c5
    have hlt0 := F0.out.1.lt
    go_region_held3 (fun w' => w'.cell? ⟨w.heap.size, 0, none⟩ = some (.string ⟨end_.toArray⟩)) (first | go_keep | assumption | (simp [*]; done) | (repeat (first | assumption | (rw [World.cell?_alloc_lt _ _ _ (by simp; omega)]) | (rw [World.cell?_setCell_other _ _ _ _ (by intro e; injection e with e; omega)])))) (first
      | (go_at_call 26; ((with_reducible refine (HO1.out _).mono ?_); rintro e w1 ⟨rfl, hb1⟩; have hz1 := hb1.size; (try simp only [World.size_alloc, World.size_drew] at hz1); (try have q5 : W0.heap.size < w1.heap.size := (by omega)); (try have q6 : W0.heap.size + 1 < w1.heap.size := (by omega)); have q0 : w.heap.size < w1.heap.size := (by omega); obtain ⟨hc1, hf1⟩ := bcell hb1; (try simp only [World.size_alloc, World.size_drew] at hc1 hf1); have d5 : w1.cell? ⟨w.heap.size, 0, none⟩ = some (.string ⟨end_.toArray⟩) := (hb1.cell (p := ⟨w.heap.size, 0, none⟩) (by simp; omega)).trans (by first | exact c5 | exact hal _ | exact hal2 _ _)))
      | (go_at_call 26; ((with_reducible refine (HO2.out _).mono ?_); rintro e w2 ⟨rfl, hb2⟩; have hz2 := hb2.size; (try simp only [World.size_alloc, World.size_drew] at hz2); (try have q1 : w1.heap.size < w2.heap.size := (by omega)); (try have q2 : w1.heap.size + 1 < w2.heap.size := (by omega)); (try have q3 : W0.heap.size < w2.heap.size := (by omega)); (try have q4 : W0.heap.size + 1 < w2.heap.size := (by omega)); have q9 : w.heap.size < w2.heap.size := (by omega); obtain ⟨hc2, hf2⟩ := bcell hb2; (try simp only [World.size_alloc, World.size_drew] at hc2 hf2); have d6 : w2.cell? ⟨w.heap.size, 0, none⟩ = some (.string ⟨end_.toArray⟩) := (hb2.cell (p := ⟨w.heap.size, 0, none⟩) (by simp; omega)).trans (by first | assumption | (simp [*]; done)))))
    all_goals go_wp2
    all_goals go_meet
    all_goals refine ⟨_, _, rfl, rfl, ?_, ?_, ?_, ?_⟩
    all_goals repeat' (first
      | (with_reducible exact F0.out.1)
      | (with_reducible exact F0.out.2)
      | (with_reducible exact Blk.new _ _ _)
      | (with_reducible refine Blk.drew ?_)
      | (with_reducible refine blk_set0 (u := .string ⟨#[]⟩) ?_)
      | (with_reducible refine Blk.far ?_ (by first | omega | (simp only [World.size_alloc, World.size_drew, World.size_setCell]; omega)) _)
      | ((with_reducible apply blk_new'); (first | rfl | (simp only [World.size_alloc, World.size_drew, World.size_setCell]; done)))
      | (with_reducible refine Blk.alloc ?_ _)
      | (with_reducible refine Blk.below ?_ hb2 (by first | omega | (simp only [World.size_alloc, World.size_drew, World.size_setCell]; omega)))
      | (with_reducible refine Blk.below ?_ hb1 (by first | omega | (simp only [World.size_alloc, World.size_drew, World.size_setCell]; omega)))
      | (with_reducible refine Below.drew ?_)
      | (with_reducible refine Below.alloc ?_ (by first | omega | (simp only [World.size_alloc, World.size_drew, World.size_setCell]; omega)) _)
      | (with_reducible refine Below.setCell ?_ (by first | omega | (simp only [World.size_alloc, World.size_drew, World.size_setCell]; omega)) _)
      | (with_reducible refine Below.trans ?_ (hb2.mono (by first | omega | (simp only [World.size_alloc, World.size_drew, World.size_setCell]; omega))))
      | (with_reducible refine Below.trans ?_ (hb1.mono (by first | omega | (simp only [World.size_alloc, World.size_drew, World.size_setCell]; omega)))))
  case rest =>
    obtain ⟨b7, b8, h7, h8, k7, k5, k8, kb⟩ := hcut
    subst h7
    subst h8
    have HC := Lib.hid (And.intro k7 (And.intro k5 (And.intro k8 kb)))
    clear k7 k5 k8 kb c5 hal F0
    go_wp2_with (go_at_call 33; refine (HT.out _ b7 w.heap.size b8 HC.out.2.2.2 HC.out.1 HC.out.2.1 HC.out.2.2.1).mono ?_; rintro e w2 ⟨A, n, c, rfl, h1, h2, h3⟩; have HH := Lib.hid (And.intro h1 (And.intro h2 h3)); clear h1 h2 h3)
    exact HP.out _ _ _ _ HH.out.1 HH.out.2.1 HH.out.2.2
end Go.Proofs.YtcjafcbekegmlaaDoor
