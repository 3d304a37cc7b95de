import Derived.Test.YtcjafcbekegmlaaGreatDoorJ13
import Derived.Test.YtcjafcbekegmlaaGreatDoorJ25
import Derived.Test.YtcjafcbekegmlaaGreatDoorJ26
set_option linter.unusedSimpArgs false
set_option linter.unusedVariables false
namespace Go.Proofs.YtcjafcbekegmlaaGreatDoor
set_option linter.unusedVariables false
open Nib
namespace Trie
def nd (t : T) : Nd := (kindT t, pathT t, valT t, sumsT t)
theorem decN_text {t : T} (hn : t ≠ .nil) (hw : wf t) (hs : small t) : decN (textT t) = (nd t, 0) :=
  decN_of (nd t) (sumsT_length t) (fineT hn hw hs)
theorem sum_text {t : T} (hn : t ≠ .nil) : shaW (1 :: textT t) = sumT t := (sumT_eq hn).symm
theorem sumT_empty {t : T} : sumT t = [] ↔ t = .nil := by
  constructor
  · intro h
    refine Classical.byContradiction fun hn => ?_
    have := sumT_len hn
    rw [h] at this
    cases this
  · intro h; subst h; rfl
theorem trailW_iff {path pl : List UInt8} : trailW path pl = true ↔ path = pl ++ path.drop pl.length := by
  unfold trailW
  rw [decide_eq_true_eq]
  exact prefix_common
theorem goT_no (may : List UInt8 → Bool) (t : T) (pl : List UInt8) (h : may pl = false) : goT may t pl = [] := by
  cases t <;> simp [goT, h]
end Trie
end Go.Proofs.YtcjafcbekegmlaaGreatDoor

namespace Go.Proofs.YtcjafcbekegmlaaGreatDoor
set_option linter.unusedVariables false
namespace Trie
structure OkLd (pl : List UInt8) (t : T) : Prop where
  nn : t ≠ .nil
  wf : wf t
  all : ∀ q, Nib.fit q = true → look t q ≠ [] → (pl ++ q).length ≤ 16 ∧ (pl ++ q).length % 2 = 0 ∧ pl ++ q ≠ [] ∧ (look t q).length ≤ 32
theorem OkLd.small {pl : List UInt8} {t : T} (h : OkLd pl t) : small t := fun q hq hl => by
  have := h.all q hq hl
  rw [List.length_append] at this
  exact ⟨by omega, this.2.2.2⟩
end Trie
end Go.Proofs.YtcjafcbekegmlaaGreatDoor

namespace Go.Proofs.YtcjafcbekegmlaaGreatDoor
set_option linter.unusedVariables false
namespace Trie
theorem rep_getD (n i : Nat) : (List.replicate n ([] : List UInt8)).getD i [] = [] := by
  rw [List.getD_eq_getElem?_getD, List.getElem?_replicate]
  split <;> rfl
end Trie
end Go.Proofs.YtcjafcbekegmlaaGreatDoor

namespace Go.Proofs.YtcjafcbekegmlaaGreatDoor
set_option linter.unusedVariables false
open Go.RowKit Go.Instr
attribute [local go_sem] ba_get ByteArray.mk_append_mk
attribute [local go_sem ↓] Go.wp_at_zero Go.wp_at_succ
theorem blk_set0 {w : World} {g : Nat} {t : TypeId} {u v : Value} (h : Blk w g t #[u]) : Blk (w.setCell ⟨g, 0, none⟩ v) g t #[v] := h.set_ 0 v
theorem blk_new' (w : World) (t : TypeId) (cs : Array Value) {g : Nat} (h : g = w.heap.size) : Blk (w.alloc (.cells cs t)) g t cs := by subst h; exact Blk.new w t cs
def CoverIn (w : World) (low high end_ : List UInt8) (b5 : Nat) (p7 p8 : Value) (wx : World) : Prop :=
  ∃ b7 b8, p7 = .pointer (some ⟨b7, 0, none⟩) ∧ p8 = .pointer (some ⟨b8, 0, none⟩) ∧ Blk wx b7 9 #[.string ⟨low.toArray⟩] ∧ Blk wx b5 9 #[.string ⟨end_.toArray⟩] ∧ Blk wx b8 9 #[.string ⟨high.toArray⟩] ∧ Below w.heap.size w wx
set_option maxRecDepth 100000 in
set_option maxHeartbeats 2000000 in
theorem trie_Cover (w : World) (t : Trie.T) (v : Value) (h : TrieP w t v) (hc : Trie.count t ≤ 20000) (from_ end_ : List UInt8) (h1 : from_.length ≤ 1048576) (h2 : end_.length ≤ 1048576) :
    Calls Tryz.prog 46 #[v, .string ⟨from_.toArray⟩, .string ⟨end_.toArray⟩] w (TextsEnd w (toldW (coverW (Nib.of from_) (Nib.of end_) end_) t)) := by
  have HP : Hid (∀ A n c w', n = (toldW (coverW (Nib.of from_) (Nib.of end_) end_) t).length → w'.ownsRow w.heap.size 9 1 (.slice A n c) n (strv (toldW (coverW (Nib.of from_) (Nib.of end_) end_) t)) → Below w.heap.size w w' → TextsEnd w (toldW (coverW (Nib.of from_) (Nib.of end_) end_) t) (.returned (.slice A n c)) w') := Lib.hid (fun A n c w' h1 h2 h3 => ⟨A, n, c, rfl, h1, h2, h3⟩)
  have HO1 : Hid (∀ W, Calls Tryz.prog 53 #[.string ⟨from_.toArray⟩] W fun e w' => e = .returned (.string ⟨(Nib.of from_).toArray⟩) ∧ Below W.heap.size W w') := Lib.hid (fun W => nib_Of from_ W h1)
  have HO2 : Hid (∀ W, Calls Tryz.prog 53 #[.string ⟨end_.toArray⟩] W fun e w' => e = .returned (.string ⟨(Nib.of end_).toArray⟩) ∧ Below W.heap.size W w') := Lib.hid (fun W => nib_Of end_ W h2)
  have HT : Hid (∀ W b7 b5 b8, Below w.heap.size w W → Blk W b7 9 #[.string ⟨(Nib.of from_).toArray⟩] → Blk W b5 9 #[.string ⟨end_.toArray⟩] → Blk W b8 9 #[.string ⟨(Nib.of end_).toArray⟩] → Calls Tryz.prog 83 #[v, .func (.func 84) #[] #[.pointer (some ⟨b7, 0, none⟩), .pointer (some ⟨b5, 0, none⟩), .pointer (some ⟨b8, 0, none⟩)]] W (TextsEnd w (toldW (coverW (Nib.of from_) (Nib.of end_) end_) t))) :=
    Lib.hid (fun W b7 b5 b8 k0 k7 k5 k8 => (trie_told W t v (h.next k0) hc _ _ _ (may_cover W (Nib.of from_) (Nib.of end_) end_ (by rw [Nib.of_length]; omega) (by rw [Nib.of_length]; omega) b7 b5 b8 k7 k5 k8)).mono (fun e w' he => he.base k0))
  generalize TextsEnd w (toldW (coverW (Nib.of from_) (Nib.of end_) end_) t) = P at HP ⊢
  obtain ⟨_, b, x, rfl, _, _⟩ := h
  clear hc h1 h2
  generalize Nib.of from_ = low at *
  generalize Nib.of end_ = high at *
  go_enter Tryz.func46, Tryz.ntmps46
  go_upto_region 1 with fail
  have F0 : Hid (Blk (w.alloc (.cells #[.string ⟨end_.toArray⟩] 9)) w.heap.size 9 #[.string ⟨end_.toArray⟩] ∧ Below w.heap.size w (w.alloc (.cells #[.string ⟨end_.toArray⟩] 9))) := Lib.hid ⟨Blk.new _ _ _, by go_grown⟩
  generalize w.alloc (.cells #[.string ⟨end_.toArray⟩] 9) = W0 at F0 ⊢
  have c5 : W0.cell? ⟨w.heap.size, 0, none⟩ = some (.string ⟨end_.toArray⟩) := F0.out.1.cell 0
  have hal : ∀ o : Obj, (W0.alloc o).cell? ⟨w.heap.size, 0, none⟩ = some (.string ⟨end_.toArray⟩) := fun o => (((Below.refl _ W0).alloc (Nat.le_refl _) o).cell (p := ⟨w.heap.size, 0, none⟩) F0.out.1.lt).trans c5
  go_cut [7, 8] (fun s7 s8 wx => CoverIn w low high end_ w.heap.size s7 s8 wx)
  case first =>
    have HLt0 := Lib.hid F0.out.1.lt
    have hal2 : ∀ o o2 : Obj, ((W0.alloc o).alloc o2).cell? ⟨w.heap.size, 0, none⟩ = some (.string ⟨end_.toArray⟩) := fun o o2 => ((((Below.refl _ W0).alloc (Nat.le_refl _) o).alloc (by simp) o2).cell (p := ⟨w.heap.size, 0, none⟩) F0.out.1.lt).trans c5
    have hlt0 := F0.out.1.lt
    go_region_held3 (fun w' => w'.cell? ⟨w.heap.size, 0, none⟩ = some (.string ⟨end_.toArray⟩)) (first | go_keep | assumption | (simp [*]; done) | (repeat (first | assumption | (rw [World.cell?_alloc_lt _ _ _ (by simp; omega)]) | (rw [World.cell?_setCell_other _ _ _ _ (by intro e; injection e with e; omega)])))) (first
      | (go_at_call 53; ((with_reducible refine (HO1.out _).mono ?_); rintro e w1 ⟨rfl, hb1⟩; have hz1 := hb1.size; (try simp only [World.size_alloc, World.size_drew] at hz1); (try have q5 : W0.heap.size < w1.heap.size := (by omega)); (try have q6 : W0.heap.size + 1 < w1.heap.size := (by omega)); have q0 : w.heap.size < w1.heap.size := (by omega); obtain ⟨hc1, hf1⟩ := bcell hb1; (try simp only [World.size_alloc, World.size_drew] at hc1 hf1); have d5 : w1.cell? ⟨w.heap.size, 0, none⟩ = some (.string ⟨end_.toArray⟩) := (hb1.cell (p := ⟨w.heap.size, 0, none⟩) (by simp; omega)).trans (by first | exact c5 | exact hal _ | exact hal2 _ _)))
      | (go_at_call 53; ((with_reducible refine (HO2.out _).mono ?_); rintro e w2 ⟨rfl, hb2⟩; have hz2 := hb2.size; (try simp only [World.size_alloc, World.size_drew] at hz2); (try have q1 : w1.heap.size < w2.heap.size := (by omega)); (try have q2 : w1.heap.size + 1 < w2.heap.size := (by omega)); (try have q3 : W0.heap.size < w2.heap.size := (by omega)); (try have q4 : W0.heap.size + 1 < w2.heap.size := (by omega)); have q9 : w.heap.size < w2.heap.size := (by omega); obtain ⟨hc2, hf2⟩ := bcell hb2; (try simp only [World.size_alloc, World.size_drew] at hc2 hf2); have d6 : w2.cell? ⟨w.heap.size, 0, none⟩ = some (.string ⟨end_.toArray⟩) := (hb2.cell (p := ⟨w.heap.size, 0, none⟩) (by simp; omega)).trans (by first | assumption | (simp [*]; done)))))
    all_goals go_wp2
    all_goals go_meet
    all_goals refine ⟨_, _, rfl, rfl, ?_, ?_, ?_, ?_⟩
    all_goals repeat' (first
      | (with_reducible exact F0.out.1)
      | (with_reducible exact F0.out.2)
      | (with_reducible exact Blk.new _ _ _)
      | (with_reducible refine Blk.drew ?_)
      | (with_reducible refine blk_set0 (u := .string ⟨#[]⟩) ?_)
      | (with_reducible refine Blk.far ?_ (by first | omega | (simp only [World.size_alloc, World.size_drew, World.size_setCell]; omega)) _)
      | ((with_reducible apply blk_new'); (first | rfl | (simp only [World.size_alloc, World.size_drew, World.size_setCell]; done)))
      | (with_reducible refine Blk.alloc ?_ _)
      | (with_reducible refine Blk.below ?_ hb2 (by first | omega | (simp only [World.size_alloc, World.size_drew, World.size_setCell]; omega)))
      | (with_reducible refine Blk.below ?_ hb1 (by first | omega | (simp only [World.size_alloc, World.size_drew, World.size_setCell]; omega)))
      | (with_reducible refine Below.drew ?_)
      | (with_reducible refine Below.alloc ?_ (by first | omega | (simp only [World.size_alloc, World.size_drew, World.size_setCell]; omega)) _)
      | (with_reducible refine Below.setCell ?_ (by first | omega | (simp only [World.size_alloc, World.size_drew, World.size_setCell]; omega)) _)
      | (with_reducible refine Below.trans ?_ (hb2.mono (by first | omega | (simp only [World.size_alloc, World.size_drew, World.size_setCell]; omega))))
      | (with_reducible refine Below.trans ?_ (hb1.mono (by first | omega | (simp only [World.size_alloc, World.size_drew, World.size_setCell]; omega)))))
  case rest =>
    obtain ⟨b7, b8, h7, h8, k7, k5, k8, kb⟩ := hcut
    subst h7
    subst h8
    have HC := Lib.hid (And.intro k7 (And.intro k5 (And.intro k8 kb)))
    clear k7 k5 k8 kb c5 hal F0
    go_wp2_with (go_at_call 83; refine (HT.out _ b7 w.heap.size b8 HC.out.2.2.2 HC.out.1 HC.out.2.1 HC.out.2.2.1).mono ?_; rintro e w2 ⟨A, n, c, rfl, h1, h2, h3⟩; have HH := Lib.hid (And.intro h1 (And.intro h2 h3)); clear h1 h2 h3)
    exact HP.out _ _ _ _ HH.out.1 HH.out.2.1 HH.out.2.2
end Go.Proofs.YtcjafcbekegmlaaGreatDoor
