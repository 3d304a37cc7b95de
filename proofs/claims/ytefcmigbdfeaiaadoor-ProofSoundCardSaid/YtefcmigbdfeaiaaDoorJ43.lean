import Derived.Test.YtefcmigbdfeaiaaDoorJ25
import Derived.Test.YtefcmigbdfeaiaaDoorJ37
import Derived.Test.YtefcmigbdfeaiaaDoorJ42
import Derived.Test.YtefcmigbdfeaiaaDoorJ35
set_option linter.unusedSimpArgs false
set_option linter.unusedVariables false
/- The walks of layer 10 (trie): Cover. No conditions. -/
namespace Go.Proofs.YtefcmigbdfeaiaaDoor
set_option linter.unusedVariables false
open Go.RowKit Go.Instr
attribute [local go_sem] ba_get ByteArray.mk_append_mk
attribute [local go_sem ↓] Go.wp_at_zero Go.wp_at_succ

theorem blk_set0 {w : World} {g : Nat} {t : TypeId} {u v : Value} (h : Blk w g t #[u]) : Blk (w.setCell ⟨g, 0, none⟩ v) g t #[v] := h.set_ 0 v
theorem blk_new' (w : World) (t : TypeId) (cs : Array Value) {g : Nat} (h : g = w.heap.size) : Blk (w.alloc (.cells cs t)) g t cs := by subst h; exact Blk.new w t cs
def CoverIn (w : World) (low high end_ : List UInt8) (b5 : Nat) (p7 p8 : Value) (wx : World) : Prop :=
  ∃ b7 b8, p7 = .pointer (some ⟨b7, 0, none⟩) ∧ p8 = .pointer (some ⟨b8, 0, none⟩) ∧ Blk wx b7 9 #[.string ⟨low.toArray⟩] ∧ Blk wx b5 9 #[.string ⟨end_.toArray⟩] ∧ Blk wx b8 9 #[.string ⟨high.toArray⟩] ∧ Below w.heap.size w wx
set_option maxRecDepth 100000 in
set_option maxHeartbeats 2000000 in
theorem trie_Cover (w : World) (t : Trie.T) (v : Value) (h : TrieP w t v) (hc : Trie.count t ≤ 20000) (from_ end_ : List UInt8) (h1 : from_.length ≤ 2000) (h2 : end_.length ≤ 2000) :
    Calls Tryd.prog 22 #[v, .string ⟨from_.toArray⟩, .string ⟨end_.toArray⟩] w (TextsEnd w (toldW (coverW (Nib.of from_) (Nib.of end_) end_) t)) := by
  have HP : Hid (∀ A n c w', n = (toldW (coverW (Nib.of from_) (Nib.of end_) end_) t).length → w'.ownsRow w.heap.size 9 1 (.slice A n c) n (strv (toldW (coverW (Nib.of from_) (Nib.of end_) end_) t)) → Below w.heap.size w w' → TextsEnd w (toldW (coverW (Nib.of from_) (Nib.of end_) end_) t) (.returned (.slice A n c)) w') := Lib.hid (fun A n c w' h1 h2 h3 => ⟨A, n, c, rfl, h1, h2, h3⟩)
  have HO1 : Hid (∀ W, Calls Tryd.prog 56 #[.string ⟨from_.toArray⟩] W fun e w' => e = .returned (.string ⟨(Nib.of from_).toArray⟩) ∧ Below W.heap.size W w') := Lib.hid (fun W => nib_Of from_ W h1)
  have HO2 : Hid (∀ W, Calls Tryd.prog 56 #[.string ⟨end_.toArray⟩] W fun e w' => e = .returned (.string ⟨(Nib.of end_).toArray⟩) ∧ Below W.heap.size W w') := Lib.hid (fun W => nib_Of end_ W h2)
  have HT : Hid (∀ W b7 b5 b8, Below w.heap.size w W → Blk W b7 9 #[.string ⟨(Nib.of from_).toArray⟩] → Blk W b5 9 #[.string ⟨end_.toArray⟩] → Blk W b8 9 #[.string ⟨(Nib.of end_).toArray⟩] → Calls Tryd.prog 54 #[v, .func (.func 59) #[] #[.pointer (some ⟨b7, 0, none⟩), .pointer (some ⟨b5, 0, none⟩), .pointer (some ⟨b8, 0, none⟩)]] W (TextsEnd w (toldW (coverW (Nib.of from_) (Nib.of end_) end_) t))) :=
    Lib.hid (fun W b7 b5 b8 k0 k7 k5 k8 => (trie_told W t v (h.next k0) hc _ _ _ (may_cover W (Nib.of from_) (Nib.of end_) end_ (by rw [Nib.of_length]; omega) (by rw [Nib.of_length]; omega) b7 b5 b8 k7 k5 k8)).mono (fun e w' he => he.base k0))
  generalize TextsEnd w (toldW (coverW (Nib.of from_) (Nib.of end_) end_) t) = P at HP ⊢
  obtain ⟨_, b, x, rfl, _, _⟩ := h
  clear hc h1 h2
  generalize Nib.of from_ = low at *
  generalize Nib.of end_ = high at *
  go_enter Tryd.func22, Tryd.ntmps22
  go_upto_region 1 with fail
  have F0 : Hid (Blk (w.alloc (.cells #[.string ⟨end_.toArray⟩] 9)) w.heap.size 9 #[.string ⟨end_.toArray⟩] ∧ Below w.heap.size w (w.alloc (.cells #[.string ⟨end_.toArray⟩] 9))) := Lib.hid ⟨Blk.new _ _ _, by go_grown⟩
  generalize w.alloc (.cells #[.string ⟨end_.toArray⟩] 9) = W0 at F0 ⊢
  have c5 : W0.cell? ⟨w.heap.size, 0, none⟩ = some (.string ⟨end_.toArray⟩) := F0.out.1.cell 0
  have hal : ∀ o : Obj, (W0.alloc o).cell? ⟨w.heap.size, 0, none⟩ = some (.string ⟨end_.toArray⟩) := fun o => (((Below.refl _ W0).alloc (Nat.le_refl _) o).cell (p := ⟨w.heap.size, 0, none⟩) F0.out.1.lt).trans c5
  go_cut [7, 8] (fun s7 s8 wx => CoverIn w low high end_ w.heap.size s7 s8 wx)
  case first =>
    have HLt0 := Lib.hid F0.out.1.lt
    have hal2 : ∀ o o2 : Obj, ((W0.alloc o).alloc o2).cell? ⟨w.heap.size, 0, none⟩ = some (.string ⟨end_.toArray⟩) := fun o o2 => ((((Below.refl _ W0).alloc (Nat.le_refl _) o).alloc (by simp) o2).cell (p := ⟨w.heap.size, 0, none⟩) F0.out.1.lt).trans c5
    have hlt0 := F0.out.1.lt
    go_region_held3 (fun w' => w'.cell? ⟨w.heap.size, 0, none⟩ = some (.string ⟨end_.toArray⟩)) (first | go_keep | assumption | (simp [*]; done) | (repeat (first | assumption | (rw [World.cell?_alloc_lt _ _ _ (by simp; omega)]) | (rw [World.cell?_setCell_other _ _ _ _ (by intro e; injection e with e; omega)])))) (first
      | (go_at_call 56; ((with_reducible refine (HO1.out _).mono ?_); rintro e w1 ⟨rfl, hb1⟩; have hz1 := hb1.size; (try simp only [World.size_alloc, World.size_drew] at hz1); (try have q5 : W0.heap.size < w1.heap.size := (by omega)); (try have q6 : W0.heap.size + 1 < w1.heap.size := (by omega)); have q0 : w.heap.size < w1.heap.size := (by omega); obtain ⟨hc1, hf1⟩ := bcell hb1; (try simp only [World.size_alloc, World.size_drew] at hc1 hf1); have d5 : w1.cell? ⟨w.heap.size, 0, none⟩ = some (.string ⟨end_.toArray⟩) := (hb1.cell (p := ⟨w.heap.size, 0, none⟩) (by simp; omega)).trans (by first | exact c5 | exact hal _ | exact hal2 _ _)))
      | (go_at_call 56; ((with_reducible refine (HO2.out _).mono ?_); rintro e w2 ⟨rfl, hb2⟩; have hz2 := hb2.size; (try simp only [World.size_alloc, World.size_drew] at hz2); (try have q1 : w1.heap.size < w2.heap.size := (by omega)); (try have q2 : w1.heap.size + 1 < w2.heap.size := (by omega)); (try have q3 : W0.heap.size < w2.heap.size := (by omega)); (try have q4 : W0.heap.size + 1 < w2.heap.size := (by omega)); have q9 : w.heap.size < w2.heap.size := (by omega); obtain ⟨hc2, hf2⟩ := bcell hb2; (try simp only [World.size_alloc, World.size_drew] at hc2 hf2); have d6 : w2.cell? ⟨w.heap.size, 0, none⟩ = some (.string ⟨end_.toArray⟩) := (hb2.cell (p := ⟨w.heap.size, 0, none⟩) (by simp; omega)).trans (by first | assumption | (simp [*]; done)))))
    all_goals go_wp2
    all_goals go_meet
    all_goals refine ⟨_, _, rfl, rfl, ?_, ?_, ?_, ?_⟩
    all_goals repeat' (first
      | (with_reducible exact F0.out.1)
      | (with_reducible exact F0.out.2)
      | (with_reducible exact Blk.new _ _ _)
      | (with_reducible refine Blk.drew ?_)
      | (with_reducible refine blk_set0 (u := .string ⟨#[]⟩) ?_)
      | (with_reducible refine Blk.far ?_ (by first | omega | (simp only [World.size_alloc, World.size_drew, World.size_setCell]; omega)) _)
      | ((with_reducible apply blk_new'); (first | rfl | (simp only [World.size_alloc, World.size_drew, World.size_setCell]; done)))
      | (with_reducible refine Blk.alloc ?_ _)
      | (with_reducible refine Blk.below ?_ hb2 (by first | omega | (simp only [World.size_alloc, World.size_drew, World.size_setCell]; omega)))
      | (with_reducible refine Blk.below ?_ hb1 (by first | omega | (simp only [World.size_alloc, World.size_drew, World.size_setCell]; omega)))
      | (with_reducible refine Below.drew ?_)
      | (with_reducible refine Below.alloc ?_ (by first | omega | (simp only [World.size_alloc, World.size_drew, World.size_setCell]; omega)) _)
      | (with_reducible refine Below.setCell ?_ (by first | omega | (simp only [World.size_alloc, World.size_drew, World.size_setCell]; omega)) _)
      | (with_reducible refine Below.trans ?_ (hb2.mono (by first | omega | (simp only [World.size_alloc, World.size_drew, World.size_setCell]; omega))))
      | (with_reducible refine Below.trans ?_ (hb1.mono (by first | omega | (simp only [World.size_alloc, World.size_drew, World.size_setCell]; omega)))))
  case rest =>
    obtain ⟨b7, b8, h7, h8, k7, k5, k8, kb⟩ := hcut
    subst h7
    subst h8
    have HC := Lib.hid (And.intro k7 (And.intro k5 (And.intro k8 kb)))
    clear k7 k5 k8 kb c5 hal F0
    go_wp2_with (go_at_call 54; refine (HT.out _ b7 w.heap.size b8 HC.out.2.2.2 HC.out.1 HC.out.2.1 HC.out.2.2.1).mono ?_; rintro e w2 ⟨A, n, c, rfl, h1, h2, h3⟩; have HH := Lib.hid (And.intro h1 (And.intro h2 h3)); clear h1 h2 h3)
    exact HP.out _ _ _ _ HH.out.1 HH.out.2.1 HH.out.2.2
end Go.Proofs.YtefcmigbdfeaiaaDoor

/- The book's spoiling of items and of texts (package pharosbook), walked. No conditions. -/
namespace Go.Proofs.YtefcmigbdfeaiaaDoor
set_option linter.unusedVariables false
open Go.RowKit Go.Instr
attribute [local go_sem] ba_get ByteArray.mk_append_mk

/-- where an owned slice that is not empty lies -/
theorem own_at {w : World} {base e size n c : Nat} {A : Option Addr} {xs : List Value} (h : w.ownsRow base e size (.slice A n c) n xs) (hn : 0 < n) (hs : 0 < size) :
    ∃ g, A = some ⟨g, 0, none⟩ ∧ base ≤ g ∧ g < w.heap.size ∧ ∀ (j : Nat) (hj : j < xs.length), w.cell? ⟨g, j, none⟩ = some xs[j] := by
  obtain ⟨A', c', hv, HR, hc, hb⟩ := own_form h
  injection hv with hA _ _
  subst hA
  obtain ⟨g, cap, hv, hge, hlt⟩ := h.form hn
  injection hv with hA
  subst hA
  obtain ⟨b, off, e1, hbl, hcell⟩ := HR.form hn hs
  injection e1 with e1
  injection e1 with e1 e2
  subst e1
  subst e2
  exact ⟨g, rfl, hge, hlt, fun j hj => by have := hcell j hj; rwa [Nat.zero_add] at this⟩
def SpoilEnd (B : Nat) (w : World) (e : Ending) (w' : World) : Prop := e = .returned (.tuple #[]) ∧ Below B w w'
theorem grown_set1 {w w' : World} {g : Nat} (h : w.grownBy w' (some g)) (i : Nat) (v : Value) : w.grownBy (w'.setCell ⟨g, i, none⟩ v) (some g) :=
  ⟨h.os, h.tape, h.output, by rw [World.size_setCell]; exact h.size, fun k hk hne => (Below.heap_setCell w' ⟨g, i, none⟩ v k (fun e => hne (by rw [e]))).trans (h.block k hk hne)⟩
set_option maxHeartbeats 1000000 in
theorem book_SpoilTexts (w : World) (B : Nat) (A : Option Addr) (n c : Nat) (xs : List Value) (own : w.ownsRow B 9 1 (.slice A n c) n xs) (hB : B ≤ w.heap.size) (hn : n ≤ 1000000) :
    Calls Tryd.prog 24 #[.slice A n c] w (SpoilEnd B w) := by
  have HP : Hid (∀ w', Below B w w' → SpoilEnd B w (.returned (.tuple #[])) w') := Lib.hid (fun w' h => ⟨rfl, h⟩)
  generalize SpoilEnd B w = P at HP ⊢
  have HO := Lib.hid own
  clear own
  go_enter Tryd.func24, Tryd.ntmps24
  go_wp2
  refine wp_loop_ghost_k (fun k a wr => ∀ Φ : Act → Prop, (∀ (s1 s3 s4 s5 s6 s7 s8 s9 s10 s11 : Value) (i : Nat) (ys : List Value), (i + k = n ∧ wr.ownsRow B 9 1 (.slice A n c) n ys ∧ Below B w wr) → Φ { tmps := #[.slice A n c, s1, .int .i64 (i : Int), s3, s4, s5, s6, s7, s8, s9, s10, s11], defers := [] }) → Φ a) (n) ?_ ?_
  · refine fun Φ hΦ => hΦ _ _ _ _ _ _ _ _ _ _ (0) (xs) ?_
    exact ⟨by omega, HO.out, Below.refl _ _⟩
  · intro k1 a1 wr1 hI1 J1 K1 hJ1 hK1
    refine hI1 (fun a => Code.wp _ _ _ a _) ?_
    clear hI1 a1
    intro s0 s1 s2 s3 s4 s5 s6 s7 s8 s9 i ys hrel
    show Code.wp _ _ _ _ _
    obtain ⟨h1, ho, hb⟩ := hrel
    by_cases hi : i < n
    · obtain ⟨g, rfl, hge, hlt, hc⟩ := own_at ho (by omega) (by omega)
      have hl : ys.length = n * 1 := ho.1
      have c0 := hc i (by omega)
      have f0 := ho.frozenAt i
      have H := Lib.hid (And.intro h1 (And.intro ho (And.intro hb hge)))
      have hi1 : (i : Int) < n := by omega
      have hi0 : (0 : Int) ≤ i := by omega
      generalize ys[i] = u0 at *
      clear h1 ho hb hge hc
      go_wp2
      refine Handed.intro (n - (i + 1)) ?_ (hJ1 _ _ _ (fun Φ hΦ => hΦ _ _ _ _ _ _ _ _ _ _ (i + 1) ((ys.set i (.string ⟨#[97, 110, 111, 116, 104, 101, 114, 32, 111, 110, 101]⟩))) ?_))
      · have := H.out.1
        omega
      · obtain ⟨h1, ho, hb, hge⟩ := H.out
        have s1 := ho.stored i (.string ⟨#[97, 110, 111, 116, 104, 101, 114, 32, 111, 110, 101]⟩)
        exact ⟨by omega, s1.1, (hb.setCell (p := ⟨g, i, none⟩) hge _)⟩
    · have hi2 : ((i : Int) < n) = False := by simp; omega
      have H := Lib.hid hb
      clear ho hb h1 hi
      go_wp2
      go_end0
      exact HP.out _ H.out
set_option maxHeartbeats 1000000 in
theorem book_SpoilTexts2 (w : World) (B : Nat) (A : Option Addr) (n c : Nat) (xs : List Value) (own : w.ownsRow B 9 1 (.slice A n c) n xs) (hB : B ≤ w.heap.size) (hn : n ≤ 1000000) :
    Calls Tryd.prog 24 #[.slice A n c] w fun e w' => e = .returned (.tuple #[]) ∧ w.grownBy w' (Value.slice A n c).ownBlock := by
  have HP : Hid (∀ w', w.grownBy w' (Value.slice A n c).ownBlock → (fun e w' => e = Ending.returned (.tuple #[]) ∧ w.grownBy w' (Value.slice A n c).ownBlock) (.returned (.tuple #[])) w') := Lib.hid (fun w' h => ⟨rfl, h⟩)
  generalize (fun e w' => e = Ending.returned (.tuple #[]) ∧ w.grownBy w' (Value.slice A n c).ownBlock) = P at HP ⊢
  have HO := Lib.hid own
  clear own
  go_enter Tryd.func24, Tryd.ntmps24
  go_wp2
  refine wp_loop_ghost_k (fun k a wr => ∀ Φ : Act → Prop, (∀ (s1 s3 s4 s5 s6 s7 s8 s9 s10 s11 : Value) (i : Nat) (ys : List Value), (i + k = n ∧ wr.ownsRow B 9 1 (.slice A n c) n ys ∧ w.grownBy wr (Value.slice A n c).ownBlock) → Φ { tmps := #[.slice A n c, s1, .int .i64 (i : Int), s3, s4, s5, s6, s7, s8, s9, s10, s11], defers := [] }) → Φ a) (n) ?_ ?_
  · refine fun Φ hΦ => hΦ _ _ _ _ _ _ _ _ _ _ (0) (xs) ?_
    exact ⟨by omega, HO.out, World.grownBy.refl _ _⟩
  · intro k1 a1 wr1 hI1 J1 K1 hJ1 hK1
    refine hI1 (fun a => Code.wp _ _ _ a _) ?_
    clear hI1 a1
    intro s0 s1 s2 s3 s4 s5 s6 s7 s8 s9 i ys hrel
    show Code.wp _ _ _ _ _
    obtain ⟨h1, ho, hb⟩ := hrel
    by_cases hi : i < n
    · obtain ⟨g, rfl, hge, hlt, hc⟩ := own_at ho (by omega) (by omega)
      have hl : ys.length = n * 1 := ho.1
      have c0 := hc i (by omega)
      have f0 := ho.frozenAt i
      have H := Lib.hid (And.intro h1 (And.intro ho (And.intro hb hge)))
      have hi1 : (i : Int) < n := by omega
      have hi0 : (0 : Int) ≤ i := by omega
      generalize ys[i] = u0 at *
      clear h1 ho hb hge hc
      go_wp2
      refine Handed.intro (n - (i + 1)) ?_ (hJ1 _ _ _ (fun Φ hΦ => hΦ _ _ _ _ _ _ _ _ _ _ (i + 1) ((ys.set i (.string ⟨#[97, 110, 111, 116, 104, 101, 114, 32, 111, 110, 101]⟩))) ?_))
      · have := H.out.1
        omega
      · obtain ⟨h1, ho, hb, hge⟩ := H.out
        have s1 := ho.stored i (.string ⟨#[97, 110, 111, 116, 104, 101, 114, 32, 111, 110, 101]⟩)
        exact ⟨by omega, s1.1, (grown_set1 hb _ _)⟩
    · have hi2 : ((i : Int) < n) = False := by simp; omega
      have H := Lib.hid hb
      clear ho hb h1 hi
      go_wp2
      go_end0
      exact HP.out _ H.out
end Go.Proofs.YtefcmigbdfeaiaaDoor

/- Layer 10's laws: TrieNodes, the items' lengths. No conditions. -/
namespace Go.Proofs.YtefcmigbdfeaiaaDoor
set_option linter.unusedVariables false
open Go.RowKit Go.Instr
attribute [local go_sem] ba_get ByteArray.mk_append_mk
attribute [local go_sem ↓] Go.wp_at_zero Go.wp_at_succ
def shortI (x : Trie.KV) : Bool := decide (x.1.length ≤ 100) && decide (x.2.length ≤ 100)
set_option maxRecDepth 100000 in
set_option maxHeartbeats 2000000 in
theorem nodes_loop (w w0 : World) (L : List Trie.KV) (A : Option Addr) (cp : Nat) (HR : Reads w w.heap.size 2 A L.length (icells L)) (hL : L.length ≤ 20) (hT : Tbl w) (key : ByteArray) (pe : Nat) (hb0 : Below w.heap.size w w0)
    (Q : Exit → Act → World → Prop)
    (hQ : L.all shortI = true → ∀ (s2 s3 s4 s6 s7 s8 s9 s10 s11 s12 s13 s14 s15 s16 s17 s18 s19 s20 s21 s22 s23 s24 s25 s26 s27 s28 s29 s30 s31 s32 s33 s34 s35 s36 s37 s38 s39 s40 s41 s42 s43 s44 s45 s46 s47 s48 s49 s50 s51 s52 s53 s54 s55 s56 s57 s58 s59 s60 s61 s62 s63 s64 s65 s66 s67 s68 s69 s70 s71 s72 s73 s74 s75 s76 s77 s78 s79 s80 s81 s82 s83 s84 s85 s86 s87 s88 s89 s90 s91 s92 s93 s94 s95 s96 s97 s98 s99 s100 s101 s102 s103 s104 s105 s106 s107 s108 s109 s110 s111 s112 s113 s114 s115 s116 s117 s118 s119 s120 s121 s122 s123 s124 s125 s126 s127 s128 s129 s130 s131 s132 s133 s134 s135 s136 s137 s138 s139 s140 s141 : Value), Q (.exit 0) { tmps := #[.slice A L.length cp, .string key, s2, s3, s4, .pointer (some ⟨pe, 0, none⟩), s6, s7, s8, s9, s10, s11, s12, s13, s14, s15, s16, s17, s18, s19, s20, s21, s22, s23, s24, s25, s26, s27, s28, s29, s30, s31, s32, s33, s34, s35, s36, s37, s38, s39, s40, s41, s42, s43, s44, s45, s46, s47, s48, s49, s50, s51, s52, s53, s54, s55, s56, s57, s58, s59, s60, s61, s62, s63, s64, s65, s66, s67, s68, s69, s70, s71, s72, s73, s74, s75, s76, s77, s78, s79, s80, s81, s82, s83, s84, s85, s86, s87, s88, s89, s90, s91, s92, s93, s94, s95, s96, s97, s98, s99, s100, s101, s102, s103, s104, s105, s106, s107, s108, s109, s110, s111, s112, s113, s114, s115, s116, s117, s118, s119, s120, s121, s122, s123, s124, s125, s126, s127, s128, s129, s130, s131, s132, s133, s134, s135, s136, s137, s138, s139, s140, s141], defers := [] } w0)
    (hRt : ∀ (s0 s1 s2 s3 s4 s5 s7 s8 s9 s10 s11 s12 s13 s14 s15 s16 s17 s18 s19 s20 s21 s22 s23 s24 s25 s26 s27 s28 s29 s30 s31 s32 s33 s34 s35 s36 s37 s38 s39 s40 s41 s42 s43 s44 s45 s46 s47 s48 s49 s50 s51 s52 s53 s54 s55 s56 s57 s58 s59 s60 s61 s62 s63 s64 s65 s66 s67 s68 s69 s70 s71 s72 s73 s74 s75 s76 s77 s78 s79 s80 s81 s82 s83 s84 s85 s86 s87 s88 s89 s90 s91 s92 s93 s94 s95 s96 s97 s98 s99 s100 s101 s102 s103 s104 s105 s106 s107 s108 s109 s110 s111 s112 s113 s114 s115 s116 s117 s118 s119 s120 s121 s122 s123 s124 s125 s126 s127 s128 s129 s130 s131 s132 s133 s134 s135 s136 s137 s138 s139 s140 s141 : Value) (w2 : World), Below w.heap.size w w2 → Q .ret { tmps := #[s0, s1, s2, s3, s4, s5, .bool true, s7, s8, s9, s10, s11, s12, s13, s14, s15, s16, s17, s18, s19, s20, s21, s22, s23, s24, s25, s26, s27, s28, s29, s30, s31, s32, s33, s34, s35, s36, s37, s38, s39, s40, s41, s42, s43, s44, s45, s46, s47, s48, s49, s50, s51, s52, s53, s54, s55, s56, s57, s58, s59, s60, s61, s62, s63, s64, s65, s66, s67, s68, s69, s70, s71, s72, s73, s74, s75, s76, s77, s78, s79, s80, s81, s82, s83, s84, s85, s86, s87, s88, s89, s90, s91, s92, s93, s94, s95, s96, s97, s98, s99, s100, s101, s102, s103, s104, s105, s106, s107, s108, s109, s110, s111, s112, s113, s114, s115, s116, s117, s118, s119, s120, s121, s122, s123, s124, s125, s126, s127, s128, s129, s130, s131, s132, s133, s134, s135, s136, s137, s138, s139, s140, s141], defers := [] } w2)
    (s2 s3 s4 s6 s8 s9 s10 s11 s12 s13 s14 s15 s16 s17 s18 s19 s20 s21 s22 s23 s24 s25 s26 s27 s28 s29 s30 s31 s32 s33 s34 s35 s36 s37 s38 s39 s40 s41 s42 s43 s44 s45 s46 s47 s48 s49 s50 s51 s52 s53 s54 s55 s56 s57 s58 s59 s60 s61 s62 s63 s64 s65 s66 s67 s68 s69 s70 s71 s72 s73 s74 s75 s76 s77 s78 s79 s80 s81 s82 s83 s84 s85 s86 s87 s88 s89 s90 s91 s92 s93 s94 s95 s96 s97 s98 s99 s100 s101 s102 s103 s104 s105 s106 s107 s108 s109 s110 s111 s112 s113 s114 s115 s116 s117 s118 s119 s120 s121 s122 s123 s124 s125 s126 s127 s128 s129 s130 s131 s132 s133 s134 s135 s136 s137 s138 s139 s140 s141 : Value) :
    Code.wp Tryd.prog (.loop (loopAt Tryd.f3 0)) Q { tmps := #[.slice A L.length cp, .string key, s2, s3, s4, .pointer (some ⟨pe, 0, none⟩), s6, .int .i64 0, s8, s9, s10, s11, s12, s13, s14, s15, s16, s17, s18, s19, s20, s21, s22, s23, s24, s25, s26, s27, s28, s29, s30, s31, s32, s33, s34, s35, s36, s37, s38, s39, s40, s41, s42, s43, s44, s45, s46, s47, s48, s49, s50, s51, s52, s53, s54, s55, s56, s57, s58, s59, s60, s61, s62, s63, s64, s65, s66, s67, s68, s69, s70, s71, s72, s73, s74, s75, s76, s77, s78, s79, s80, s81, s82, s83, s84, s85, s86, s87, s88, s89, s90, s91, s92, s93, s94, s95, s96, s97, s98, s99, s100, s101, s102, s103, s104, s105, s106, s107, s108, s109, s110, s111, s112, s113, s114, s115, s116, s117, s118, s119, s120, s121, s122, s123, s124, s125, s126, s127, s128, s129, s130, s131, s132, s133, s134, s135, s136, s137, s138, s139, s140, s141], defers := [] } w0 := by
  have HQ := Lib.hid hQ
  have HRt := Lib.hid hRt
  have HRR := Lib.hid HR
  have HTb := Lib.hid hT
  have HL := Lib.hid hL
  have HB := Lib.hid hb0
  clear hQ hRt HR hT hL hb0
  refine wp_loop_ghost_k (fun k a wr => ∀ Φ : Act → Prop, (∀ (s2 s3 s4 s6 s8 s9 s10 s11 s12 s13 s14 s15 s16 s17 s18 s19 s20 s21 s22 s23 s24 s25 s26 s27 s28 s29 s30 s31 s32 s33 s34 s35 s36 s37 s38 s39 s40 s41 s42 s43 s44 s45 s46 s47 s48 s49 s50 s51 s52 s53 s54 s55 s56 s57 s58 s59 s60 s61 s62 s63 s64 s65 s66 s67 s68 s69 s70 s71 s72 s73 s74 s75 s76 s77 s78 s79 s80 s81 s82 s83 s84 s85 s86 s87 s88 s89 s90 s91 s92 s93 s94 s95 s96 s97 s98 s99 s100 s101 s102 s103 s104 s105 s106 s107 s108 s109 s110 s111 s112 s113 s114 s115 s116 s117 s118 s119 s120 s121 s122 s123 s124 s125 s126 s127 s128 s129 s130 s131 s132 s133 s134 s135 s136 s137 s138 s139 s140 s141 : Value) (i : Nat), (i + k = L.length ∧ (L.take i).all shortI = true ∧ wr = w0) → Φ { tmps := #[.slice A L.length cp, .string key, s2, s3, s4, .pointer (some ⟨pe, 0, none⟩), s6, .int .i64 (i : Int), s8, s9, s10, s11, s12, s13, s14, s15, s16, s17, s18, s19, s20, s21, s22, s23, s24, s25, s26, s27, s28, s29, s30, s31, s32, s33, s34, s35, s36, s37, s38, s39, s40, s41, s42, s43, s44, s45, s46, s47, s48, s49, s50, s51, s52, s53, s54, s55, s56, s57, s58, s59, s60, s61, s62, s63, s64, s65, s66, s67, s68, s69, s70, s71, s72, s73, s74, s75, s76, s77, s78, s79, s80, s81, s82, s83, s84, s85, s86, s87, s88, s89, s90, s91, s92, s93, s94, s95, s96, s97, s98, s99, s100, s101, s102, s103, s104, s105, s106, s107, s108, s109, s110, s111, s112, s113, s114, s115, s116, s117, s118, s119, s120, s121, s122, s123, s124, s125, s126, s127, s128, s129, s130, s131, s132, s133, s134, s135, s136, s137, s138, s139, s140, s141], defers := [] }) → Φ a) (L.length) ?_ ?_
  · refine fun Φ hΦ => hΦ _ _ _ _ _ _ _ _ _ _ _ _ _ _ _ _ _ _ _ _ _ _ _ _ _ _ _ _ _ _ _ _ _ _ _ _ _ _ _ _ _ _ _ _ _ _ _ _ _ _ _ _ _ _ _ _ _ _ _ _ _ _ _ _ _ _ _ _ _ _ _ _ _ _ _ _ _ _ _ _ _ _ _ _ _ _ _ _ _ _ _ _ _ _ _ _ _ _ _ _ _ _ _ _ _ _ _ _ _ _ _ _ _ _ _ _ _ _ _ _ _ _ _ _ _ _ _ _ _ _ _ _ _ _ _ _ _ _ (0) ?_
    exact ⟨by omega, rfl, rfl⟩
  · intro k1 a1 wr1 hI1 J1 K1 hJ1 hK1
    refine hI1 (fun a => Code.wp _ _ _ a _) ?_
    clear hI1 a1
    intro s0 s1 s2 s3 s4 s5 s6 s7 s8 s9 s10 s11 s12 s13 s14 s15 s16 s17 s18 s19 s20 s21 s22 s23 s24 s25 s26 s27 s28 s29 s30 s31 s32 s33 s34 s35 s36 s37 s38 s39 s40 s41 s42 s43 s44 s45 s46 s47 s48 s49 s50 s51 s52 s53 s54 s55 s56 s57 s58 s59 s60 s61 s62 s63 s64 s65 s66 s67 s68 s69 s70 s71 s72 s73 s74 s75 s76 s77 s78 s79 s80 s81 s82 s83 s84 s85 s86 s87 s88 s89 s90 s91 s92 s93 s94 s95 s96 s97 s98 s99 s100 s101 s102 s103 s104 s105 s106 s107 s108 s109 s110 s111 s112 s113 s114 s115 s116 s117 s118 s119 s120 s121 s122 s123 s124 s125 s126 s127 s128 s129 s130 s131 s132 s133 s134 s135 s136 s137 i hrel
    show Code.wp _ _ _ _ _
    conv => arg 2; whnf
    obtain ⟨h1, h2, rfl⟩ := hrel
    by_cases hi : i < L.length
    · obtain ⟨ad, off, rfl, hbl, hcell⟩ := item_read HRR.out hi
      obtain ⟨r0, r1⟩ := hcell _ HB.out
      have hl := HL.out
      have ht : (L.take (i + 1)).all shortI = ((L.take i).all shortI && shortI L[i]) := by
        rw [List.take_succ_eq_append_getElem hi, List.all_append, List.all_cons, List.all_nil, Bool.and_true]
      rw [h2, Bool.true_and] at ht
      have HI := Lib.hid (And.intro h1 ht)
      have hi0 : (i : Int) < L.length := by omega
      have hi1 : (0 : Int) ≤ i := by omega
      clear h1 h2 hcell hbl ht
      generalize L[i] = x at *
      obtain ⟨key, value⟩ := x
      by_cases hk : 100 < key.length
      · have hk' : (100 : Int) < key.length := by omega
        clear hk
        go_wp2_with fail
        refine (law10_works _ (HTb.out.next HB.out)).mono ?_
        rintro e w9 ⟨rfl, hb9⟩
        go_wp2_with fail
        exact HRt.out _ _ _ _ _ _ _ _ _ _ _ _ _ _ _ _ _ _ _ _ _ _ _ _ _ _ _ _ _ _ _ _ _ _ _ _ _ _ _ _ _ _ _ _ _ _ _ _ _ _ _ _ _ _ _ _ _ _ _ _ _ _ _ _ _ _ _ _ _ _ _ _ _ _ _ _ _ _ _ _ _ _ _ _ _ _ _ _ _ _ _ _ _ _ _ _ _ _ _ _ _ _ _ _ _ _ _ _ _ _ _ _ _ _ _ _ _ _ _ _ _ _ _ _ _ _ _ _ _ _ _ _ _ _ _ _ _ _ _ _ _ _ (HB.out.nxt hb9)
      · have hk' : ((100 : Int) < key.length) = False := by simp; omega
        by_cases hv : 100 < value.length
        · have hv' : (100 : Int) < value.length := by omega
          clear hk hv
          go_wp2_with fail
          refine (law10_works _ (HTb.out.next HB.out)).mono ?_
          rintro e w9 ⟨rfl, hb9⟩
          go_wp2_with fail
          exact HRt.out _ _ _ _ _ _ _ _ _ _ _ _ _ _ _ _ _ _ _ _ _ _ _ _ _ _ _ _ _ _ _ _ _ _ _ _ _ _ _ _ _ _ _ _ _ _ _ _ _ _ _ _ _ _ _ _ _ _ _ _ _ _ _ _ _ _ _ _ _ _ _ _ _ _ _ _ _ _ _ _ _ _ _ _ _ _ _ _ _ _ _ _ _ _ _ _ _ _ _ _ _ _ _ _ _ _ _ _ _ _ _ _ _ _ _ _ _ _ _ _ _ _ _ _ _ _ _ _ _ _ _ _ _ _ _ _ _ _ _ _ _ _ (HB.out.nxt hb9)
        · have hv' : ((100 : Int) < value.length) = False := by simp; omega
          have HSh : Hid (shortI (key, value) = true) := Lib.hid (by unfold shortI; simp; omega)
          clear hk hv
          go_wp2_with fail
          refine Handed.intro (L.length - (i + 1)) ?_ (hJ1 _ _ _ (fun Φ hΦ => hΦ _ _ _ _ _ _ _ _ _ _ _ _ _ _ _ _ _ _ _ _ _ _ _ _ _ _ _ _ _ _ _ _ _ _ _ _ _ _ _ _ _ _ _ _ _ _ _ _ _ _ _ _ _ _ _ _ _ _ _ _ _ _ _ _ _ _ _ _ _ _ _ _ _ _ _ _ _ _ _ _ _ _ _ _ _ _ _ _ _ _ _ _ _ _ _ _ _ _ _ _ _ _ _ _ _ _ _ _ _ _ _ _ _ _ _ _ _ _ _ _ _ _ _ _ _ _ _ _ _ _ _ _ _ _ _ _ _ _ (i + 1) ?_))
          · have := HI.out.1; omega
          · exact ⟨by have := HI.out.1; omega, HI.out.2.trans HSh.out, rfl⟩
    · have hi2 : ((i : Int) < L.length) = False := by simp; omega
      rw [List.take_of_length_le (by omega)] at h2
      have H2 := Lib.hid h2
      clear h1 h2 hi
      go_wp2_with fail
      exact HQ.out H2.out _ _ _ _ _ _ _ _ _ _ _ _ _ _ _ _ _ _ _ _ _ _ _ _ _ _ _ _ _ _ _ _ _ _ _ _ _ _ _ _ _ _ _ _ _ _ _ _ _ _ _ _ _ _ _ _ _ _ _ _ _ _ _ _ _ _ _ _ _ _ _ _ _ _ _ _ _ _ _ _ _ _ _ _ _ _ _ _ _ _ _ _ _ _ _ _ _ _ _ _ _ _ _ _ _ _ _ _ _ _ _ _ _ _ _ _ _ _ _ _ _ _ _ _ _ _ _ _ _ _ _ _ _ _ _ _ _ _ _
end Go.Proofs.YtefcmigbdfeaiaaDoor
