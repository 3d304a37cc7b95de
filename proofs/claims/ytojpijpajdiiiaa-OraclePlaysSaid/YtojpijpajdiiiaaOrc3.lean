/- The walks of layer 6 (oracle): a step that signs. No conditions. -/
import Derived.Test.YtojpijpajdiiiaaOrc2
namespace Go.Proofs.Ytojpijpajdiiiaa
set_option linter.unusedVariables false
open Go.RowKit Go.Instr
attribute [local go_sem] ba_get ByteArray.mk_append_mk add_zero_addr

/-- all blocks but those of X stay -/
structure Kept (X : Nat → Prop) (w w' : World) : Prop where
  os : w'.os = w.os
  tape : w'.tape = w.tape
  output : w'.output = w.output
  size : w.heap.size ≤ w'.heap.size
  block : ∀ k, k < w.heap.size → ¬ X k → w'.heap[k]? = w.heap[k]?
theorem Kept.of_below {X : Nat → Prop} {w w' : World} (h : Below w.heap.size w w') : Kept X w w' := ⟨h.os, h.tape, h.output, h.size, fun k hk _ => h.block k hk⟩
theorem Kept.grown {X : Nat → Prop} {w w1 w2 : World} {row : Option Nat} (h : Kept X w w1) (hg : w1.grownBy w2 row) (hr : ∀ k, row = some k → k < w.heap.size → X k) : Kept X w w2 :=
  ⟨hg.os.trans h.os, hg.tape.trans h.tape, hg.output.trans h.output, Nat.le_trans h.size hg.size, fun k hk hx => (hg.block k (Nat.lt_of_lt_of_le hk h.size) (fun e => hx (hr k e.symm hk))).trans (h.block k hk hx)⟩
theorem Kept.trans {X Y : Nat → Prop} {w w1 w2 : World} (h : Kept X w w1) (h2 : Kept Y w1 w2) (hXY : ∀ k, k < w.heap.size → Y k → X k) : Kept X w w2 :=
  ⟨h2.os.trans h.os, h2.tape.trans h.tape, h2.output.trans h.output, Nat.le_trans h.size h2.size, fun k hk hx => (h2.block k (Nat.lt_of_lt_of_le hk h.size) (fun hy => hx (hXY k hk hy))).trans (h.block k hk hx)⟩
theorem Kept.below {X : Nat → Prop} {w w' : World} (h : Kept X w w') {B : Nat} (hB : B ≤ w.heap.size) (hX : ∀ k, X k → B ≤ k) : Below B w w' :=
  ⟨h.os, h.tape, h.output, h.size, fun k hk => h.block k (Nat.lt_of_lt_of_le hk hB) (fun hx => by have := hX k hx; omega)⟩

/-- a table's blocks -/
def TabX (mb : Nat) (v : Value) : Nat → Prop := fun k => k = mb ∨ k = mb + 1 ∨ v.ownBlock = some k
theorem Blk.keep {w w1 : World} {g : Nat} {t : TypeId} {cs : Array Value} (h : Blk w g t cs) (hb : w1.heap[g]? = w.heap[g]?) : Blk w1 g t cs := hb.trans h
theorem own_keep {w w1 : World} {base e size n : Nat} {v : Value} {xs : List Value} (h : w.ownsRow base e size v n xs) (hb : ∀ k, v.ownBlock = some k → w1.heap[k]? = w.heap[k]?) : w1.ownsRow base e size v n xs := by
  refine ⟨h.1, ?_⟩
  rcases h.2 with h2 | ⟨g, cap, cur, rfl, hbg, hg, h3⟩
  · exact .inl h2
  · exact .inr ⟨g, cap, cur, rfl, hbg, (hb g rfl).trans hg, h3⟩
theorem Tab.kept {X : Nat → Prop} {w w1 : World} {mb : Nat} {v : Value} {l : List Sg} (hT : Tab w mb v l) (hk : Kept X w w1) (hX : ∀ k, TabX mb v k → ¬ X k) : Tab w1 mb v l where
  blk := hT.blk.keep (hk.block _ hT.blk.lt (hX _ (.inr (.inl rfl))))
  map := hT.map.kept (hk.block _ hT.map.lt (hX _ (.inl rfl)))
  own := own_keep hT.own fun k e => hk.block _ (hT.own.lt k e).2 (hX _ (.inr (.inr e)))
theorem Tab.below {w w1 : World} {mb : Nat} {v : Value} {l : List Sg} (hT : Tab w mb v l) (hb : Below w.heap.size w w1) : Tab w1 mb v l :=
  hT.kept (X := fun _ => False) (Kept.of_below hb) (fun _ _ h => h)
theorem TabX.ge {w : World} {mb : Nat} {v : Value} {l : List Sg} (hT : Tab w mb v l) : ∀ k, TabX mb v k → mb ≤ k := by
  rintro k (rfl | rfl | h)
  · exact Nat.le_refl _
  · omega
  · have := (hT.own.lt k h).1; omega

def SignEnd (w : World) (mb : Nat) (v : Value) (l : List Sg) (who mark : List UInt8) (h : Bool) (e : Ending) (w' : World) : Prop :=
  e = .returned (.int .i64 ((sign l who mark h).2 : Nat)) ∧ ∃ v', Tab w' mb v' (sign l who mark h).1 ∧ Kept (TabX mb v) w w' ∧ (v'.ownBlock = v.ownBlock ∨ ∃ g, v'.ownBlock = some g ∧ w.heap.size ≤ g)

theorem orc_Sign_no (w : World) (mb : Nat) (v : Value) (l : List Sg) (hT : Tab w mb v l) (who mark : List UInt8) (h : Bool) (hm : may who mark = false) :
    Calls Try.prog 12 #[.pointer (some ⟨mb + 1, 0, none⟩), .string ⟨who.toArray⟩, .string ⟨mark.toArray⟩, .bool h] w (SignEnd w mb v l who mark h) := by
  have hu : ∀ c : Nat, sign l who mark h = (l, c) → SignEnd w mb v l who mark h (.returned (.int .i64 (c : Nat))) w := fun c hs => by
    refine ⟨by rw [hs], v, by rw [hs]; exact hT, Kept.of_below (Below.refl _ _), .inl rfl⟩
  by_cases h0 : who.length = 0
  · have hf := hu 1 (by simp [sign, h0])
    have e0 : who = [] := List.eq_nil_of_length_eq_zero h0
    subst e0
    clear hu hm hT
    generalize SignEnd w mb v l [] mark h = P at hf ⊢
    have H := Lib.hid hf
    clear hf
    go_enter Try.func12, Try.ntmps12
    go_wp2
    exact H.out
  · have e0 : who.isEmpty = false := by cases who with | nil => exact absurd rfl h0 | cons a b => rfl
    by_cases h6 : 6 < who.length
    · have hf := hu 1 (by simp [sign, h6])
      have e6 : ((6 : Int) < who.length) = True := by simp; omega
      clear hu hm hT
      generalize SignEnd w mb v l who mark h = P at hf ⊢
      have H := Lib.hid hf
      clear hf
      go_enter Try.func12, Try.ntmps12
      go_wp2
      exact H.out
    · have h32 : mark.length ≠ 32 := by
        intro e
        unfold may at hm
        simp at hm
        omega
      have hf := hu 3 (by simp [sign, h0, h6, h32])
      have e6 : ((6 : Int) < who.length) = False := by simp; omega
      have e32 : ((mark.length : Int) = 32) = False := by simp; omega
      clear hu hm hT
      generalize SignEnd w mb v l who mark h = P at hf ⊢
      have H := Lib.hid hf
      clear hf
      go_enter Try.func12, Try.ntmps12
      go_wp2
      exact H.out

set_option maxHeartbeats 2000000 in
theorem orc_Sign_old (w : World) (mb : Nat) (v : Value) (l : List Sg) (hT : Tab w mb v l) (hl : l.length ≤ 1000) (who mark : List UInt8) (h : Bool) (hm : may who mark = true) (n : Nat) (hn : atRow (who, mark) l = some n) :
    Calls Try.prog 12 #[.pointer (some ⟨mb + 1, 0, none⟩), .string ⟨who.toArray⟩, .string ⟨mark.toArray⟩, .bool h] w (SignEnd w mb v l who mark h) := by
  obtain ⟨h1, h6, h32⟩ : 1 ≤ who.length ∧ who.length ≤ 6 ∧ mark.length = 32 := by simpa [may] using hm
  obtain ⟨x, hx, hk⟩ := atRow_lt hn
  have hnl : n < l.length := (List.getElem?_eq_some_iff.1 hx).1
  have hsg : sign l who mark h = (l.set n (x.1, x.2.1, (x.2.2 && h)), 0) := by
    injection hk with k1 k2
    unfold sign
    rw [if_neg (by omega), if_neg (by omega), hn]
    simp [hx, k1, k2]
  obtain ⟨g, c, rfl, hge, hgl, hc, hcell⟩ := own3_cells hT.own (by omega)
  have hfin : ∀ w1, Below w.heap.size w w1 → SignEnd w mb (.slice (some ⟨g, 0, none⟩) l.length c) l who mark h (.returned (.int .i64 0)) (w1.setCell ⟨g, n * 3 + 2, none⟩ (.bool (x.2.2 && h))) := fun w1 hb => by
    have hT1 := hT.below hb
    obtain ⟨o1, o2⟩ := hT1.own.stored (n * 3 + 2) (.bool (x.2.2 && h))
    rw [srows_set l n x _ hx] at o1
    have hneq : ∀ k, k < mb + 2 → some k ≠ some g := by intro k hk e; injection e with e; omega
    have s1 : (sign l who mark h).1 = l.set n (x.1, x.2.1, (x.2.2 && h)) := by rw [hsg]
    have s2 : (sign l who mark h).2 = 0 := by rw [hsg]
    refine ⟨by rw [s2]; rfl, .slice (some ⟨g, 0, none⟩) l.length c, ?_, (Kept.of_below hb).grown o2 ?_, .inl rfl⟩
    · rw [s1]
      refine ⟨hT1.blk.keep (o2.block _ hT1.blk.lt (hneq _ (by omega))), ?_, by rw [List.length_set]; exact o1⟩
      rw [smap_set l n 0 x _ hx]
      exact hT1.map.kept (o2.block _ hT1.map.lt (hneq _ (by omega)))
    · intro k e _
      injection e with e
      subst e
      exact .inr (.inr rfl)
  have H := Lib.hid hfin
  clear hfin hsg
  obtain ⟨q0, q1, q2⟩ := hcell n x hx
  have hfr : w.frozen? ⟨g, n * 3 + 2, none⟩ = false := hT.own.frozenAt _
  have hlt := hT.blk.lt
  have hc0 : w.cell? ⟨mb + 1, 0, none⟩ = some (.map (some mb)) := hT.blk.cell 0
  have hc1 : w.cell? ⟨mb + 1, 1, none⟩ = some (.slice (some ⟨g, 0, none⟩) l.length c) := hT.blk.cell 1
  have HM := Lib.hid hT.map
  generalize SignEnd w mb (.slice (some ⟨g, 0, none⟩) l.length c) l who mark h = P at H ⊢
  clear hT hcell hk hm
  have e0 : who.isEmpty = false := by cases who with | nil => simp at h1 | cons a b => rfl
  have e6 : ((6 : Int) < who.length) = False := by simp; omega
  have e32 : ((mark.length : Int) = 32) = True := by simp; omega
  have hn1 : 0 ≤ (n : Int) := by omega
  have hn2 : (n : Int).toNat = n := by omega
  have hn3 : (n : Int) < l.length := by omega
  generalize x.2.2 = hb2 at *
  cases hb2
  all_goals go_enter Try.func12, Try.ntmps12
  all_goals go_wp2
  all_goals go_region_with (go_at_call 17; refine (orc_key who mark _).mono ?_; rintro e w1 ⟨rfl, hb⟩; try simp only [World.size_drew, World.size_alloc] at hb; have hbw : Below w.heap.size w w1 := (by first | exact hb | exact hb.start); have hlk := tab_lookup (map_keep HM hbw) who mark; rw [hn] at hlk; have hc0' := hbw.cell (p := ⟨mb + 1, 0, none⟩) hlt; rw [hc0] at hc0'; have hc1' := hbw.cell (p := ⟨mb + 1, 1, none⟩) hlt; rw [hc1] at hc1'; have q2' := hbw.cell (p := ⟨g, n * 3 + 2, none⟩) hgl; rw [q2] at q2'; have hfr' := hbw.frozen (p := ⟨g, n * 3 + 2, none⟩) hgl; rw [hfr] at hfr'; clear hb)
  all_goals go_wp2
  all_goals go_region
  all_goals go_wp2
  all_goals first | exact H.out _ hbw | exact H.out _ hbw.drew
end Go.Proofs.Ytojpijpajdiiiaa
