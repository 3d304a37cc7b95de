/- Layer 6's laws: OraclePlays, what holds in its loop. No conditions. -/
import Derived.Test.YtojpijpajdiiiaaOrcPl6
import Derived.Test.YtojpijpajdiiiaaOrcFork3
namespace Go.Proofs.Ytojpijpajdiiiaa
set_option linter.unusedVariables false
open Go.RowKit Go.Instr

structure Pl (w wr : World) (mb : Nat) (v va : Value) (l M : List Sg) : Prop where
  tab : Tab wr mb v l
  own : wr.ownsRow w.heap.size 37 3 va M.length (srows M)
  apart : ∀ k, TabX mb v k → va.ownBlock ≠ some k
  ge : w.heap.size ≤ mb
  below : Below w.heap.size w wr

section
variable {w wr w' : World} {mb : Nat} {v v' va va' : Value} {l l' M M' : List Sg}
theorem Pl.kept {X : Nat → Prop} (h : Pl w wr mb v va l M) (hk : Kept X wr w') (h1 : ∀ k, TabX mb v k → ¬ X k) (h2 : ∀ k, va.ownBlock = some k → ¬ X k) (h3 : ∀ k, X k → w.heap.size ≤ k) : Pl w w' mb v va l M where
  tab := h.tab.kept hk h1
  own := own_keep h.own fun k e => hk.block k (h.own.lt k e).2 (h2 k e)
  apart := h.apart
  ge := h.ge
  below := h.below.trans (hk.below h.below.size h3)
theorem Pl.next (h : Pl w wr mb v va l M) (hb : Below wr.heap.size wr w') : Pl w w' mb v va l M :=
  h.kept (X := fun _ => False) (Kept.of_below hb) (fun _ _ => id) (fun _ _ => id) (fun _ => False.elim)
theorem Pl.signed (h : Pl w wr mb v va l M) (hk : Kept (TabX mb v) wr w') (hT : Tab w' mb v' l') (ho : v'.ownBlock = v.ownBlock ∨ ∃ g, v'.ownBlock = some g ∧ wr.heap.size ≤ g) : Pl w w' mb v' va l' M where
  tab := hT
  own := own_keep h.own fun k e => hk.block k (h.own.lt k e).2 (fun hx => h.apart k hx e)
  apart := by
    rintro k (rfl | rfl | hx) e
    · exact h.apart _ (.inl rfl) e
    · exact h.apart _ (.inr (.inl rfl)) e
    · rcases ho with ho | ⟨g, ho, hg⟩
      · exact h.apart k (.inr (.inr (by rw [← ho]; exact hx))) e
      · rw [ho] at hx
        injection hx with hx
        subst hx
        have := (h.own.lt g e).2
        omega
  ge := h.ge
  below := h.below.trans (hk.below h.below.size (fun k hx => Nat.le_trans h.ge (TabX.ge h.tab k hx)))
theorem Pl.listed (h : Pl w wr mb v va l M) (hb : Below wr.heap.size wr w') (hown : w'.ownsRow w.heap.size 37 3 va' M'.length (srows M')) (ho : va' = va ∨ ∀ k, va'.ownBlock = some k → wr.heap.size ≤ k) : Pl w w' mb v va' l M' where
  tab := h.tab.below hb
  own := hown
  apart := by
    intro k hx e
    rcases ho with ho | ho
    · subst ho
      exact h.apart k hx e
    · have h1 := ho k e
      have h2 := TabX.lt h.tab k hx
      omega
  ge := h.ge
  below := h.below.trans (hb.mono h.below.size)
theorem Pl.forked {vf : Value} (h : Pl w wr mb v va l M) (hb : Below wr.heap.size wr w') (hT : Tab w' wr.heap.size vf l) : Pl w w' wr.heap.size vf va l M where
  tab := hT
  own := own_below h.own hb
  apart := by
    intro k hx e
    have h1 := TabX.ge hT k hx
    have h2 := (h.own.lt k e).2
    omega
  ge := h.below.size
  below := h.below.trans (hb.mono h.below.size)
/-- what is signed in the table that was forked changes neither the fork nor the list -/
theorem Pl.other {X : Nat → Prop} {mf B : Nat} {vf : Value} (h : Pl w wr mf vf va l M) (hk : Kept X wr w') (hlt : ∀ k, TabX mf vf k → k < B) (hva : ∀ k, va.ownBlock = some k → k < B) (hB : w.heap.size ≤ B) (h1 : ∀ k, X k → (k < mf ∧ w.heap.size ≤ k ∧ va.ownBlock ≠ some k) ∨ B ≤ k) : Pl w w' mf vf va l M :=
  h.kept hk (fun k hx hX => by
      have h2 := TabX.ge h.tab k hx
      have h3 := hlt k hx
      rcases h1 k hX with ⟨h1, _⟩ | h1 <;> omega)
    (fun k e hX => by
      rcases h1 k hX with ⟨_, _, h1⟩ | h1
      · exact h1 e
      · have := hva k e
        omega)
    (fun k hX => by
      rcases h1 k hX with ⟨_, h1, _⟩ | h1
      · exact h1
      · exact Nat.le_trans hB h1)
end
end Go.Proofs.Ytojpijpajdiiiaa
