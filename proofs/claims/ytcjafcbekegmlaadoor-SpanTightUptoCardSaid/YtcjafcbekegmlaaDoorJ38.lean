import Derived.Test.YtcjafcbekegmlaaDoorJ23
import Derived.Test.YtcjafcbekegmlaaDoorJ22
set_option linter.unusedSimpArgs false
set_option linter.unusedVariables false
namespace Go.Proofs.YtcjafcbekegmlaaDoor
set_option linter.unusedVariables false
open Go.RowKit Go.Instr
namespace Trie
end Trie
theorem told_700m {t : Trie.T} (h : Trie.Good t) (may : List UInt8 → Bool) : ∀ x ∈ toldW may t, x.length ≤ 700 := by
  have key : ∀ (t : Trie.T) (pl : List UInt8), Trie.At pl t → ∀ x ∈ Trie.goT may t pl, (Trie.textT x.2).length ≤ 700 := by
    have one : ∀ (t : Trie.T) (pl : List UInt8), Trie.At pl t → t ≠ .nil → (Trie.textT t).length ≤ 700 := fun t pl ha hn => nodeText_len (Trie.sumsT_length t) (Trie.fineT hn ha.wf ha.small)
    intro t
    induction t with
    | nil => intro pl _ x hx; cases hx
    | leaf p v =>
      intro pl ha x hx
      simp only [Trie.goT] at hx
      split at hx
      · rw [List.mem_singleton] at hx
        subst hx
        exact one _ _ ha (by simp)
      · cases hx
    | ext p t ih =>
      intro pl ha x hx
      simp only [Trie.goT] at hx
      split at hx
      · rcases List.mem_cons.1 hx with rfl | hx
        · exact one _ _ ha (by simp)
        · exact ih _ ha.below x hx
      · cases hx
    | branch v kids ih =>
      intro pl ha x hx
      simp only [Trie.goT] at hx
      split at hx
      · rcases List.mem_cons.1 hx with rfl | hx
        · exact one _ _ ha (by simp)
        · obtain ⟨i, _, hx⟩ := List.mem_flatMap.1 hx
          exact ih i _ (ha.kid i) x hx
      · cases hx
  intro x hx
  unfold toldW textsD at hx
  obtain ⟨y, hy, rfl⟩ := List.mem_map.1 hx
  exact key t [] (Trie.At.top h) y hy
end Go.Proofs.YtcjafcbekegmlaaDoor
