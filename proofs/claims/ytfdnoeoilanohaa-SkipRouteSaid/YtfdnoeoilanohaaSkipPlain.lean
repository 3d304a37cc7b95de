/- Plain functions for layer 18 (skip): what the walks compute, in Lean, with no program in sight. No conditions. -/
import Derived.Lib.Hide
namespace Go.Proofs.Ytfdnoeoilanohaa
namespace Skip

/-- the loop of 'next': 'step' is doubled as long as it divides and stays above the end. -/
def nxt : Nat → Nat → Nat → Nat → Nat → Nat
  | 0, _, _, _, at_ => at_
  | f + 1, h, low, step, at_ => if h % step = 0 ∧ step ≤ h - low then nxt f h low (step * 2) (h - step) else at_
def next (h low : Nat) : Nat := nxt 22 h low 2 (h - 1)

theorem nxt_lt (f : Nat) : ∀ (h low step at_ : Nat), 0 < step → low < h → low ≤ at_ → at_ < h → low ≤ nxt f h low step at_ ∧ nxt f h low step at_ < h := by
  induction f with
  | zero => intro h low step at_ _ _ h1 h2; exact ⟨h1, h2⟩
  | succ f ih =>
    intro h low step at_ hs hl h1 h2
    unfold nxt
    split
    · rename_i hc; exact ih h low (step * 2) (h - step) (by omega) hl (by omega) (by omega)
    · exact ⟨h1, h2⟩
theorem next_lt (h low : Nat) (hl : low < h) : low ≤ next h low ∧ next h low < h := nxt_lt _ _ _ _ _ (by omega) hl (by omega) (by omega)

theorem nxt_yes {f h low step at_ : Nat} (h1 : h % step = 0) (h2 : step ≤ h - low) : nxt (f + 1) h low step at_ = nxt f h low (step * 2) (h - step) := by
  rw [nxt, if_pos ⟨h1, h2⟩]
theorem nxt_no {f h low step at_ : Nat} (h1 : ¬ (h % step = 0 ∧ step ≤ h - low)) : nxt (f + 1) h low step at_ = at_ := by
  rw [nxt, if_neg h1]
theorem two_pos (k : Nat) : 0 < 2 ^ k := Nat.two_pow_pos k
theorem pow_le {k : Nat} (h : 2 ^ k ≤ 1048576) : k ≤ 20 := by
  rcases Nat.lt_or_ge 20 k with h1 | h1
  · have := Nat.pow_le_pow_right (n := 2) (by omega) h1
    simp at this; omega
  · exact h1
def routeF : Nat → Nat → Nat → List Nat
  | 0, _, _ => []
  | f + 1, h, low => if low < h then next h low :: routeF f (next h low) low else []
def route (h low : Nat) : List Nat := routeF h h low
theorem routeF_yes {f h low : Nat} (hl : low < h) : routeF (f + 1) h low = next h low :: routeF f (next h low) low := by
  rw [routeF, if_pos hl]
theorem routeF_no {f h low : Nat} (hl : ¬ low < h) : routeF f h low = [] := by
  cases f with
  | zero => rfl
  | succ f => rw [routeF, if_neg hl]

def linksF : Nat → Nat → Nat → List Nat
  | 0, _, _ => []
  | f + 1, h, step => if h % step = 0 then (h - step) :: linksF f h (step * 2) else []
def links (h : Nat) : List Nat := linksF 22 h 2
theorem linksF_yes {f h step : Nat} (hl : h % step = 0) : linksF (f + 1) h step = (h - step) :: linksF f h (step * 2) := by
  rw [linksF, if_pos hl]
theorem linksF_no {f h step : Nat} (hl : ¬ h % step = 0) : linksF (f + 1) h step = [] := by
  rw [linksF, if_neg hl]
theorem nxt_link (f : Nat) : ∀ (h low step at_ : Nat), nxt f h low step at_ = at_ ∨ nxt f h low step at_ ∈ linksF f h step := by
  induction f with
  | zero => intro h low step at_; exact .inl rfl
  | succ f ih =>
    intro h low step at_
    by_cases hc : h % step = 0 ∧ step ≤ h - low
    · rw [nxt_yes hc.1 hc.2, linksF_yes hc.1]
      rcases ih h low (step * 2) (h - step) with e | e
      · rw [e]; simp
      · exact .inr (List.mem_cons_of_mem _ e)
    · exact .inl (nxt_no hc)
theorem next_link (h low : Nat) : next h low = h - 1 ∨ next h low ∈ links h := nxt_link 22 h low 2 (h - 1)

/-- what a route's rest says of its head -/
theorem route_rest {f h low : Nat} {x : Nat} {r : List Nat} (hl : routeF f h low = x :: r) : low < h ∧ x = next h low ∧ ∃ g, routeF g x low = r ∧ (h ≤ f → x ≤ g) := by
  cases f with
  | zero => simp [routeF] at hl
  | succ f =>
    by_cases hc : low < h
    · rw [routeF_yes hc] at hl
      injection hl with h1 h2
      subst h1
      exact ⟨hc, rfl, f, h2, fun _ => by have := next_lt h low hc; omega⟩
    · rw [routeF_no hc] at hl; cases hl
theorem route_nil {f h low : Nat} (hf : h ≤ f) (hl : routeF f h low = []) : h ≤ low := by
  rcases Nat.lt_or_ge low h with hc | hc
  · obtain ⟨g, rfl⟩ : ∃ g, f = g + 1 := ⟨f - 1, by omega⟩
    rw [routeF_yes hc] at hl; cases hl
  · exact hc
theorem routeF_len (f : Nat) : ∀ (h low : Nat), (routeF f h low).length ≤ h := by
  induction f with
  | zero => intro h low; simp [routeF]
  | succ f ih =>
    intro h low
    by_cases hc : low < h
    · rw [routeF_yes hc]
      have := ih (next h low) low
      have := next_lt h low hc
      simp; omega
    · rw [routeF_no hc]; simp
theorem linksF_len (f : Nat) : ∀ (h step : Nat), (linksF f h step).length ≤ f := by
  induction f with
  | zero => intro h step; simp [linksF]
  | succ f ih =>
    intro h step
    unfold linksF
    split
    · have := ih h (step * 2); simp; omega
    · simp
end Skip
end Go.Proofs.Ytfdnoeoilanohaa
