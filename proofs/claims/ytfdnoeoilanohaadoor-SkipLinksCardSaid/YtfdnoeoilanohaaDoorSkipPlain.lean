/- Plain functions for layer 18 (skip): what the walks compute, in Lean, with no program in sight. No conditions. -/
import Derived.Lib.Hide
namespace Go.Proofs.YtfdnoeoilanohaaDoor
namespace Skip

/-- the loop of 'next': 'step' is doubled as long as it divides and stays above the end. -/
def nxt : Nat → Nat → Nat → Nat → Nat → Nat
  | 0, _, _, _, at_ => at_
  | f + 1, h, low, step, at_ => if h % step = 0 ∧ step ≤ h - low then nxt f h low (step * 2) (h - step) else at_
def next (h low : Nat) : Nat := nxt 22 h low 2 (h - 1)

theorem nxt_lt (f : Nat) : ∀ (h low step at_ : Nat), 0 < step → low < h → low ≤ at_ → at_ < h → low ≤ nxt f h low step at_ ∧ nxt f h low step at_ < h := by
  induction f with
  | zero => intro h low step at_ _ _ h1 h2; exact ⟨h1, h2⟩
  | succ f ih =>
    intro h low step at_ hs hl h1 h2
    unfold nxt
    split
    · rename_i hc; exact ih h low (step * 2) (h - step) (by omega) hl (by omega) (by omega)
    · exact ⟨h1, h2⟩
theorem next_lt (h low : Nat) (hl : low < h) : low ≤ next h low ∧ next h low < h := nxt_lt _ _ _ _ _ (by omega) hl (by omega) (by omega)

theorem nxt_yes {f h low step at_ : Nat} (h1 : h % step = 0) (h2 : step ≤ h - low) : nxt (f + 1) h low step at_ = nxt f h low (step * 2) (h - step) := by
  rw [nxt, if_pos ⟨h1, h2⟩]
theorem nxt_no {f h low step at_ : Nat} (h1 : ¬ (h % step = 0 ∧ step ≤ h - low)) : nxt (f + 1) h low step at_ = at_ := by
  rw [nxt, if_neg h1]
theorem two_pos (k : Nat) : 0 < 2 ^ k := Nat.two_pow_pos k
theorem pow_le {k : Nat} (h : 2 ^ k ≤ 1048576) : k ≤ 20 := by
  rcases Nat.lt_or_ge 20 k with h1 | h1
  · have := Nat.pow_le_pow_right (n := 2) (by omega) h1
    simp at this; omega
  · exact h1
def routeF : Nat → Nat → Nat → List Nat
  | 0, _, _ => []
  | f + 1, h, low => if low < h then next h low :: routeF f (next h low) low else []
def route (h low : Nat) : List Nat := routeF h h low
theorem routeF_yes {f h low : Nat} (hl : low < h) : routeF (f + 1) h low = next h low :: routeF f (next h low) low := by
  rw [routeF, if_pos hl]
theorem routeF_no {f h low : Nat} (hl : ¬ low < h) : routeF f h low = [] := by
  cases f with
  | zero => rfl
  | succ f => rw [routeF, if_neg hl]

def linksF : Nat → Nat → Nat → List Nat
  | 0, _, _ => []
  | f + 1, h, step => if h % step = 0 then (h - step) :: linksF f h (step * 2) else []
def links (h : Nat) : List Nat := linksF 22 h 2
theorem linksF_yes {f h step : Nat} (hl : h % step = 0) : linksF (f + 1) h step = (h - step) :: linksF f h (step * 2) := by
  rw [linksF, if_pos hl]
theorem linksF_no {f h step : Nat} (hl : ¬ h % step = 0) : linksF (f + 1) h step = [] := by
  rw [linksF, if_neg hl]
theorem nxt_link (f : Nat) : ∀ (h low step at_ : Nat), nxt f h low step at_ = at_ ∨ nxt f h low step at_ ∈ linksF f h step := by
  induction f with
  | zero => intro h low step at_; exact .inl rfl
  | succ f ih =>
    intro h low step at_
    by_cases hc : h % step = 0 ∧ step ≤ h - low
    · rw [nxt_yes hc.1 hc.2, linksF_yes hc.1]
      rcases ih h low (step * 2) (h - step) with e | e
      · rw [e]; simp
      · exact .inr (List.mem_cons_of_mem _ e)
    · exact .inl (nxt_no hc)
theorem next_link (h low : Nat) : next h low = h - 1 ∨ next h low ∈ links h := nxt_link 22 h low 2 (h - 1)

/-- what a route's rest says of its head -/
theorem route_rest {f h low : Nat} {x : Nat} {r : List Nat} (hl : routeF f h low = x :: r) : low < h ∧ x = next h low ∧ ∃ g, routeF g x low = r ∧ (h ≤ f → x ≤ g) := by
  cases f with
  | zero => simp [routeF] at hl
  | succ f =>
    by_cases hc : low < h
    · rw [routeF_yes hc] at hl
      injection hl with h1 h2
      subst h1
      exact ⟨hc, rfl, f, h2, fun _ => by have := next_lt h low hc; omega⟩
    · rw [routeF_no hc] at hl; cases hl
theorem route_nil {f h low : Nat} (hf : h ≤ f) (hl : routeF f h low = []) : h ≤ low := by
  rcases Nat.lt_or_ge low h with hc | hc
  · obtain ⟨g, rfl⟩ : ∃ g, f = g + 1 := ⟨f - 1, by omega⟩
    rw [routeF_yes hc] at hl; cases hl
  · exact hc
theorem routeF_len (f : Nat) : ∀ (h low : Nat), (routeF f h low).length ≤ h := by
  induction f with
  | zero => intro h low; simp [routeF]
  | succ f ih =>
    intro h low
    by_cases hc : low < h
    · rw [routeF_yes hc]
      have := ih (next h low) low
      have := next_lt h low hc
      simp; omega
    · rw [routeF_no hc]; simp
theorem linksF_len (f : Nat) : ∀ (h step : Nat), (linksF f h step).length ≤ f := by
  induction f with
  | zero => intro h step; simp [linksF]
  | succ f ih =>
    intro h step
    unfold linksF
    split
    · have := ih h (step * 2); simp; omega
    · simp
theorem routeF_fuel (f : Nat) : ∀ (g h low : Nat), h ≤ f → h ≤ g → routeF f h low = routeF g h low := by
  induction f with
  | zero =>
    intro g h low h1 h2
    rw [routeF_no (by omega), routeF_no (by omega)]
  | succ f ih =>
    intro g h low h1 h2
    by_cases hl : low < h
    · obtain ⟨g', rfl⟩ : ∃ g', g = g' + 1 := ⟨g - 1, by omega⟩
      have hn := next_lt h low hl
      rw [routeF_yes hl, routeF_yes hl, ih g' (next h low) low (by omega) (by omega)]
    · rw [routeF_no hl, routeF_no hl]
theorem route_cons {h low : Nat} (hl : low < h) : route h low = next h low :: route (next h low) low := by
  unfold route
  obtain ⟨g, rfl⟩ : ∃ g, h = g + 1 := ⟨h - 1, by omega⟩
  rw [routeF_yes hl]
  have hn := next_lt (g + 1) low hl
  rw [routeF_fuel g _ _ _ (by omega) (Nat.le_refl _)]
theorem route_self {h low : Nat} (hl : ¬ low < h) : route h low = [] := routeF_no hl

theorem nxt_spec (f : Nat) : ∀ (k h low : Nat), low < h → 2 ^ k ∣ h → 2 ^ k ≤ h - low → h < 2 ^ (k + 1 + f) →
    ∃ j, k ≤ j ∧ nxt f h low (2 ^ (k + 1)) (h - 2 ^ k) = h - 2 ^ j ∧ 2 ^ j ∣ h ∧ 2 ^ j ≤ h - low ∧ (2 ^ (j + 1) ∣ h → h - low < 2 ^ (j + 1)) := by
  induction f with
  | zero =>
    intro k h low hl h1 h2 h3
    exact ⟨k, Nat.le_refl _, rfl, h1, h2, fun _ => by simp at h3; omega⟩
  | succ f ih =>
    intro k h low hl h1 h2 h3
    by_cases hc : h % 2 ^ (k + 1) = 0 ∧ 2 ^ (k + 1) ≤ h - low
    · rw [nxt_yes hc.1 hc.2]
      obtain ⟨j, g1, g2, g3⟩ := ih (k + 1) h low hl (Nat.dvd_of_mod_eq_zero hc.1) hc.2 (by rw [show k + 1 + 1 + f = k + 1 + (f + 1) from by omega]; exact h3)
      exact ⟨j, by omega, by rw [← g2, show 2 ^ (k + 1) * 2 = 2 ^ (k + 1 + 1) from rfl], g3⟩
    · refine ⟨k, Nat.le_refl _, nxt_no hc, h1, h2, fun hd => ?_⟩
      rcases Nat.lt_or_ge (h - low) (2 ^ (k + 1)) with g | g
      · exact g
      · exact absurd ⟨Nat.mod_eq_zero_of_dvd hd, g⟩ hc
/-- the longest step: the greatest power of two that divides and does not go below the end -/
theorem next_spec (h low : Nat) (hl : low < h) (hh : h ≤ 1048576) :
    ∃ j, next h low = h - 2 ^ j ∧ 2 ^ j ∣ h ∧ 2 ^ j ≤ h - low ∧ (2 ^ (j + 1) ∣ h → h - low < 2 ^ (j + 1)) := by
  obtain ⟨j, _, h2, h3⟩ := nxt_spec 22 0 h low hl (by simp) (by simp; omega) (by rw [show (2 : Nat) ^ (0 + 1 + 22) = 8388608 from by decide]; omega)
  exact ⟨j, h2, h3⟩
theorem pow_dvd_mono {a b h : Nat} (hab : a ≤ b) (h1 : 2 ^ b ∣ h) : 2 ^ a ∣ h := Nat.dvd_trans (Nat.pow_dvd_pow 2 hab) h1
theorem lt_of_two_pow {a b : Nat} (h : 2 ^ a < 2 ^ b) : a < b := (Nat.pow_lt_pow_iff_right (by omega)).1 h
theorem le_of_two_pow {a b : Nat} (h : 2 ^ a ≤ 2 ^ b) : a ≤ b := (Nat.pow_le_pow_iff_right (by omega)).1 h

/-- where the height is a multiple of a power of two above the distance: a step a binary digit -/
theorem route_fall (k : Nat) : ∀ (h low : Nat), low ≤ h → h ≤ 1048576 → 2 ^ k ∣ h → h - low < 2 ^ k → (route h low).length ≤ k := by
  induction k with
  | zero =>
    intro h low hl hh _ hd
    rw [route_self (by simp at hd; omega)]; simp
  | succ k ih =>
    intro h low hl hh hv hd
    rcases Nat.lt_or_ge (h - low) (2 ^ k) with g | g
    · exact Nat.le_succ_of_le (ih h low hl hh (pow_dvd_mono (by omega) hv) g)
    · have hp := two_pos k
      have hlt : low < h := by omega
      obtain ⟨j, h1, h2, h3, h4⟩ := next_spec h low hlt hh
      have hj : j = k := by
        have a1 : j < k + 1 := lt_of_two_pow (Nat.lt_of_le_of_lt h3 hd)
        rcases Nat.lt_or_ge j k with a2 | a2
        · have := h4 (pow_dvd_mono (by omega) hv)
          have := Nat.pow_le_pow_right (n := 2) (by omega) (show j + 1 ≤ k from a2)
          omega
        · omega
      subst hj
      rw [route_cons hlt, h1, List.length_cons]
      have hle : 2 ^ j ≤ h := Nat.le_trans h3 (Nat.sub_le _ _)
      have e : 2 ^ (j + 1) = 2 ^ j + 2 ^ j := by rw [Nat.pow_succ]; omega
      have := ih (h - 2 ^ j) low (by omega) (by omega) (Nat.dvd_sub h2 (Nat.dvd_refl _)) (by omega)
      omega
/-- few steps -/
theorem route_rise (n : Nat) : ∀ (m b h low : Nat), m + n = b → low ≤ h → h ≤ 1048576 → 2 ^ m ∣ h → h - low < 2 ^ b → (route h low).length ≤ n + b := by
  induction n with
  | zero =>
    intro m b h low hb hl hh hv hd
    have : m = b := by omega
    subst this
    have := route_fall m h low hl hh hv hd
    omega
  | succ n ih =>
    intro m b h low hb hl hh hv hd
    by_cases hlt : low < h
    · rcases Nat.lt_or_ge (h - low) (2 ^ m) with g | g
      · have := route_fall m h low hl hh hv g
        omega
      · obtain ⟨j, h1, h2, h3, h4⟩ := next_spec h low hlt hh
        have hjb : j < b := lt_of_two_pow (Nat.lt_of_le_of_lt h3 hd)
        have hle : 2 ^ j ≤ h := Nat.le_trans h3 (Nat.sub_le _ _)
        have e : 2 ^ (j + 1) = 2 ^ j + 2 ^ j := by rw [Nat.pow_succ]; omega
        rw [route_cons hlt, h1, List.length_cons]
        by_cases hdv : 2 ^ (j + 1) ∣ h
        · have h5 := h4 hdv
          have := route_fall j (h - 2 ^ j) low (by omega) (by omega) (Nat.dvd_sub h2 (Nat.dvd_refl _)) (by omega)
          omega
        · have hmj : m ≤ j := by
            rcases Nat.lt_or_ge j m with a | a
            · exact absurd (pow_dvd_mono (show j + 1 ≤ m from a) hv) hdv
            · exact a
          have hdv2 : 2 ^ (j + 1) ∣ h - 2 ^ j := by
            obtain ⟨c, rfl⟩ := h2
            have hodd : c % 2 = 1 := by
              rcases Nat.mod_two_eq_zero_or_one c with q | q
              · exact absurd (by obtain ⟨d, rfl⟩ := Nat.dvd_of_mod_eq_zero q; exact ⟨d, by rw [Nat.pow_succ]; simp [Nat.mul_assoc]⟩) hdv
              · exact q
            refine ⟨c / 2, ?_⟩
            have e1 : c = 2 * (c / 2) + 1 := by omega
            have e2 : 2 ^ j * c = 2 ^ (j + 1) * (c / 2) + 2 ^ j := by
              calc 2 ^ j * c = 2 ^ j * (2 * (c / 2) + 1) := by rw [← e1]
                _ = 2 ^ (j + 1) * (c / 2) + 2 ^ j := by rw [Nat.mul_add, Nat.pow_succ, Nat.mul_one, Nat.mul_assoc]
            omega
          have := ih (b - n) b (h - 2 ^ j) low (by omega) (by omega) (by omega) (pow_dvd_mono (by omega) hdv2) (by omega)
          omega
    · rw [route_self hlt]; simp
theorem route_short (h low b : Nat) (hl : low ≤ h) (hh : h ≤ 1048576) (hd : h - low < 2 ^ b) : (route h low).length ≤ 2 * b := by
  have := route_rise b 0 b h low (by omega) hl hh (by simp) hd
  omega
theorem route_40 (h low : Nat) (hl : low ≤ h) (hh : h ≤ 1048576) : (route h low).length ≤ 42 :=
  route_short h low 21 hl hh (by rw [show (2 : Nat) ^ 21 = 2097152 from by decide]; omega)

/-- the links, by all powers of two -/
def refL : Nat → Nat → Nat → List Nat
  | 0, _, _ => []
  | n + 1, h, k => if h % 2 ^ k = 0 then (h - 2 ^ k) :: refL n h (k + 1) else refL n h (k + 1)
theorem refL_none (n : Nat) : ∀ (h k : Nat), ¬ h % 2 ^ k = 0 → refL n h k = [] := by
  induction n with
  | zero => intro h k _; rfl
  | succ n ih =>
    intro h k hk
    rw [refL, if_neg hk]
    exact ih h (k + 1) fun e => hk (Nat.mod_eq_zero_of_dvd (pow_dvd_mono (by omega) (Nat.dvd_of_mod_eq_zero e)))
theorem refL_links (n : Nat) : ∀ (f h k : Nat), n < f → 1 ≤ h → h < 2 ^ (k + n) → refL n h k = linksF f h (2 ^ k) := by
  induction n with
  | zero =>
    intro f h k hf h1 h2
    obtain ⟨g, rfl⟩ : ∃ g, f = g + 1 := ⟨f - 1, by omega⟩
    rw [linksF_no (by rw [Nat.mod_eq_of_lt (by simpa using h2)]; omega)]; rfl
  | succ n ih =>
    intro f h k hf h1 h2
    obtain ⟨g, rfl⟩ : ∃ g, f = g + 1 := ⟨f - 1, by omega⟩
    by_cases hc : h % 2 ^ k = 0
    · rw [refL, if_pos hc, linksF_yes hc, ih g h (k + 1) (by omega) h1 (by rw [show k + 1 + n = k + (n + 1) from by omega]; exact h2)]; rfl
    · rw [refL_none _ _ _ hc, linksF_no hc]
theorem refL_all (h : Nat) (h1 : 1 ≤ h) (h2 : h ≤ 1048576) : refL 20 h 1 = links h :=
  refL_links 20 22 h 1 (by omega) h1 (by rw [show (2 : Nat) ^ (1 + 20) = 2097152 from by decide]; omega)
/-- the longest step, sought among the links -/
def pickF (low : Nat) : List Nat → Nat → Nat
  | [], at_ => at_
  | x :: l, at_ => pickF low l (if low ≤ x ∧ x < at_ then x else at_)
theorem pickF_low (low : Nat) (l : List Nat) : ∀ at_, (∀ x ∈ l, x < low) → pickF low l at_ = at_ := by
  induction l with
  | nil => intro at_ _; rfl
  | cons x l ih =>
    intro at_ h
    have hx := h x (by simp)
    rw [pickF, if_neg (by omega)]
    exact ih at_ fun y hy => h y (by simp [hy])
theorem linksF_below (f : Nat) : ∀ (h step low : Nat), h - low < step → low < h → ∀ x ∈ linksF f h step, x < low ∨ h < step := by
  induction f with
  | zero => intro h step low _ _ x hx; simp [linksF] at hx
  | succ f ih =>
    intro h step low h1 h2 x hx
    by_cases hc : h % step = 0
    · rw [linksF_yes hc] at hx
      rcases List.mem_cons.1 hx with e | e
      · subst e; omega
      · rcases ih h (step * 2) low (by omega) h2 x e with q | q
        · exact .inl q
        · rcases Nat.lt_or_ge h step with q2 | q2
          · exact .inr q2
          · left
            have hx2 : x ≤ h - step * 2 := by
              have : ∀ (f : Nat) (st : Nat), 0 < st → ∀ y ∈ linksF f h st, y ≤ h - st := by
                intro f
                induction f with
                | zero => intro st _ y hy; simp [linksF] at hy
                | succ f ih2 =>
                  intro st hst y hy
                  by_cases hc2 : h % st = 0
                  · rw [linksF_yes hc2] at hy
                    rcases List.mem_cons.1 hy with e2 | e2
                    · omega
                    · have := ih2 (st * 2) (by omega) y e2; omega
                  · rw [linksF_no hc2] at hy; simp at hy
              exact this f (step * 2) (by omega) x e
            omega
    · rw [linksF_no hc] at hx; simp at hx
theorem pick_nxt (f : Nat) : ∀ (h low step at_ : Nat), 2 ≤ step → low < h → h ≤ 1048576 → (step ≤ h → h - step < at_) → low ≤ at_ → (h % step = 0 → step ≤ h) →
    pickF low (linksF f h step) at_ = nxt f h low step at_ := by
  induction f with
  | zero => intro h low step at_ _ _ _ _ _ _; rfl
  | succ f ih =>
    intro h low step at_ h1 h2 h3 h4 h5 h6
    by_cases hc : h % step = 0
    · have hle := h6 hc
      rw [linksF_yes hc]
      by_cases hd : step ≤ h - low
      · rw [nxt_yes hc hd, pickF, if_pos ⟨by omega, h4 hle⟩]
        exact ih h low (step * 2) (h - step) (by omega) h2 h3 (by omega) (by omega) (fun q => Nat.le_of_dvd (by omega) (Nat.dvd_of_mod_eq_zero q))
      · rw [nxt_no (fun q => hd q.2), pickF, if_neg (by omega)]
        refine pickF_low low _ _ fun x hx => ?_
        rcases linksF_below f h (step * 2) low (by omega) h2 x hx with q | q
        · exact q
        · cases f with
          | zero => simp [linksF] at hx
          | succ f => rw [linksF_no (by rw [Nat.mod_eq_of_lt q]; omega)] at hx; simp at hx
    · rw [linksF_no hc, nxt_no (fun q => hc q.1)]; rfl
theorem pick_next (h low : Nat) (hl : low < h) (hh : h ≤ 1048576) : pickF low (links h) (h - 1) = next h low :=
  pick_nxt 22 h low 2 (h - 1) (by omega) hl hh (by omega) (by omega) (fun q => Nat.le_of_dvd (by omega) (Nat.dvd_of_mod_eq_zero q))
theorem route_drop (k : Nat) : ∀ (h low : Nat), low ≤ h → (hk : k < (route h low).length) → low ≤ (route h low)[k] ∧ (route h low)[k] ≤ h ∧ route (route h low)[k] low = (route h low).drop (k + 1) := by
  induction k with
  | zero =>
    intro h low hl hk
    by_cases hlt : low < h
    · have hn := next_lt h low hlt
      simp only [route_cons hlt, List.getElem_cons_zero, List.drop_succ_cons, List.drop_zero]
      exact ⟨by omega, by omega, trivial⟩
    · simp [route_self hlt] at hk
  | succ k ih =>
    intro h low hl hk
    by_cases hlt : low < h
    · have hn := next_lt h low hlt
      simp only [route_cons hlt, List.getElem_cons_succ, List.drop_succ_cons] at hk ⊢
      have := ih (next h low) low (by omega) (by simpa using hk)
      exact ⟨this.1, by omega, this.2.2⟩
    · simp [route_self hlt] at hk
theorem linksF_get (f : Nat) : ∀ (k h i : Nat), (hi : i < (linksF f h (2 ^ k)).length) → 2 ^ (k + i) ∣ h ∧ (linksF f h (2 ^ k))[i] = h - 2 ^ (k + i) := by
  induction f with
  | zero => intro k h i hi; simp [linksF] at hi
  | succ f ih =>
    intro k h i hi
    by_cases hc : h % 2 ^ k = 0
    · have e : linksF (f + 1) h (2 ^ k) = (h - 2 ^ k) :: linksF f h (2 ^ (k + 1)) := by rw [linksF_yes hc, Nat.pow_succ]
      simp only [e] at hi ⊢
      cases i with
      | zero => exact ⟨Nat.dvd_of_mod_eq_zero hc, rfl⟩
      | succ i =>
        have := ih (k + 1) h i (by simpa using hi)
        rw [show k + (i + 1) = k + 1 + i from by omega]
        exact ⟨this.1, by simpa using this.2⟩
    · simp only [linksF_no hc] at hi; simp at hi
theorem linksF_length (n : Nat) : ∀ (f k h : Nat), n < f → (∀ j, j < n → 2 ^ (k + j) ∣ h) → ¬ 2 ^ (k + n) ∣ h → (linksF f h (2 ^ k)).length = n := by
  induction n with
  | zero =>
    intro f k h hf _ hn
    obtain ⟨g, rfl⟩ : ∃ g, f = g + 1 := ⟨f - 1, by omega⟩
    have hn' : ¬ 2 ^ k ∣ h := by simpa using hn
    rw [linksF_no (fun e => hn' (Nat.dvd_of_mod_eq_zero e))]; rfl
  | succ n ih =>
    intro f k h hf h1 hn
    obtain ⟨g, rfl⟩ : ∃ g, f = g + 1 := ⟨f - 1, by omega⟩
    have h0 := h1 0 (by omega)
    rw [linksF_yes (Nat.mod_eq_zero_of_dvd (by simpa using h0)), List.length_cons, ← Nat.pow_succ,
      ih g (k + 1) h (by omega) (fun j hj => by rw [show k + 1 + j = k + (j + 1) from by omega]; exact h1 (j + 1) (by omega)) (by rw [show k + 1 + n = k + (n + 1) from by omega]; exact hn)]
theorem links_get (h i : Nat) (hi : i < (links h).length) : 2 ^ (i + 1) ∣ h ∧ (links h)[i] = h - 2 ^ (i + 1) := by
  have := linksF_get 22 1 h i hi
  rw [show 1 + i = i + 1 from by omega] at this
  exact this
theorem val_exists (n : Nat) : ∀ h, 1 ≤ h → h < 2 ^ n → ∃ v c, h = c * 2 ^ v ∧ c % 2 = 1 ∧ v < n := by
  induction n with
  | zero => intro h h1 h2; simp at h2; omega
  | succ n ih =>
    intro h h1 h2
    rcases Nat.mod_two_eq_zero_or_one h with q | q
    · obtain ⟨v, c, e, hc, hv⟩ := ih (h / 2) (by omega) (by rw [Nat.pow_succ] at h2; omega)
      exact ⟨v + 1, c, by rw [Nat.pow_succ, ← Nat.mul_assoc, ← e]; omega, hc, by omega⟩
    · exact ⟨0, h, by simp, q, by omega⟩
theorem links_length (h v c : Nat) (he : h = c * 2 ^ v) (hc : c % 2 = 1) (hv : v < 21) : (links h).length = v := by
  refine linksF_length v 22 1 h (by omega) (fun j hj => ?_) ?_
  · rw [he]
    exact Nat.dvd_trans (Nat.pow_dvd_pow 2 (by omega)) (Nat.dvd_mul_left _ _)
  · rw [he, show 1 + v = v + 1 from by omega, Nat.pow_succ, Nat.mul_comm c]
    intro hd
    have := Nat.dvd_of_mul_dvd_mul_left (Nat.two_pow_pos v) hd
    omega
theorem low_bit (N v c : Nat) (hc : c % 2 = 1) (hlt : c * 2 ^ v < 2 ^ N) : (c * 2 ^ v) &&& (2 ^ N - c * 2 ^ v) = 2 ^ v := by
  have hp := Nat.two_pow_pos v
  have hc0 : 0 < c := by omega
  have hx : 0 < c * 2 ^ v := Nat.mul_pos hc0 hp
  have e1 : 2 ^ N - c * 2 ^ v = 2 ^ N - ((c * 2 ^ v - 1) + 1) := by omega
  have e2 : c * 2 ^ v - 1 = 2 ^ v * (c - 1) + (2 ^ v - 1) := by
    obtain ⟨d, rfl⟩ : ∃ d, c = d + 1 := ⟨c - 1, by omega⟩
    rw [Nat.add_mul, Nat.add_sub_cancel, Nat.mul_comm d]
    omega
  have hvN : v < N := by
    refine (Nat.pow_lt_pow_iff_right (a := 2) (by omega)).1 (Nat.lt_of_le_of_lt ?_ hlt)
    exact Nat.le_mul_of_pos_left _ hc0
  apply Nat.eq_of_testBit_eq
  intro i
  rw [Nat.testBit_and, e1, Nat.testBit_two_pow_sub_succ (by omega), e2, Nat.testBit_two_pow_mul_add _ (by omega), Nat.testBit_mul_two_pow, Nat.testBit_two_pow_sub_one, Nat.testBit_two_pow]
  by_cases h1 : i < v
  · simp [h1]; omega
  · by_cases h2 : v = i
    · subst h2
      obtain ⟨d, rfl⟩ : ∃ d, c = 2 * d + 1 := ⟨c / 2, by omega⟩
      simp [hvN]
    · obtain ⟨d, rfl⟩ : ∃ d, c = 2 * d + 1 := ⟨c / 2, by omega⟩
      obtain ⟨j, hj⟩ : ∃ j, i - v = j + 1 := ⟨i - v - 1, by omega⟩
      have d1 : (2 * d + 1) / 2 = d := by omega
      have d2 : (2 * d + 1 - 1) / 2 = d := by omega
      rw [if_neg h1, hj, Nat.testBit_succ, Nat.testBit_succ, d1, d2]
      simp [h2]
      intro _ h _; exact h
end Skip
end Go.Proofs.YtfdnoeoilanohaaDoor
