/- Layer 6: the table and the document's list say the same, whatever is signed. Without the program. No conditions. -/
import Derived.Test.YtojpijpajdiiiaaOrcPl3
namespace Go.Proofs.Ytojpijpajdiiiaa
set_option linter.unusedVariables false
open Go.RowKit Go.Instr

def SS (l : List Sg) : Prop := l.Pairwise fun x y => lp x y = true
theorem lp_flag (w m : List UInt8) (a b : Bool) (x : Sg) : lp (w, m, a) x = lp (w, m, b) x ∧ lp x (w, m, a) = lp x (w, m, b) := lp_key _ _ _ rfl
theorem lp_ne {x y : Sg} (h : lp x y = true) : ky x ≠ ky y := by
  intro e
  have := (lp_key x y y e).1
  rw [h, lp_irrefl] at this
  cases this
theorem lp_asymm {x y : Sg} (h : lp x y = true) : lp y x = false := by
  cases h2 : lp y x with
  | false => rfl
  | true =>
    have := lp_trans _ _ _ h h2
    rw [lp_irrefl] at this
    cases this
theorem ss_kn {l : List Sg} (h : SS l) : Kn l := List.Pairwise.map ky (fun x y hxy => lp_ne hxy) h
theorem ss_srt {l : List Sg} (h : SS l) : Srt l := fun i j hi hj => lp_asymm (List.pairwise_iff_getElem.1 h i j (by omega) hj hi)
/-- where At stops in a sorted list -/
theorem atD_spec (w m : List UInt8) (b : Bool) : ∀ (M : List Sg), SS M → ∃ X Y, M = X ++ Y ∧ X.length = (atD w m M).1 ∧ (∀ x ∈ X, lp x (w, m, b) = true) ∧ ((atD w m M).2 = true → ∃ y Y', Y = y :: Y' ∧ ky y = (w, m)) ∧ ((atD w m M).2 = false → ∀ y ∈ Y, lp (w, m, b) y = true)
  | [], _ => ⟨[], [], rfl, rfl, by simp, by simp [atD], by simp⟩
  | x :: l, h => by
    obtain ⟨h1, h2⟩ := List.pairwise_cons.1 h
    unfold atD
    by_cases hk : x.1 = w ∧ x.2.1 = m
    · rw [if_pos hk]
      exact ⟨[], x :: l, rfl, rfl, by simp, fun _ => ⟨x, l, rfl, by simp [ky, hk]⟩, by simp⟩
    · rw [if_neg hk]
      by_cases hg : Op.bytesLess w x.1 = true ∨ (x.1 = w ∧ Op.bytesLess m x.2.1 = true)
      · rw [if_pos hg]
        have hl : lp (w, m, b) x = true := by
          simp only [lp, Bool.or_eq_true, Bool.and_eq_true, decide_eq_true_eq]
          rcases hg with hg | ⟨e, hg⟩
          · exact .inl hg
          · exact .inr ⟨e.symm, hg⟩
        refine ⟨[], x :: l, rfl, rfl, by simp, by simp, fun _ y hy => ?_⟩
        rcases List.mem_cons.1 hy with rfl | hy
        · exact hl
        · exact lp_trans _ _ _ hl (h1 y hy)
      · rw [if_neg hg]
        have hl0 : lp (w, m, b) x = false := by
          rw [Bool.eq_false_iff]
          intro hc
          simp only [lp, Bool.or_eq_true, Bool.and_eq_true, decide_eq_true_eq] at hc
          rcases hc with hc | ⟨e, hc⟩
          · exact hg (.inl hc)
          · exact hg (.inr ⟨e.symm, hc⟩)
        have hl : lp x (w, m, b) = true := by
          cases h3 : lp x (w, m, b) with
          | true => rfl
          | false =>
            have := lp_tri _ _ h3 hl0
            injection this with e1 e2
            exact absurd ⟨e1, e2⟩ hk
        obtain ⟨X, Y, e, hX, hX2, hT, hF⟩ := atD_spec w m b l h2
        refine ⟨x :: X, Y, by rw [e]; rfl, by rw [List.length_cons, hX], ?_, hT, hF⟩
        intro y hy
        rcases List.mem_cons.1 hy with rfl | hy
        · exact hl
        · exact hX2 y hy
theorem flag_append (k : Ky) : ∀ (X Y : List Sg), flag k (X ++ Y) = (flag k X).or (flag k Y)
  | [], Y => by simp [flag]
  | x :: X, Y => by
    simp only [List.cons_append, flag]
    by_cases hk : k = ky x
    · simp [hk]
    · simp [hk, flag_append k X Y]
theorem flag_absent (k : Ky) : ∀ (X : List Sg), (∀ x ∈ X, ky x ≠ k) → flag k X = none
  | [], _ => rfl
  | x :: X, h => by
    unfold flag
    rw [if_neg (fun e => h x List.mem_cons_self e.symm)]
    exact flag_absent k X fun y hy => h y (List.mem_cons_of_mem _ hy)
theorem flag_isSome (k : Ky) : ∀ l : List Sg, (flag k l).isSome = (atRow k l).isSome
  | [] => rfl
  | x :: l => by
    unfold flag atRow ky
    by_cases hk : k = (x.1, x.2.1)
    · rw [if_pos hk, if_pos hk]; rfl
    · rw [if_neg hk, if_neg hk, flag_isSome k l]
      simp
/-- the table's rows and the document's list -/
structure Sim (l M : List Sg) : Prop where
  kn : Kn l
  ss : SS M
  eq : ∀ k, flag k l = flag k M
theorem Sim.nil : Sim [] [] := ⟨by simp [Kn], List.Pairwise.nil, fun _ => rfl⟩
theorem Sim.perm {l M : List Sg} (h : Sim l M) : l.Perm M :=
  (List.perm_ext_iff_of_nodup (kn_nodup h.kn) (kn_nodup (ss_kn h.ss))).2 fun a => by rw [← flag_mem a l h.kn, ← flag_mem a M (ss_kn h.ss), h.eq]
theorem Sim.all {l M x : List Sg} (h : Sim l M) (hp : x.Perm l) (hs : Srt x) : x = M :=
  srt_unique h.kn (ss_kn h.ss) h.eq hp (List.Perm.refl _) hs (ss_srt h.ss)
theorem flag_at {w m : List UInt8} {M : List Sg} (h : SS M) : (flag (w, m) M).isSome = (atD w m M).2 := by
  obtain ⟨X, Y, e, hX, hX2, hT, hF⟩ := atD_spec w m true M h
  have hXn : flag (w, m) X = none := flag_absent _ X fun x hx => lp_ne (hX2 x hx)
  cases ht : (atD w m M).2 with
  | true =>
    obtain ⟨y, Y', rfl, hy⟩ := hT ht
    rw [e, flag_append, hXn]
    simp [flag, hy]
  | false =>
    have hYn : flag (w, m) Y = none := flag_absent _ Y fun y hy e => lp_ne (hF ht y hy) e.symm
    rw [e, flag_append, hXn, hYn]
    rfl
theorem Sim.signed {l M : List Sg} (h : Sim l M) (w m : List UInt8) : (atRow (w, m) l).isSome = (atD w m M).2 := by
  rw [← flag_isSome, h.eq, flag_at h.ss]
theorem Sim.honest {l M : List Sg} (h : Sim l M) (w : List UInt8) : honest l w = honest M w := by
  unfold Go.Proofs.Ytojpijpajdiiiaa.honest
  rw [Bool.eq_iff_iff, List.all_eq_true, List.all_eq_true]
  exact ⟨fun k x hx => k x (h.perm.mem_iff.2 hx), fun k x hx => k x (h.perm.mem_iff.1 hx)⟩
theorem Sim.sign {l M : List Sg} (h : Sim l M) (hl : l.length < 1024) (s : Stp) : Sim (sign l s.who s.mark s.h).1 (rsign M s.who s.mark s.h).1 ∧ (sign l s.who s.mark s.h).2 = (rsign M s.who s.mark s.h).2 := by
  have hlen := h.perm.length_eq
  have hsg := h.signed s.who s.mark
  suffices hh : SS (rsign M s.who s.mark s.h).1 ∧ (∀ k, flag k (rsign M s.who s.mark s.h).1 = upd k s (flag k M)) ∧ (Go.Proofs.Ytojpijpajdiiiaa.sign l s.who s.mark s.h).2 = (rsign M s.who s.mark s.h).2 from
    ⟨⟨kn_sign l h.kn _ _ _, hh.1, fun k => by rw [flag_sign l hl, hh.2.1, h.eq]⟩, hh.2.2⟩
  unfold upd may Go.Proofs.Ytojpijpajdiiiaa.sign rsign
  by_cases h1 : s.who.length = 0 ∨ 6 < s.who.length
  · rw [if_pos h1, if_pos h1]
    exact ⟨h.ss, fun k => by rw [if_neg (by simp; omega)], rfl⟩
  · rw [if_neg h1, if_neg h1]
    by_cases h2 : s.mark.length = 32
    · have h2' : ¬ (s.mark.length ≠ 32) := by simp [h2]
      simp only [if_neg h2']
      have hm : decide (1 ≤ s.who.length ∧ s.who.length ≤ 6 ∧ s.mark.length = 32) = true := by simp [h2]; omega
      rw [hm]
      simp only [true_and]
      obtain ⟨X, Y, e, hX, hX2, hT, hF⟩ := atD_spec s.who s.mark true M h.ss
      have hXn : flag (s.who, s.mark) X = none := flag_absent _ X fun x hx => lp_ne (hX2 x hx)
      have hss := h.ss
      rw [e] at hss
      obtain ⟨sX, sY, sXY⟩ := List.pairwise_append.1 hss
      cases ht : (atD s.who s.mark M).2 with
      | true =>
        rw [ht] at hsg
        obtain ⟨n, hn⟩ := Option.isSome_iff_exists.1 hsg
        rw [hn, if_pos rfl]
        obtain ⟨y, Y', rfl, hy⟩ := hT ht
        rw [← hX]
        have e1 : M.take X.length = X := by rw [e, List.take_left]
        have e2 : M.drop (X.length + 1) = Y' := by rw [e, List.drop_append]; simp
        have e3 : M[X.length]? = some y := by rw [e]; simp
        rw [e1, e2, e3]
        simp only [Option.map_some, Option.getD_some]
        obtain ⟨y1, y2⟩ := List.pairwise_cons.1 sY
        have hyk : ∀ b, ky y = ky (s.who, s.mark, b) := fun b => hy
        refine ⟨?_, fun k => ?_, trivial⟩
        · rw [List.append_assoc]
          refine List.pairwise_append.2 ⟨sX, List.pairwise_cons.2 ⟨fun z hz => ?_, y2⟩, fun x hx z hz => ?_⟩
          · rw [← (lp_key y _ z (hyk _)).1]
            exact y1 z hz
          · rcases List.mem_cons.1 hz with rfl | hz
            · rw [← (lp_flag s.who s.mark true _ x).2]
              exact hX2 x hx
            · exact sXY x hx z (List.mem_cons_of_mem _ hz)
        · rw [e]
          simp only [flag_append]
          by_cases hk : k = (s.who, s.mark)
          · subst hk
            rw [if_pos rfl, hXn]
            have hy2 : (s.who, s.mark) = ky y := hy.symm
            have e5 : flag (s.who, s.mark) (y :: Y') = some y.2.2 := by simp only [flag]; rw [if_pos hy2]
            have e6 : flag (s.who, s.mark) [(s.who, s.mark, y.2.2 && s.h)] = some (y.2.2 && s.h) := by simp [flag, ky]
            rw [e5, e6]
            rfl
          · rw [if_neg hk]
            have hk2 : ¬ k = ky y := by rw [hy]; exact hk
            have hk3 : ¬ k = ky (s.who, s.mark, (y.2.2 && s.h)) := hk
            simp only [flag]
            rw [if_neg hk2, if_neg hk3]
            simp
      | false =>
        rw [ht] at hsg
        have hn : atRow (s.who, s.mark) l = none := by
          cases hn : atRow (s.who, s.mark) l with
          | none => rfl
          | some n => rw [hn] at hsg; cases hsg
        rw [hn, if_neg (by simp), if_neg (by omega)]
        simp only []
        rw [if_neg (by omega), ← hX]
        have e1 : M.take X.length = X := by rw [e, List.take_left]
        have e2 : M.drop X.length = Y := by rw [e, List.drop_left]
        have hF' := hF ht
        rw [e1, e2]
        refine ⟨?_, fun k => ?_, rfl⟩
        · rw [List.append_assoc]
          refine List.pairwise_append.2 ⟨sX, List.pairwise_cons.2 ⟨fun z hz => ?_, sY⟩, fun x hx z hz => ?_⟩
          · rw [← (lp_flag s.who s.mark true _ z).1]
            exact hF' z hz
          · rcases List.mem_cons.1 hz with rfl | hz
            · rw [← (lp_flag s.who s.mark true _ x).2]
              exact hX2 x hx
            · exact sXY x hx z hz
        · rw [e]
          simp only [flag_append]
          by_cases hk : k = (s.who, s.mark)
          · subst hk
            have hYn : flag (s.who, s.mark) Y = none := flag_absent _ Y fun y hy e => lp_ne (hF' y hy) e.symm
            rw [if_pos rfl, hXn, hYn]
            simp [flag, ky]
          · rw [if_neg hk]
            have hk3 : ¬ k = ky (s.who, s.mark, s.h) := hk
            simp only [flag]
            rw [if_neg hk3]
            simp
    · rw [if_pos h2, if_pos h2]
      exact ⟨h.ss, fun k => by rw [if_neg (by simp; omega)], rfl⟩
end Go.Proofs.Ytojpijpajdiiiaa
