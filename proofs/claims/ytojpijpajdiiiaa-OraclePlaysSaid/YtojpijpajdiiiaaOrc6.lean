/- The walks of layer 6 (oracle): the order of signatures. No conditions. -/
import Derived.Test.YtojpijpajdiiiaaOrc5
namespace Go.Proofs.Ytojpijpajdiiiaa
set_option linter.unusedVariables false
open Go.RowKit Go.Instr
attribute [local go_sem] ba_get ByteArray.mk_append_mk add_zero_addr

def orI (a b : Int) : Int := if a = 0 then b else a
def cmpSg (x y : Sg) : Int := orI (cmpS x.1 y.1) (cmpS x.2.1 y.2.1)
theorem cmp_Or' (g : Nat) (x y : Int) (w : World) (h0 : w.cell? ⟨g, 0, none⟩ = some (.int .i64 x)) (h1 : w.cell? ⟨g, 1, none⟩ = some (.int .i64 y)) :
    Calls Try.prog 21 #[.slice (some ⟨g, 0, none⟩) 2 2] w fun e w' => e = .returned (.int .i64 (orI x y)) ∧ w' = w := cmp_Or g x y w h0 h1
theorem grow3 (W : World) (a b c : Obj) : ((W.alloc a).alloc b).drew.alloc c = Sort.grow (W.drewN 1) #[a, b, c] := by
  rw [Sort.alloc_eq_grow, Sort.alloc_eq_grow, Sort.alloc_eq_grow]
  show Sort.grow (Sort.grow (Sort.grow (W.drewN 1) #[a]) #[b]) #[c] = _
  rw [Sort.grow_grow, Sort.grow_grow]
  rfl
theorem orc_cmp (x y : Sg) (W : World) :
    Calls Try.prog 20 #[.agg #[.string ⟨x.1.toArray⟩, .string ⟨x.2.1.toArray⟩, .bool x.2.2], .agg #[.string ⟨y.1.toArray⟩, .string ⟨y.2.1.toArray⟩, .bool y.2.2]] W fun e w' => e = .returned (.int .i64 (cmpSg x y)) ∧ ∃ q os', w' = Sort.grow (W.drewN q) os' := by
  have HC := fun (a b : List UInt8) w => cmp_Compare a b w
  unfold cmpSg
  generalize hc : cmpS = C at HC ⊢
  have HO := fun g (a b : Int) w h0 h1 => cmp_Or' g a b w h0 h1
  go_enter Try.func20, Try.ntmps20
  go_wp2
  go_region_held3 (fun w' => w'.cell? ⟨W.heap.size, 0, none⟩ = some (.string ⟨x.1.toArray⟩) ∧ w'.cell? ⟨W.heap.size, 1, none⟩ = some (.string ⟨x.2.1.toArray⟩) ∧ w'.cell? ⟨W.heap.size + 1, 0, none⟩ = some (.string ⟨y.1.toArray⟩) ∧ w'.cell? ⟨W.heap.size + 1, 1, none⟩ = some (.string ⟨y.2.1.toArray⟩)) (go_keep)
    (first | (go_at_call 22; refine (HC _ _ _).mono ?_; rintro e w1 ⟨rfl, rfl⟩) | (go_at_call 21; refine (HO _ (C x.1 y.1) (C x.2.1 y.2.1) _ (by simp [go_sem]) (by simp [go_sem])).mono ?_; rintro e w1 ⟨rfl, rfl⟩))
  go_wp2
  go_ret
  exact ⟨rfl, 1, _, grow3 _ _ _ _⟩

theorem sg_lays (blk off size : Nat) (w : World) : CmpLays Try.prog 20 #[] srow 3 cmpSg blk off size w :=
  fun _ _ _ _ x y => orc_cmp x y _

theorem bl_irrefl : ∀ a : List UInt8, Op.bytesLess a a = false
  | [] => rfl
  | a :: x => by simp [Op.bytesLess, bl_irrefl x]
theorem bl_trans : ∀ a b c : List UInt8, Op.bytesLess a b = true → Op.bytesLess b c = true → Op.bytesLess a c = true
  | _, [], _, h, _ => by simp [Op.bytesLess] at h
  | _, _ :: _, [], _, h => by simp [Op.bytesLess] at h
  | [], _ :: _, _ :: _, _, _ => by simp [Op.bytesLess]
  | a :: x, b :: y, c :: z, h1, h2 => by
    simp only [Op.bytesLess, Bool.or_eq_true, Bool.and_eq_true, decide_eq_true_eq, beq_iff_eq, UInt8.lt_iff_toNat_lt] at *
    rcases h1 with h1 | ⟨rfl, h1⟩
    · rcases h2 with h2 | ⟨rfl, h2⟩
      · exact .inl (by omega)
      · exact .inl h1
    · rcases h2 with h2 | ⟨rfl, h2⟩
      · exact .inl h2
      · exact .inr ⟨rfl, bl_trans x y z h1 h2⟩
theorem bl_tri : ∀ a b : List UInt8, Op.bytesLess a b = false → Op.bytesLess b a = false → a = b
  | [], [], _, _ => rfl
  | [], _ :: _, h, _ => by simp [Op.bytesLess] at h
  | _ :: _, [], _, h => by simp [Op.bytesLess] at h
  | a :: x, b :: y, h1, h2 => by
    simp only [Op.bytesLess, Bool.or_eq_false_iff, Bool.and_eq_false_iff, decide_eq_false_iff_not, UInt8.lt_iff_toNat_lt] at *
    have e : a = b := UInt8.toNat_inj.1 (by omega)
    subst e
    simp at h1 h2
    rw [bl_tri x y h1 h2]
theorem bl_asymm (a b : List UInt8) (h : Op.bytesLess a b = true) : Op.bytesLess b a = false := by
  cases h2 : Op.bytesLess b a with
  | false => rfl
  | true => have := bl_trans a b a h h2; rw [bl_irrefl] at this; cases this
/-- the order of signatures -/
def lp (x y : Sg) : Bool := Op.bytesLess x.1 y.1 || (decide (x.1 = y.1) && Op.bytesLess x.2.1 y.2.1)
theorem cmpS_neg (a b : List UInt8) : (cmpS a b < 0) = (Op.bytesLess a b = true) := by
  unfold cmpS
  cases Op.bytesLess a b <;> cases (a == b) <;> simp
theorem cmpS_zero (a b : List UInt8) : (cmpS a b = 0) = (a = b) := by
  unfold cmpS
  cases h : Op.bytesLess a b
  · cases h2 : (a == b)
    · simp at h2
      simp [h2]
    · simp at h2
      simp [h2]
  · have : a ≠ b := by rintro rfl; rw [bl_irrefl] at h; cases h
    simp [this]
theorem ltOf_lp (x y : Sg) : ltOf cmpSg x y = lp x y := by
  unfold ltOf cmpSg orI lp
  by_cases h : x.1 = y.1
  · rw [if_pos (by rw [cmpS_zero]; exact h)]
    rw [h, bl_irrefl]
    apply Bool.eq_iff_iff.2
    simp [cmpS_neg]
  · rw [if_neg (by rw [cmpS_zero]; exact h)]
    apply Bool.eq_iff_iff.2
    simp [cmpS_neg, h]
theorem lp_irrefl (x : Sg) : lp x x = false := by simp [lp, bl_irrefl]
theorem lp_trans (x y z : Sg) (h1 : lp x y = true) (h2 : lp y z = true) : lp x z = true := by
  simp only [lp, Bool.or_eq_true, Bool.and_eq_true, decide_eq_true_eq] at *
  rcases h1 with h1 | ⟨e1, h1⟩
  · rcases h2 with h2 | ⟨e2, h2⟩
    · exact .inl (bl_trans _ _ _ h1 h2)
    · exact .inl (e2 ▸ h1)
  · rcases h2 with h2 | ⟨e2, h2⟩
    · exact .inl (e1 ▸ h2)
    · exact .inr ⟨e1.trans e2, bl_trans _ _ _ h1 h2⟩
theorem lp_tri (x y : Sg) (h1 : lp x y = false) (h2 : lp y x = false) : (x.1, x.2.1) = (y.1, y.2.1) := by
  simp only [lp, Bool.or_eq_false_iff, Bool.and_eq_false_iff, decide_eq_false_iff_not] at *
  have e := bl_tri _ _ h1.1 h2.1
  have e2 := bl_tri x.2.1 y.2.1 (h1.2.resolve_left (fun h => h e)) (h2.2.resolve_left (fun h => h e.symm))
  rw [e, e2]
theorem lp_key (x y z : Sg) (h : (x.1, x.2.1) = (y.1, y.2.1)) : lp x z = lp y z ∧ lp z x = lp z y := by
  injection h with e1 e2
  simp [lp, e1, e2]
theorem sg_swo : Sort.SWO (ltOf cmpSg) where
  irrefl x := by rw [ltOf_lp]; exact lp_irrefl x
  trans x y z h1 h2 := by rw [ltOf_lp] at *; exact lp_trans x y z h1 h2
  ntrans x y z h1 h2 := by
    rw [ltOf_lp] at *
    cases h : lp x z with
    | false => rfl
    | true =>
      cases h3 : lp y x with
      | false =>
        rw [(lp_key x y z (lp_tri x y h1 h3)).1, h2] at h
        cases h
      | true => rw [lp_trans y x z h3 h] at h2; cases h2
end Go.Proofs.Ytojpijpajdiiiaa
