/- The statement of OracleFork: for every input the law returns true and the input reads as it did. No condition. -/
import Derived.Test.YtojpijpajdiiiaaOrcFork3
import Derived.Test.YtojpijpajdiiiaaSteps
import Derived.WideKeyArgs
import Derived.ProofKit
import Derived.OpenShut
import Derived.Lib.SmallJoins
namespace Go.Proofs.Ytojpijpajdiiiaa.oracleFork
open Go.Joins Go.ChangeShapes Go.WideShapes Go.ChangeAt Go.RowKit Go.ChangeMaps
set_option linter.unusedVariables false

theorem own : ownKnob Try.prog.godebug = none := by kernel_rfl

set_option maxRecDepth 100000 in
theorem lifted (os : Os) (started : os.Started) (H : Type) (enc : TypeId × Value → H) :
    ReturnsInHanded {} Try.checked os 6 .any (Rows.oracleForkSpec.pre6 enc Try.prog Try.f6 Rows.oracleForkRow.domain false) (Rows.oracleForkSpec.post enc Try.prog Try.f6 false true false false) := by
  refine returnsInHanded_of_change (C := Try.checked) own started (by kernel_rfl) Try.func6
    (ChangeSpec.witness6 (enc := enc) (C := Try.checked) false ⟨#[], #[.slice none 0 0, .agg #[.string ⟨#[]⟩, .string ⟨#[]⟩, .bool false, .bool false], .agg #[.string ⟨#[]⟩, .string ⟨#[]⟩, .bool false, .bool false]], []⟩ 8 (by kernel_rfl) (by kernel_rfl) (by kernel_rfl) (by kernel_rfl)) ?_
  intro W base args ds gs before hval0 hW hcnd _
  have hval : ∀ (j : Nat) t v, Try.f6.params[j]? = some t → args[j]? = some v → Value.okWide Try.prog W .any base t v := hval0
  have hW' := hW
  obtain ⟨p, q, hA0, hV, rfl, hfz, hnd⟩ := hW
  have hA : DataW.TrodAll enc Try.prog W 0 (fun _ => true) true Try.f6.params.toList args.toList ds p := hA0
  rw [Try.params6] at hA hval
  obtain ⟨v0, vs0, d0, ds0, p0, q0, hargs, rfl, rfl, h0, r0⟩ := trodAll_cons hA
  obtain ⟨v1, vs1, d1, ds1, p1, q1, rfl, rfl, rfl, h1, r1⟩ := trodAll_cons r0
  obtain ⟨v2, vs2, d2, ds2, p2, q2, rfl, rfl, rfl, h2, r2⟩ := trodAll_cons r1
  obtain ⟨rfl, rfl, rfl⟩ := trodAll_nil r2
  obtain rfl : args = #[v0, v1, v2] := by cases args; simp_all
  obtain ⟨rfl, rfl⟩ := trodVars_none hV
  obtain ⟨A0, n0, c0, rfl⟩ := okWide_slice Try.underlying22 (hval 0 22 v0 rfl rfl)
  obtain ⟨fuel, hf⟩ := id h0
  obtain ⟨L, hL, HR, hm⟩ := open_steps hf
  subst hL
  obtain ⟨c0, c1, c2, c3, y0, y1, y2, y3, n1, rfl, _, _, t0, t1, t2, t3⟩ := open_agg4 Try.underlying27 (by kernel_rfl) (by kernel_rfl) (hval 1 27 v1 rfl rfl) h1
  obtain ⟨s0, e0, _⟩ := DataW.trod_string Try.underlying9 t0
  obtain ⟨s1, e1, _⟩ := DataW.trod_string Try.underlying9 t1
  obtain ⟨b2, e2, _⟩ := DataW.trod_bool Try.underlying4 t2
  obtain ⟨b3, e3, _⟩ := DataW.trod_bool Try.underlying4 t3
  injection e0 with e0; injection e1 with e1; injection e2 with e2; injection e3 with e3
  subst e0; subst e1; subst e2; subst e3
  obtain ⟨x1, hx1⟩ : ∃ x : Stp, x = ⟨s0.data.toList, s1.data.toList, b2, b3⟩ := ⟨_, rfl⟩
  have ev1 : Value.agg #[.string s0, .string s1, .bool b2, .bool b3] = .agg #[.string ⟨x1.who.toArray⟩, .string ⟨x1.mark.toArray⟩, .bool x1.h, .bool x1.fork] := by rw [hx1]
  rw [ev1] at h1 hW' hval ⊢
  clear t0 t1 t2 t3 hx1 ev1
  obtain ⟨c0, c1, c2, c3, y0, y1, y2, y3, n2, rfl, _, _, t0, t1, t2, t3⟩ := open_agg4 Try.underlying27 (by kernel_rfl) (by kernel_rfl) (hval 2 27 v2 rfl rfl) h2
  obtain ⟨s0, e0, _⟩ := DataW.trod_string Try.underlying9 t0
  obtain ⟨s1, e1, _⟩ := DataW.trod_string Try.underlying9 t1
  obtain ⟨b2, e2, _⟩ := DataW.trod_bool Try.underlying4 t2
  obtain ⟨b3, e3, _⟩ := DataW.trod_bool Try.underlying4 t3
  injection e0 with e0; injection e1 with e1; injection e2 with e2; injection e3 with e3
  subst e0; subst e1; subst e2; subst e3
  obtain ⟨x2, hx2⟩ : ∃ x : Stp, x = ⟨s0.data.toList, s1.data.toList, b2, b3⟩ := ⟨_, rfl⟩
  have ev2 : Value.agg #[.string s0, .string s1, .bool b2, .bool b3] = .agg #[.string ⟨x2.who.toArray⟩, .string ⟨x2.mark.toArray⟩, .bool x2.h, .bool x2.fork] := by rw [hx2]
  rw [ev2] at h2 hW' hval ⊢
  clear t0 t1 t2 t3 hx2 ev2
  clear hA0 hval0
  simp only [List.append_nil] at hW'
  have hlt : ∀ p ∈ p0 ++ (p1 ++ p2), p.block < W.heap.size := fun p hp => hW'.lt p (by simpa using hp)
  refine (law_OracleFork W A0 c0 L x1 x2 HR hm).mono fun e W' ⟨he, hg⟩ => ?_
  subst he
  exact ⟨_, rfl, post_of_below (pa := p0 ++ (p1 ++ (p2 ++ []))) (pv := []) hW' (fun _ _ _ => (trodAll_cons_mk (shut_bool Try.underlying4 _) trodAll_mk0))
    (fun sp hsp => trodAll_cons_mk (WideElems.Trod_stays (P := Try.prog) (by kernel_rfl) (by kernel_rfl) (of_decide_eq_true (by kernel_rfl)) h0 (fun x hx => hg.same (hlt x (by simp [hx]))) (fun x hx => hsp x (by simp [hx]))) (trodAll_cons_mk (WideElems.Trod_stays (P := Try.prog) (by kernel_rfl) (by kernel_rfl) (of_decide_eq_true (by kernel_rfl)) h1 (fun x hx => hg.same (hlt x (by simp [hx]))) (fun x hx => hsp x (by simp [hx]))) (trodAll_cons_mk (WideElems.Trod_stays (P := Try.prog) (by kernel_rfl) (by kernel_rfl) (of_decide_eq_true (by kernel_rfl)) h2 (fun x hx => hg.same (hlt x (by simp [hx]))) (fun x hx => hsp x (by simp [hx]))) trodAll_mk0)))
    (fun _ _ => rfl) (by simp)
    hg (ok_one (by kernel_rfl) rfl (okWide_bool_mk Try.underlying4 _))⟩

theorem over : Rows.oracleForkRow.holds Try.pinned (OpenSpec.ofChange Rows.oracleForkSpec) :=
  OpenClaim.holds_of_wide 6 Try.f6 rfl rfl rfl rfl rfl rfl rfl ⟨rfl, rfl, rfl, rfl, rfl⟩ rfl rfl rfl rfl rfl (by kernel_rfl) Try.func6 (by kernel_rfl)
    (of_decide_eq_true (by kernel_rfl)) (by unfold Func.isWrapper; first | (rw [if_pos (by decide +kernel)]; kernel_rfl) | (rw [if_neg (by decide +kernel)]; exact ⟨rfl, rfl⟩))
    (fun os started H enc _ => lifted os started H enc)

/-- The statement. -/
theorem proved : Rows.OracleForkSaid :=
  over
end Go.Proofs.Ytojpijpajdiiiaa.oracleFork
