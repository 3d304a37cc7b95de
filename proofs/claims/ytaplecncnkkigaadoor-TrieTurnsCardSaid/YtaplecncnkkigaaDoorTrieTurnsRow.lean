import Derived.Test.YtaplecncnkkigaaDoorCards
import Derived.Test.YtaplecncnkkigaaDoorTie
import Derived.Test.YtaplecncnkkigaaDoorJ28
import Derived.Test.YtaplecncnkkigaaDoorJ31
import Derived.WideKeyArgs
import Derived.ProofKit
import Derived.OpenShut
import Derived.Deep.DeepHandedRow
import Derived.Lib.LaidTab
import Derived.LaidSub
import Derived.Lib.SmallJoins
/- The statement of TrieTurns: for all inputs the law returns true; the card ties what is listed of the sums' table to the program's text. -/
namespace Go.Proofs.YtaplecncnkkigaaDoor.trieTurns
open Go.ChangeShapes Go.WideShapes Go.ChangeAt Go.RowKit Go.ChangeMaps Go.Joins
set_option linter.unusedVariables false

theorem own : ownKnob Tryd.prog.godebug = none := by kernel_rfl
theorem gTab : Tryd.prog.globalNamed "pharos/sha.k" = some 0 := by kernel_rfl
theorem gTabType : (Tryd.prog.globals[0]?).map (·.type) = some 182 := by kernel_rfl
theorem cellsTab : Tryd.prog.cellsOf 182 = 64 := by kernel_rfl
theorem cellsOne : Tryd.prog.cellsOf 154 = 1 := by kernel_rfl
def kTab : List Int := kW.map fun x => (x.toNat : Int)

theorem table {W : World} (h : laidMetH Tryd.prog Rows.trieTurnsRow.laid W) : Lib.TabIs Tryd.prog W "pharos/sha.k" .u32 kTab := by
  have h2 : laidMetH Tryd.prog [("pharos/sha.k", Lib.tabData .u32 kTab)] W := h
  exact Lib.tabIs_of_head (rest := []) gTab gTabType Tryd.underlying182 Tryd.underlying154 cellsOne cellsTab h2
theorem kTab_len : kTab.length = 64 := by decide +kernel
theorem kW_len : kW.length = 64 := by decide +kernel
theorem kTab_at (i : Nat) (hi : i < 64) : kTab.getD i 0 = ((kW.getD i 0).toNat : Int) := by
  unfold kTab
  have hk : i < kW.length := by rw [kW_len]; exact hi
  generalize kW = l at *
  rw [List.getD_eq_getElem?_getD, List.getD_eq_getElem?_getD, List.getElem?_map, List.getElem?_eq_getElem hk]
  rfl
theorem tbl {W : World} (h : laidMetH Tryd.prog Rows.trieTurnsRow.laid W) : Tbl W := fun i hi => by
  have h1 := (table h).cell gTab i (by rw [kTab_len]; exact hi)
  rw [h1, kTab_at i hi]

set_option maxRecDepth 100000 in
theorem contract (H : Type) (enc : TypeId × Value → H) (W : World) (base : Nat) (args : Array Value) (ds gs : List (DataW H)) (before : List MemPlace)
    (hval : ∀ (j : Nat) t v, Tryd.f7.params[j]? = some t → args[j]? = some v → Value.okWide Tryd.prog W .any base t v)
    (hW : DataW.Whole enc Tryd.prog Tryd.f7.params.toList Rows.trieTurnsSpec.vars false W args.toList ds gs before) (hL : laidMetH Tryd.prog Rows.trieTurnsRow.laid W) :
    Calls Tryd.prog 7 args W fun e W' => ∃ v, e = .returned v ∧ Rows.trieTurnsSpec.post enc Tryd.prog Tryd.f7 false true false false W args v W' := by
  have hW' := hW
  obtain ⟨p, q, hA0, hV, rfl, hfz, hnd⟩ := hW
  have hA : DataW.TrodAll enc Tryd.prog W 0 (fun _ => true) true Tryd.f7.params.toList args.toList ds p := hA0
  rw [Tryd.params7] at hA hval
  obtain ⟨v0, vs0, d0, ds0, p0, q0, hargs, rfl, rfl, h0, r0⟩ := trodAll_cons hA
  obtain ⟨v1, vs1, d1, ds1, p1, q1, rfl, rfl, rfl, h1, r1⟩ := trodAll_cons r0
  obtain ⟨v2, vs2, d2, ds2, p2, q2, rfl, rfl, rfl, h2, r2⟩ := trodAll_cons r1
  obtain ⟨rfl, rfl, rfl⟩ := trodAll_nil r2
  obtain rfl : args = #[v0, v1, v2] := by cases args; simp_all
  obtain ⟨rfl, rfl⟩ := trodVars_none hV
  obtain ⟨A0, n0, c0, rfl⟩ := okWide_slice Tryd.underlying49 (hval 0 49 v0 rfl rfl)
  obtain ⟨fuel0, hf0⟩ := id h0
  obtain ⟨L0, hl0, HR0, hm0⟩ := open_acts hf0
  subst hl0
  obtain ⟨k0, k1, k2, y0, y1, y2, n1, rfl, _, _, t0, t1, t2⟩ := open_agg3 Tryd.underlying54 (by kernel_rfl) (by kernel_rfl) (hval 1 54 v1 rfl rfl) h1
  obtain ⟨s0, e0, _⟩ := DataW.trod_int Tryd.underlying3 t0
  obtain ⟨s1, e1, _⟩ := DataW.trod_string Tryd.underlying9 t1
  obtain ⟨s2, e2, _⟩ := DataW.trod_string Tryd.underlying9 t2
  injection e0 with e0; injection e1 with e1; injection e2 with e2
  subst e0; subst e1; subst e2
  obtain ⟨x1, hx1⟩ : ∃ x : Act10, x = ⟨s0, s1.data.toList, s2.data.toList⟩ := ⟨_, rfl⟩
  have ev1 : Value.agg #[.int .i64 s0, .string s1, .string s2] = .agg #[.int .i64 x1.kind, .string ⟨x1.key.toArray⟩, .string ⟨x1.value.toArray⟩] := by rw [hx1]
  rw [ev1] at h1 hW' hval ⊢
  clear t0 t1 t2 hx1 ev1
  obtain ⟨k0, k1, k2, y0, y1, y2, n2, rfl, _, _, t0, t1, t2⟩ := open_agg3 Tryd.underlying54 (by kernel_rfl) (by kernel_rfl) (hval 2 54 v2 rfl rfl) h2
  obtain ⟨s0, e0, _⟩ := DataW.trod_int Tryd.underlying3 t0
  obtain ⟨s1, e1, _⟩ := DataW.trod_string Tryd.underlying9 t1
  obtain ⟨s2, e2, _⟩ := DataW.trod_string Tryd.underlying9 t2
  injection e0 with e0; injection e1 with e1; injection e2 with e2
  subst e0; subst e1; subst e2
  obtain ⟨x2, hx2⟩ : ∃ x : Act10, x = ⟨s0, s1.data.toList, s2.data.toList⟩ := ⟨_, rfl⟩
  have ev2 : Value.agg #[.int .i64 s0, .string s1, .string s2] = .agg #[.int .i64 x2.kind, .string ⟨x2.key.toArray⟩, .string ⟨x2.value.toArray⟩] := by rw [hx2]
  rw [ev2] at h2 hW' hval ⊢
  clear t0 t1 t2 hx2 ev2
  clear hA0
  simp only [List.append_nil] at hW'
  have hlt : ∀ p ∈ p0 ++ (p1 ++ p2), p.block < W.heap.size := fun p hp => hW'.lt p (by simpa using hp)
  refine (law_TrieTurns W A0 c0 L0 x1 x2 HR0 (tbl hL)).mono fun e W' ⟨he, hg⟩ => ?_
  subst he
  exact ⟨_, rfl, post_of_below (pa := p0 ++ (p1 ++ (p2 ++ []))) (pv := []) hW' (fun _ _ _ => (trodAll_cons_mk (shut_bool Tryd.underlying4 _) trodAll_mk0))
    (fun sp hsp => trodAll_cons_mk (WideElems.Trod_stays (P := Tryd.prog) (by kernel_rfl) (by kernel_rfl) (of_decide_eq_true (by kernel_rfl)) h0 (fun x hx => hg.same (hlt x (by simp [hx]))) (fun x hx => hsp x (by simp [hx]))) (trodAll_cons_mk (WideElems.Trod_stays (P := Tryd.prog) (by kernel_rfl) (by kernel_rfl) (of_decide_eq_true (by kernel_rfl)) h1 (fun x hx => hg.same (hlt x (by simp [hx]))) (fun x hx => hsp x (by simp [hx]))) (trodAll_cons_mk (WideElems.Trod_stays (P := Tryd.prog) (by kernel_rfl) (by kernel_rfl) (of_decide_eq_true (by kernel_rfl)) h2 (fun x hx => hg.same (hlt x (by simp [hx]))) (fun x hx => hsp x (by simp [hx]))) trodAll_mk0)))
    (fun _ _ => rfl) (by simp)
    hg (ok_one (by kernel_rfl) rfl (okWide_bool_mk Tryd.underlying4 _))⟩

def putK : Obj → Obj
  | .cells _ t frozen => .cells (kTab.map (fun n => Value.int .u32 n)).toArray t frozen
  | o => o
/-- A world for the witness: the settled one, the table holding what its initialiser lays. -/
noncomputable def laidWorld (os : Os) : World :=
  { World.holding Tryd.prog os ⟨#[], #[], []⟩ with heap := (World.holding Tryd.prog os ⟨#[], #[], []⟩).heap.modify 0 putK }
theorem laid_met (os : Os) : laidMet Tryd.prog Rows.trieTurnsRow.laid ((laidWorld os).forCall (fun _ _ => 0) ⟨#[], #[.slice none 0 0, .agg #[.int .i64 0, .string ⟨#[]⟩, .string ⟨#[]⟩], .agg #[.int .i64 0, .string ⟨#[]⟩, .string ⟨#[]⟩]], []⟩).memory :=
  laidMet_of_run' 8 (by kernel_rfl) (by kernel_rfl)
theorem reads (os : Os) {H : Type} (enc : TypeId × Value → H) : ∃ places, DataW.whole enc Tryd.prog ((laidWorld os).forCall (fun _ _ => 0) ⟨#[], #[.slice none 0 0, .agg #[.int .i64 0, .string ⟨#[]⟩, .string ⟨#[]⟩], .agg #[.int .i64 0, .string ⟨#[]⟩, .string ⟨#[]⟩]], []⟩).memory Tryd.f7.params.toList Rows.trieTurnsSpec.vars false #[Value.slice none 0 0, .agg #[.int .i64 0, .string ⟨#[]⟩, .string ⟨#[]⟩], .agg #[.int .i64 0, .string ⟨#[]⟩, .string ⟨#[]⟩]].toList 8 = some ([.nil, .agg [.lit (.int .i64 0), .lit (.string []), .lit (.string [])], .agg [.lit (.int .i64 0), .lit (.string []), .lit (.string [])]], [], places) :=
  ⟨[], by kernel_rfl⟩

set_option maxRecDepth 100000 in
theorem lifted (os : Os) (started : os.Started) (H : Type) (enc : TypeId × Value → H) (F : Stop.Interp) :
    ReturnsInHanded {} Tryd.checked os 7 .any ((OpenSpec.ofChange Rows.trieTurnsSpec).preRow enc Tryd.prog Tryd.f7 Rows.trieTurnsRow.domain false Rows.trieTurnsRow.laid) (((OpenSpec.ofChange Rows.trieTurnsSpec).at F).post enc Tryd.prog Tryd.f7 false true false false) := by
  obtain ⟨places, hx⟩ := reads os enc
  refine returnsInHanded_of_row (C := Tryd.checked) (s := OpenSpec.ofChange Rows.trieTurnsSpec) own started (by kernel_rfl) Tryd.func7
    (witness_row_at (enc := enc) (C := Tryd.checked) false (laidWorld os) #[.slice none 0 0, .agg #[.int .i64 0, .string ⟨#[]⟩, .string ⟨#[]⟩], .agg #[.int .i64 0, .string ⟨#[]⟩, .string ⟨#[]⟩]] rfl (by kernel_rfl) (by kernel_rfl) (by kernel_rfl)
      (OpenSpec.preRow_of_cond 8 hx (by kernel_rfl) (fun k hk => by cases hk) (by kernel_rfl) (laid_met os))) ?_
  intro W base args ds gs before hval hW _ _ _ hL _ _
  exact contract H enc W base args ds gs before hval hW hL

theorem said : Rows.TrieTurnsSaid :=
  OpenClaim.holds_of_cond 7 Tryd.f7 rfl rfl rfl rfl rfl rfl rfl ⟨rfl, rfl, rfl, rfl, rfl⟩ rfl rfl rfl rfl rfl (by kernel_rfl) Tryd.func7 (by kernel_rfl)
    (of_decide_eq_true (by kernel_rfl)) (by unfold Func.isWrapper; first | (rw [if_pos (by decide +kernel)]; kernel_rfl) | (rw [if_neg (by decide +kernel)]; exact ⟨rfl, rfl⟩))
    (fun os started H enc _ F => by rw [OpenClaim.pre_eq_preRow]; exact lifted os started H enc F)

theorem plain (f : FuncId) (fn : Func) (hf : Tryd.pinned.checked.prog.funcNamed "pharos/pharoslaw10.TrieTurns" = some f) (hfn : Tryd.pinned.checked.prog.funcs[f]? = some fn) :
    false = Tryd.pinned.checked.prog.looks [] ∧ ∀ (j : Nat) t, fn.params[j]? = some t → Tryd.pinned.checked.prog.wantsStandIn t = false := by
  obtain rfl : f = 7 := Option.some.inj ((show Tryd.prog.funcNamed "pharos/pharoslaw10.TrieTurns" = some 7 by kernel_rfl).symm.trans hf) |>.symm
  obtain rfl : fn = Tryd.f7 := (Option.some.inj (Tryd.func7.symm.trans hfn)).symm
  refine ⟨by kernel_rfl, fun j t ht => ?_⟩
  rw [Tryd.params7] at ht
  have ht2 : t = 49 ∨ t = 54 := by
    have := Array.mem_of_getElem? ht
    simp at this
    omega
  rcases ht2 with rfl | rfl
  · exact (show Tryd.prog.wantsStandIn 49 = false by kernel_rfl)
  · exact (show Tryd.prog.wantsStandIn 54 = false by kernel_rfl)

/-- The card. -/
theorem proved : Rows.TrieTurnsCardSaid :=
  Claim7.holds_tied_plain_at .later [] _ _ _ _ said (fun _ h => by cases h) (by kernel_rfl) (fun _ h => by cases h) trieTurns_row_tie rfl ⟨rfl, rfl⟩ (by kernel_rfl) rfl plain (by kernel_rfl)
end Go.Proofs.YtaplecncnkkigaaDoor.trieTurns
