import Derived.Test.YtcjafcbekegmlaaDoorRows
import Derived.Test.YtcjafcbekegmlaaDoorJ03
import Derived.WideKeyArgs
import Derived.ProofKit
import Derived.OpenShut
import Derived.Deep.DeepHandedRow
import Derived.Lib.LaidTab
import Derived.LaidSub
import Derived.Lib.SmallJoins
set_option linter.unusedSimpArgs false
set_option linter.unusedVariables false
namespace Go.Proofs.YtcjafcbekegmlaaDoor.rowHead
open Go.ChangeShapes Go.WideShapes Go.ChangeAt Go.RowKit Go.ChangeMaps
set_option linter.unusedVariables false
theorem own : ownKnob Tryd.prog.godebug = none := by kernel_rfl
theorem gTab : Tryd.prog.globalNamed "pharos/sha.k" = some 0 := by kernel_rfl
theorem gTabType : (Tryd.prog.globals[0]?).map (·.type) = some 140 := by kernel_rfl
theorem cellsTab : Tryd.prog.cellsOf 140 = 64 := by kernel_rfl
theorem cellsOne : Tryd.prog.cellsOf 110 = 1 := by kernel_rfl
def kTab : List Int := kW.map fun x => (x.toNat : Int)
theorem kTab_len : kTab.length = 64 := by decide +kernel
theorem kW_len : kW.length = 64 := by decide +kernel
theorem kTab_at (i : Nat) (hi : i < 64) : kTab.getD i 0 = ((kW.getD i 0).toNat : Int) := by
  unfold kTab
  have hk : i < kW.length := by rw [kW_len]; exact hi
  generalize kW = l at *
  rw [List.getD_eq_getElem?_getD, List.getD_eq_getElem?_getD, List.getElem?_map, List.getElem?_eq_getElem hk]
  rfl
theorem tbl_of {W : World} (h : laidMetH Tryd.prog [("pharos/sha.k", Lib.tabData .u32 kTab)] W) : Tbl W := fun i hi => by
  have h1 := (Lib.tabIs_of_head (rest := []) gTab gTabType Tryd.underlying140 Tryd.underlying110 cellsOne cellsTab h).cell gTab i (by rw [kTab_len]; exact hi)
  rw [h1, kTab_at i hi]
def putK : Obj → Obj
  | .cells _ t frozen => .cells (kTab.map (fun n => Value.int .u32 n)).toArray t frozen
  | o => o
noncomputable def laidWorld (os : Os) : World :=
  { World.holding Tryd.prog os ⟨#[], #[], []⟩ with heap := (World.holding Tryd.prog os ⟨#[], #[], []⟩).heap.modify 0 putK }
end Go.Proofs.YtcjafcbekegmlaaDoor.rowHead

namespace Go.Proofs.YtcjafcbekegmlaaDoor
open Go.ChangeShapes Go.WideShapes Go.ChangeAt Go.RowKit Go.ChangeMaps Go.Joins
set_option linter.unusedVariables false
set_option maxRecDepth 100000 in
theorem open_ends {H : Type} {enc : TypeId × Value → H} {W : World} {r : Reach} {base b0 : Nat} {spare : Nat → Bool} {held : Bool} {v : Value} {d : DataW H} {p : List MemPlace} (hv : Value.okWide Tryd.prog W r b0 24 v) (h : DataW.Trod enc Tryd.prog W base spare held 24 v d p) :
    ∃ (f e : List UInt8) (most : Int) (z : DataW H), v = .agg #[.string ⟨f.toArray⟩, .string ⟨e.toArray⟩, .int .i64 most] ∧ d = .agg [.lit (.string f), .lit (.string e), z] := by
  obtain ⟨k0, k1, k2, y0, y1, y2, n, rfl, rfl, _, t0, t1, t2⟩ := open_agg3 Tryd.underlying24 (by kernel_rfl) (by kernel_rfl) hv h
  obtain ⟨s0, e0, x0, _⟩ := DataW.trod_string Tryd.underlying9 t0
  obtain ⟨s1, e1, x1, _⟩ := DataW.trod_string Tryd.underlying9 t1
  obtain ⟨s2, e2, _⟩ := DataW.trod_int Tryd.underlying3 t2
  injection e0 with e0; injection e1 with e1; injection e2 with e2
  subst e0; subst e1; subst e2
  exact ⟨s0.data.toList, s1.data.toList, s2, y2.1, rfl, by rw [x0, x1]⟩
theorem bulk_one {H : Type} (d : DataW H) (l : List (DataW H)) (h : d ∈ l) : Rows.uptoBulk d ≤ Rows.uptoBulkAll l := by
  induction l with
  | nil => cases h
  | cons x r ih =>
    simp only [Rows.uptoBulkAll]
    rcases List.mem_cons.1 h with e | e
    · subst e; omega
    · have := ih e; omega
theorem ends_le {H : Type} {l : List (DataW H)} {d : DataW H} {f e : List UInt8} {z : DataW H} (hk : Rows.uptoSmall H l = true) (hd : d = .agg [.lit (.string f), .lit (.string e), z]) (h : d ∈ l) : f.length ≤ 1048576 ∧ e.length ≤ 1048576 := by
  have h1 : Rows.uptoBulkAll l ≤ 1048576 := of_decide_eq_true hk
  have h2 := bulk_one _ l h
  rw [hd] at h2
  simp only [Rows.uptoBulk, Rows.uptoBulkAll] at h2
  omega
end Go.Proofs.YtcjafcbekegmlaaDoor
