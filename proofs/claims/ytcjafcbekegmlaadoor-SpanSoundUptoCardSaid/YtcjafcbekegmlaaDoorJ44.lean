import Derived.Test.YtcjafcbekegmlaaDoorJ42
import Derived.Test.YtcjafcbekegmlaaDoorJ43
set_option linter.unusedSimpArgs false
set_option linter.unusedVariables false
namespace Go.Proofs.YtcjafcbekegmlaaDoor
open Go.ChangeShapes Go.WideShapes Go.ChangeAt Go.RowKit Go.ChangeMaps Go.Joins Go.Deep
set_option linter.unusedVariables false
theorem slice_of {H : Type} {enc : TypeId × Value → H} {P : Program} {w : World} {base : Nat} {spare : Nat → Bool} {held : Bool} {t e : TypeId} {fuel : Nat} {k : Value} {x : DataW H × List MemPlace} (ht : P.underlying t = some (.slice e))
    (h : DataW.trod enc P w base spare held fuel t [k] = some x) : ∃ A n c, k = .slice A n c := by
  rcases open_slice ht h with ⟨e, _⟩ | ⟨a, len, cap, m, n, D, Pl, e, _⟩
  · injection e with e _
    exact ⟨_, _, _, e⟩
  · injection e with e _
    exact ⟨_, _, _, e⟩
set_option maxRecDepth 100000 in
theorem open_page {H : Type} {enc : TypeId × Value → H} {W : World} {r : Reach} {b0 : Nat} {v : Value} {d : DataW H} {p : List MemPlace} (hv : Value.okWide Tryd.prog W r b0 31 v) (h : DataW.Trod enc Tryd.prog W 0 (fun _ => true) true 31 v d p) :
    ∃ (A : Option Addr) (items : List (List UInt8 × List UInt8)) (c : Nat) (nx : List UInt8) (B : Option Addr) (nodes : List (List UInt8)) (m : Nat), v = .agg #[.slice A items.length c, .string ⟨nx.toArray⟩, .slice B nodes.length m] ∧ Reads W W.heap.size 2 A items.length (icells items) ∧ Reads W W.heap.size 1 B nodes.length (strv nodes) ∧ nodes.length ≤ m := by
  obtain ⟨k0, k1, k2, y0, y1, y2, n, rfl, _, _, t0, t1, t2⟩ := open_agg3 Tryd.underlying31 (by kernel_rfl) (by kernel_rfl) hv h
  obtain ⟨s1, e1, _⟩ := DataW.trod_string Tryd.underlying9 t1
  injection e1 with e1
  subst e1
  obtain ⟨A, n0, c, rfl⟩ := slice_of Tryd.underlying22 t0
  obtain ⟨B, n2, m, rfl⟩ := slice_of Tryd.underlying29 t2
  obtain ⟨L, hl, HR, _⟩ := open_items t0
  obtain ⟨N, hn, HN, _, hc⟩ := open_texts t2
  subst hl
  subst hn
  exact ⟨A, L, c, s1.data.toList, B, N, m, rfl, HR, HN, hc⟩
end Go.Proofs.YtcjafcbekegmlaaDoor
