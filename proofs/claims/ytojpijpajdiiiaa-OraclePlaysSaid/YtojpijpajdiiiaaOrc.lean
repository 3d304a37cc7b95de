/- The walks of layer 6 (oracle). No conditions. -/
import Derived.Test.YtojpijpajdiiiaaOrcPlain
import Derived.WideMake
namespace Go.Proofs.Ytojpijpajdiiiaa
set_option linter.unusedVariables false
open Go.RowKit Go.Instr
attribute [local go_sem] ba_get ByteArray.mk_append_mk run_makeMap_plain

theorem orc_key (who mark : List UInt8) (w : World) :
    Calls Try.prog 17 #[.string ⟨who.toArray⟩, .string ⟨mark.toArray⟩] w fun e w' => e = .returned (sk (who, mark)) ∧ Below w.heap.size w w' := by
  go_enter Try.func17, Try.ntmps17
  go_wp2
  go_returns
  exact ⟨rfl, by go_grown⟩

theorem map_keep {w w1 : World} {κ : Type} {kv : κ → Value} {b : Nat} {l : List (κ × Value)} (hm : Hid (MapIs w kv b l)) (hb : Below w.heap.size w w1) : Hid (MapIs w1 kv b l) :=
  Lib.hid (hm.out.kept (hb.block b hm.out.lt))
theorem tab_lookup {w : World} {mb : Nat} {l : List Sg} (hm : Hid (MapIs w sk mb (smap l 0))) (who mark : List UInt8) :
    (lookup 44 (.map (some mb)) (sk (who, mark)) true).run Try.prog w = .ok (.tuple #[.int .i64 (((atRow (who, mark) l).getD 0 : Nat) : Int), .bool (atRow (who, mark) l).isSome]) w := by
  rw [hm.out.look_eq sk_type Try.underlying44 Try.zeroValue3, assoc_smap]
  cases atRow (who, mark) l with
  | none => rfl
  | some n => simp

theorem orc_New (w : World) :
    Calls Try.prog 11 #[] w fun e w' => e = .returned (.pointer (some ⟨w.heap.size + 1, 0, none⟩)) ∧ Tab w' w.heap.size (.slice none 0 0) [] ∧ Below w.heap.size w w' ∧ w'.heap.size = w.heap.size + 2 := by
  go_enter Try.func11, Try.ntmps11
  go_wp2
  go_ret
  refine ⟨?_, ⟨?_, (MapIs.made w 0).kept ?_, World.ownsRow_nil _ _ _ _⟩, by go_grown, ?_⟩
  · simp
  · have := heap_alloc_new (w.alloc (.map #[] 0)) (.cells #[.map (some w.heap.size), .slice none 0 0] 46)
    rw [World.size_alloc] at this
    exact this
  · exact heap_alloc_old _ _ (by rw [World.size_alloc]; omega)
  · simp

theorem orc_Signed (w : World) (mb : Nat) (v : Value) (l : List Sg) (hT : Tab w mb v l) (who mark : List UInt8) :
    Calls Try.prog 9 #[.pointer (some ⟨mb + 1, 0, none⟩), .string ⟨who.toArray⟩, .string ⟨mark.toArray⟩] w fun e w' => e = .returned (.bool (atRow (who, mark) l).isSome) ∧ Below w.heap.size w w' := by
  have hlt := hT.blk.lt
  have hc0 : w.cell? ⟨mb + 1, 0, none⟩ = some (.map (some mb)) := hT.blk.cell 0
  have hml := hT.map.lt
  have HM := Lib.hid hT.map
  clear hT
  generalize hr : (atRow (who, mark) l).isSome = r
  go_enter Try.func9, Try.ntmps9
  go_wp2
  go_region_with (go_at_call 17; refine (orc_key who mark _).mono ?_; rintro e w1 ⟨rfl, hb⟩; try simp only [World.size_drew, World.size_alloc] at hb; have hbw : Below w.heap.size w w1 := (by first | exact hb | exact hb.start); have hl := tab_lookup (map_keep HM hbw) who mark; rw [hr] at hl; have hc1 := hbw.cell (p := ⟨mb + 1, 0, none⟩) hlt; rw [hc0] at hc1; clear hb)
  all_goals go_wp2
  all_goals go_ret
  all_goals exact ⟨rfl, by go_grown⟩
end Go.Proofs.Ytojpijpajdiiiaa
