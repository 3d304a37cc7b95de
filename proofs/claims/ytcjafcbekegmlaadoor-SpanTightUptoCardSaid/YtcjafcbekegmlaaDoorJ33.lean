import Derived.Test.YtcjafcbekegmlaaDoorJ30
set_option linter.unusedSimpArgs false
set_option linter.unusedVariables false
namespace Go.Proofs.YtcjafcbekegmlaaDoor
set_option linter.unusedVariables false
open Go.RowKit Go.Shelf Go.Instr
attribute [local go_sem] ba_get ByteArray.mk_append_mk
attribute [local go_sem] Oper.semAt_some
def RangeEnd (w : World) (r : List Trie.KV × List UInt8) (cd : Nat) (e : Ending) (w' : World) : Prop :=
  ∃ v, e = .returned (.tuple #[v, .string ⟨r.2.toArray⟩, .int .i64 (cd : Int)]) ∧ w'.ownsRow w.heap.size 50 2 v r.1.length (icells r.1) ∧ Below w.heap.size w w'
theorem below_keeps {B : Nat} {W W' : World} (h : Below W.heap.size W W') : KeepsFrom B W W' := ⟨h.size, fun k o _ hk _ => (h.block k (Array.getElem?_eq_some_iff.1 hk).1).trans hk⟩
theorem below_kp {b : Nat} {W W' : World} (hb : b < W.heap.size) (h : Below W.heap.size W W') : KpI b W W' := by
  refine ⟨h.size, fun g hs => ?_⟩
  obtain ⟨a1, a2, a3, ⟨o, a4, a5⟩, a6⟩ := hs
  have hg := (Array.getElem?_eq_some_iff.1 a4).1
  refine ⟨h.block g hg, fun o2 n c => ?_⟩
  rw [cell_of_heap (W := W) (h.block b hb)]
  exact a6 o2 n c
def RgI (w : World) (b m : Nat) (pre : List Trie.KV) (W : World) : Prop :=
  ((∃ v, Boxed W b 22 v ∧ W.ownsRow w.heap.size 50 2 v pre.length (icells pre) ∧ True) ∧ Boxed W (b - 1) 3 (.int .i64 (m : Int)) ∧ Boxed W (b + 1) 9 (.string ⟨#[]⟩) ∧ Boxed W (b + 2) 32 (.int .i64 0) ∧ pre.length ≤ m) ∧ Below w.heap.size w W
def RgX (w : World) (b m : Nat) (c : Code) (pre : List Trie.KV) (W : World) : Prop :=
  ((∃ v, Boxed W b 22 v ∧ W.ownsRow w.heap.size 50 2 v (pre.length - 1) (icells pre.dropLast) ∧ True) ∧ Boxed W (b + 1) 9 (.string ⟨(Trie.behindW (pre.dropLast.getD (m - 1) ([], [])).1).toArray⟩) ∧ Boxed W (b + 2) 32 (.int .i64 0) ∧ (c = .ret ∧ pre.length = m + 1)) ∧ Below w.heap.size w W
theorem rgI_own (w : World) (b m B : Nat) (hB : w.heap.size ≤ B) : OwnFrom B (RgI w b m) :=
  OwnFrom.and (OwnFrom.and (Own.from (holdsRow_own w.heap.size b 22 50 2 (fun pre : List Trie.KV => pre.length) (fun pre => icells pre) (fun _ _ => True)) _) (OwnFrom.and (Own.from (boxed_own _ _ _) _) (OwnFrom.and (Own.from (boxed_own _ _ _) _) (OwnFrom.and (Own.from (boxed_own _ _ _) _) (ownFrom_pure _ _))))) (ownFrom_below (Nat.le_refl _) hB)
theorem rgX_own (w : World) (b m B : Nat) (hB : w.heap.size ≤ B) (c : Code) : OwnFrom B (RgX w b m c) :=
  OwnFrom.and (OwnFrom.and (Own.from (holdsRow_own w.heap.size b 22 50 2 (fun pre : List Trie.KV => pre.length - 1) (fun pre => icells pre.dropLast) (fun _ _ => True)) _) (OwnFrom.and (Own.from (boxed_own _ _ _) _) (OwnFrom.and (Own.from (boxed_own _ _ _) _) (ownFrom_pure _ _)))) (ownFrom_below (Nat.le_refl _) hB)
theorem RgI.next {w : World} {b m : Nat} {pre : List Trie.KV} {W W' : World} (h : RgI w b m pre W) (hb : Below W.heap.size W W') : RgI w b m pre W' := by
  obtain ⟨⟨⟨v, h1, h2, _⟩, h3, h4, h5, h6⟩, h7⟩ := h
  have key : ∀ {g : Nat} {t : TypeId} {u : Value}, Boxed W g t u → Boxed W' g t u := fun h => (hb.block _ h.lt).trans h
  exact ⟨⟨⟨v, key h1, own_below h2 hb, trivial⟩, key h3, key h4, key h5, h6⟩, h7.nxt hb⟩
theorem range_results {W : World} {tmps : Array Value} {b1 b2 b3 : Nat} {v1 v2 v3 : Value} (h8 : tmps[8]? = some (.pointer (some ⟨b1, 0, none⟩))) (h9 : tmps[9]? = some (.pointer (some ⟨b2, 0, none⟩))) (h10 : tmps[10]? = some (.pointer (some ⟨b3, 0, none⟩)))
    (c1 : W.cell? ⟨b1, 0, none⟩ = some v1) (c2 : W.cell? ⟨b2, 0, none⟩ = some v2) (c3 : W.cell? ⟨b3, 0, none⟩ = some v3) (o1 : v1.oneCell' = true) (o2 : v2.oneCell' = true) (o3 : v3.oneCell' = true) :
    (results Tryd.f22 tmps).run Tryd.prog W = .ok (.tuple #[v1, v2, v3]) W := by
  simp [results, Tryd.f22, go_sem, c1, c2, c3, h8, h9, h10]
set_option maxRecDepth 100000 in
set_option maxHeartbeats 1000000 in
theorem scan_Range_bad (w : World) (v : Value) (f e : ByteArray) (most : Int) (h : most < 1 ∨ 16 < most) :
    Calls Tryd.prog 22 #[v, .string f, .string e, .int .i64 most] w (RangeEnd w ([], []) 1) := by
  have HP : Hid (∀ w', Below w.heap.size w w' → RangeEnd w ([], []) 1 (.returned (.tuple #[.slice none 0 0, .string ⟨#[]⟩, .int .i64 1])) w') := Lib.hid (fun w' h => ⟨_, rfl, World.ownsRow_nil _ _ _ _, h⟩)
  generalize RangeEnd w ([], []) 1 = P at HP ⊢
  by_cases h1 : most < 1
  · clear h
    go_enter Tryd.func22, Tryd.ntmps22
    go_wp2_with fail
    refine bodyPost_ret (v := .tuple #[.slice none 0 0, .string ⟨#[]⟩, .int .i64 1]) ?_ rfl (HP.out _ (by go_grown))
    exact range_results rfl rfl rfl (by first | (simp [go_sem]; done) | (go_simp; done) | trace_state) (by first | (simp [go_sem]; done) | (go_simp; done) | trace_state) (by first | (simp [go_sem]; done) | (go_simp; done) | trace_state) rfl rfl rfl
  · have h2 : (16 : Int) < most := by omega
    have h3 : (most < 1) = False := by simp; omega
    clear h h1
    go_enter Tryd.func22, Tryd.ntmps22
    go_wp2_with fail
    refine bodyPost_ret (v := .tuple #[.slice none 0 0, .string ⟨#[]⟩, .int .i64 1]) ?_ rfl (HP.out _ (by go_grown))
    exact range_results rfl rfl rfl (by first | (simp [go_sem]; done) | (go_simp; done) | trace_state) (by first | (simp [go_sem]; done) | (go_simp; done) | trace_state) (by first | (simp [go_sem]; done) | (go_simp; done) | trace_state) rfl rfl rfl
end Go.Proofs.YtcjafcbekegmlaaDoor
