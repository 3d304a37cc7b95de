/- Maps as lists of keys and values: what look-ups and stores do. No conditions. -/
import Derived.Test.YtojpijpajdiiiaaWords
import Derived.Laws.StructEq
import Derived.Maps.OwnOps
namespace Go.Proofs.Ytojpijpajdiiiaa
set_option linter.unusedVariables false
open Go.RowKit Go.Instr

section
variable {κ : Type} {kv : κ → Value}
/-- block b is a map of these keys and values, in the order in which they came -/
def MapIs (w : World) (kv : κ → Value) (b : Nat) (l : List (κ × Value)) : Prop :=
  ∃ E clock, w.heap[b]? = some (.map E clock) ∧ E.toList.map (fun e => (e.key, e.val)) = l.map (fun x => (kv x.1, x.2))

theorem MapIs.kept {w w' : World} {b : Nat} {l : List (κ × Value)} (hm : MapIs w kv b l) (h : w'.heap[b]? = w.heap[b]?) : MapIs w' kv b l := by
  obtain ⟨E, clock, hb, hE⟩ := hm
  exact ⟨E, clock, h.trans hb, hE⟩
theorem MapIs.lt {w : World} {b : Nat} {l : List (κ × Value)} (hm : MapIs w kv b l) : b < w.heap.size := by
  obtain ⟨E, clock, hb, _⟩ := hm
  rcases Nat.lt_or_ge b w.heap.size with g | g
  · exact g
  · rw [Array.getElem?_eq_none g] at hb; cases hb
theorem MapIs.made (w : World) (c : Nat) : MapIs (w.alloc (.map #[] c)) kv w.heap.size [] := ⟨#[], c, heap_alloc_new w _, rfl⟩

end

/-- the first entry of a key: its place and value -/
def assoc {κ : Type} [DecidableEq κ] (k : κ) : List (κ × Value) → Nat → Option (Nat × Value)
  | [], _ => none
  | x :: l, i => if k = x.1 then some (i, x.2) else assoc k l (i + 1)

/-- A key's type as the model's maps use it: 'kv k' is the key's value. -/
structure KeyType (P : Program) (kt : TypeId) {κ : Type} [DecidableEq κ] (kv : κ → Value) : Prop where
  check : ∀ e w k, (checkKey e 10000 kt (kv k)).run P w = .ok () w
  equal : ∀ w a b, (Op.equal kt (kv a) (kv b)).run P w = .ok (decide (a = b)) w
  now : ∃ u, P.underlying kt = some u ∧ ∀ k (E : List MapEntry) (l : List (κ × Value)) i, E.map (fun e => (e.key, e.val)) = l.map (fun x => (kv x.1, x.2)) → findNow u (kv k) E i = none ∨ findNow u (kv k) E i = some (assoc k l i)
  stays : ∀ k, sameBits 10000 (kv k) (kv k) = true

section
variable {P : Program} {kt : TypeId} {κ : Type} [DecidableEq κ] {kv : κ → Value}

theorem run_findAsking_is (h : KeyType P kt kv) (w : World) (k : κ) : ∀ (E : List MapEntry) (l : List (κ × Value)) (i : Nat), E.map (fun e => (e.key, e.val)) = l.map (fun x => (kv x.1, x.2)) → (findAsking kt (kv k) E i).run P w = .ok (assoc k l i) w
  | [], [], i, _ => by simp [findAsking, assoc]
  | [], _ :: _, _, hE => by simp at hE
  | _ :: _, [], _, hE => by simp at hE
  | e :: E, x :: l, i, hE => by
    simp only [List.map_cons, List.cons.injEq, Prod.mk.injEq] at hE
    obtain ⟨⟨h1, h2⟩, h3⟩ := hE
    have ih := run_findAsking_is h w k E l (i + 1) h3
    simp only [findAsking, Sem.run_bind, h1, h.equal, Result.andThen_ok, assoc]
    by_cases hk : k = x.1
    · simp [hk, h2]
    · simp [hk, ih]
theorem run_findKey_is (h : KeyType P kt kv) (w : World) (k : κ) (E : List MapEntry) (l : List (κ × Value)) (hE : E.map (fun e => (e.key, e.val)) = l.map (fun x => (kv x.1, x.2))) : (findKey kt (kv k) E).run P w = .ok (assoc k l 0) w := by
  obtain ⟨u, hu, hn⟩ := h.now
  have hf := run_findAsking_is h w k E l 0 hE
  unfold findKey
  simp only [Sem.run_bind, run_underlying hu, Result.andThen_ok]
  rcases hn k E l 0 hE with e | e
  · simp [e, hf]
  · simp [e]

theorem MapIs.look {w : World} {b : Nat} {l : List (κ × Value)} (hm : MapIs w kv b l) (h : KeyType P kt kv) (t el : TypeId) (ht : P.underlying t = some (.map kt el)) (z : Value) (hz : (zeroValue el).run P w = .ok z w) (k : κ) (ok : Bool) :
    (lookup t (.map (some b)) (kv k) ok).run P w = .ok (let r := match assoc k l 0 with | some (_, v) => (v, true) | none => (z, false); if ok then .tuple #[r.1, .bool r.2] else r.1) w := by
  obtain ⟨E, clock, hb, hE⟩ := hm
  have hf := run_findKey_is h w k E.toList l hE
  have hg : (getObj b : Sem Obj).run P w = .ok (.map E clock) w := by simp [getObj, Sem.run, hb]
  unfold lookup
  simp only [Sem.run_bind, run_underlying ht, Result.andThen_ok, hg, Sem.run_pure, h.check, hf]
  cases assoc k l 0 with
  | none => simp [hz]
  | some r => simp

def aput (k : κ) (v : Value) : List (κ × Value) → List (κ × Value)
  | [] => [(k, v)]
  | x :: l => if k = x.1 then (k, v) :: l else x :: aput k v l
theorem assoc_some {k : κ} : ∀ {l : List (κ × Value)} {i j : Nat} {v : Value}, assoc k l i = some (j, v) → ∃ n, j = i + n ∧ l[n]? = some (k, v) ∧ ∀ u, aput k u l = l.set n (k, u)
  | [], _, _, _, h => by simp [assoc] at h
  | x :: l, i, j, v, h => by
    simp only [assoc] at h
    by_cases hk : k = x.1
    · rw [if_pos hk] at h
      injection h with h
      injection h with h1 h2
      exact ⟨0, by omega, by simp [hk, ← h2], fun u => by simp [aput, hk]⟩
    · rw [if_neg hk] at h
      obtain ⟨n, h1, h2, h3⟩ := assoc_some h
      exact ⟨n + 1, by omega, by simpa using h2, fun u => by simp [aput, hk, h3 u]⟩
theorem assoc_none {k : κ} : ∀ {l : List (κ × Value)} {i : Nat}, assoc k l i = none → ∀ u, aput k u l = l ++ [(k, u)]
  | [], _, _, u => rfl
  | x :: l, i, h, u => by
    simp only [assoc] at h
    by_cases hk : k = x.1
    · rw [if_pos hk] at h; simp at h
    · rw [if_neg hk] at h
      simp [aput, hk, assoc_none h u]

theorem MapIs.store {w : World} {b : Nat} {l : List (κ × Value)} (hm : MapIs w kv b l) (h : KeyType P kt kv) (t el : TypeId) (ht : P.underlying t = some (.map kt el)) (k : κ) (v : Value) :
    ∃ w', (mapUpdate t (.map (some b)) (kv k) v).run P w = .ok () w' ∧ MapIs w' kv b (aput k v l) ∧ w.grownBy w' (some b) ∧ w'.heap.size = w.heap.size := by
  obtain ⟨E, clock, hb, hE⟩ := hm
  have hf := run_findKey_is h w k E.toList l hE
  have hg : (getObj b : Sem Obj).run P w = .ok (.map E clock) w := by simp [getObj, Sem.run, hb]
  have hlt : b < w.heap.size := by
    rcases Nat.lt_or_ge b w.heap.size with g | g
    · exact g
    · rw [Array.getElem?_eq_none g] at hb; cases hb
  have hset : ∀ (o' : Obj) (E' : Array MapEntry) (c' : Nat), o' = .map E' c' → (setObj b o' : Sem Unit).run P w = .ok () { w with heap := w.heap.setIfInBounds b o' } := by
    intro o' E' c' e; simp [setObj, Sem.run, hb]
  have fin : ∀ (E' : Array MapEntry) (c' : Nat), E'.toList.map (fun e => (e.key, e.val)) = (aput k v l).map (fun x => (kv x.1, x.2)) →
      MapIs { w with heap := w.heap.setIfInBounds b (.map E' c') } kv b (aput k v l) ∧ w.grownBy { w with heap := w.heap.setIfInBounds b (.map E' c') } (some b) ∧ ({ w with heap := w.heap.setIfInBounds b (.map E' c') } : World).heap.size = w.heap.size := by
    intro E' c' hE'
    refine ⟨⟨E', c', by simp [hlt], hE'⟩, ⟨rfl, rfl, rfl, by simp, fun j hj hne => ?_⟩, by simp⟩
    show (w.heap.setIfInBounds b _)[j]? = _
    rw [Array.getElem?_setIfInBounds_ne (fun e => hne (by rw [e]))]
  unfold mapUpdate
  simp only [Sem.run_bind, run_underlying ht, Result.andThen_ok, hg, h.check, hf]
  cases ha : assoc k l 0 with
  | none =>
    have := fin (E.push { key := kv k, val := v, born := clock }) (clock + 1) (by
      rw [assoc_none ha v]; simp [hE])
    exact ⟨_, hset _ _ _ rfl, this⟩
  | some r =>
    obtain ⟨j, u⟩ := r
    obtain ⟨n, hj, hn, hp⟩ := assoc_some ha
    have hjn : j = n := by omega
    subst hjn
    have hl : E.toList.length = l.length := by have := congrArg List.length hE; simpa using this
    have hnl : j < l.length := (List.getElem?_eq_some_iff.1 hn).1
    have hkey : ((E[j]?).map (·.key)).getD (kv k) = kv k := by
      have h1 := congrArg (fun x => x[j]?) hE
      simp only [List.getElem?_map, hn] at h1
      have h2 : j < E.size := by have e : E.toList.length = E.size := Array.length_toList; omega
      simp [Array.getElem?_eq_getElem h2] at h1 ⊢
      exact h1.1
    have := fin (E.modify j fun e => { e with key := kv k, val := v }) clock (by
      rw [hp v]
      apply List.ext_getElem?
      intro m
      have h1 := congrArg (fun x => x[m]?) hE
      simp only [List.getElem?_map] at h1
      by_cases hm : j = m
      · subst hm
        have h2 : j < E.size := by have e : E.toList.length = E.size := Array.length_toList; omega
        simp [Array.toList_modify, h2, hnl]
      · simp [Array.toList_modify, hm, List.getElem?_set_ne hm]
        simpa using h1)
    refine ⟨_, ?_, this⟩
    simp only [hkey, keyThatStays, h.stays, if_true]
    exact hset _ _ _ rfl
/-- a look-up, as an equation of the walk -/
theorem MapIs.look_eq {w : World} {b : Nat} {l : List (κ × Value)} (hm : MapIs w kv b l) (h : KeyType P kt kv) {t el : TypeId} (ht : P.underlying t = some (.map kt el)) {z : Value} (hz : ∀ w, (zeroValue el).run P w = .ok z w) (k : κ) :
    (lookup t (.map (some b)) (kv k) true).run P w = .ok (.tuple #[((assoc k l 0).map (·.2)).getD z, .bool (assoc k l 0).isSome]) w := by
  rw [hm.look h t el ht z (hz w) k true]
  cases assoc k l 0 with
  | none => rfl
  | some r => rfl

theorem wp_mapUpdate_is {o : Oper} {a : Act} {K : Act → World → Prop} {Q : Exit → Act → World → Prop} (w : World) (m x v : Operand) (t : TypeId) (hop : o.op = Op.mapUpdate t m x v)
    (h : KeyType P kt kv) (el : TypeId) (ht : P.underlying t = some (.map kt el)) (b : Nat) (l : List (κ × Value)) (hmap : MapIs w kv b l) (k : κ) (val : Value)
    (hm : a.eval m = .map (some b)) (hx : a.eval x = kv k) (hv : a.eval v = val)
    (hK : ∀ w', MapIs w' kv b (aput k val l) → w.grownBy w' (some b) → w'.heap.size = w.heap.size → K (a.put o.dst undef) w') : o.wp P a w K Q := by
  obtain ⟨w', hrun, r1, r2, r3⟩ := hmap.store h t el ht k val
  unfold Oper.wp
  simp [execOp, hop, hm, hx, hv, hrun, Result.andThen]
  exact hK w' r1 r2 r3
theorem wpList_mapUpdate_is {ops : Array Oper} {rest : List Oper} {o : Oper} {a : Act} {Q : Exit → Act → World → Prop} (w : World) (hg : o.guard = none) (m x v : Operand) (t : TypeId) (hop : o.op = Op.mapUpdate t m x v)
    (h : KeyType P kt kv) (el : TypeId) (ht : P.underlying t = some (.map kt el)) (b : Nat) (l : List (κ × Value)) (hmap : MapIs w kv b l) (k : κ) (val : Value)
    (hm : a.eval m = .map (some b)) (hx : a.eval x = kv k) (hv : a.eval v = val)
    (hK : ∀ w', MapIs w' kv b (aput k val l) → w.grownBy w' (some b) → w'.heap.size = w.heap.size → wpList P ops Q rest (a.put o.dst undef) w') : wpList P ops Q (o :: rest) a w :=
  wpList_plain hg fun K' hK' => wp_mapUpdate_is w m x v t hop h el ht b l hmap k val hm hx hv fun w' r1 r2 r3 => hK' _ _ (hK w' r1 r2 r3)
theorem step_mapUpdate_is {ops : Array Oper} {o : Oper} {a : Act} {K : Act → World → Prop} {Q : Exit → Act → World → Prop} {E : Prop} (w : World) (hg : o.guard = none) (m x v : Operand) (t : TypeId) (hop : o.op = Op.mapUpdate t m x v)
    (h : KeyType P kt kv) (el : TypeId) (ht : P.underlying t = some (.map kt el)) (b : Nat) (l : List (κ × Value)) (hmap : MapIs w kv b l) (k : κ) (val : Value)
    (hm : a.eval m = .map (some b)) (hx : a.eval x = kv k) (hv : a.eval v = val)
    (hK : ∀ w', MapIs w' kv b (aput k val l) → w.grownBy w' (some b) → w'.heap.size = w.heap.size → K (a.put o.dst undef) w') :
    if Region.wanted o (yielded ops a.tmps) = true then Oper.wp P o a w K Q else E := by
  have hw : Region.wanted o (yielded ops a.tmps) = true := by simp [Region.wanted, hg]
  rw [if_pos hw]
  exact wp_mapUpdate_is w m x v t hop h el ht b l hmap k val hm hx hv hK
end
end Go.Proofs.Ytojpijpajdiiiaa
