import Derived.Test.YtaplecncnkkigaaDoorJ01
import Derived.Laws.StructEq
import Derived.Maps.OwnOps
import Derived.Maps.OwnSet
import Derived.Test.YtaplecncnkkigaaDoorJ30
import Derived.Test.YtaplecncnkkigaaDoorJ28
/- Maps as lists of keys and values: what look-ups and stores do. No conditions. -/
namespace Go.Proofs.YtaplecncnkkigaaDoor
set_option linter.unusedVariables false
open Go.RowKit Go.Instr

section
variable {κ : Type} {kv : κ → Value}
/-- block b is a map of these keys and values, in the order in which they came -/
def MapIs (w : World) (kv : κ → Value) (b : Nat) (l : List (κ × Value)) : Prop :=
  ∃ E clock, w.heap[b]? = some (.map E clock) ∧ E.toList.map (fun e => (e.key, e.val)) = l.map (fun x => (kv x.1, x.2))

theorem MapIs.kept {w w' : World} {b : Nat} {l : List (κ × Value)} (hm : MapIs w kv b l) (h : w'.heap[b]? = w.heap[b]?) : MapIs w' kv b l := by
  obtain ⟨E, clock, hb, hE⟩ := hm
  exact ⟨E, clock, h.trans hb, hE⟩
theorem MapIs.lt {w : World} {b : Nat} {l : List (κ × Value)} (hm : MapIs w kv b l) : b < w.heap.size := by
  obtain ⟨E, clock, hb, _⟩ := hm
  rcases Nat.lt_or_ge b w.heap.size with g | g
  · exact g
  · rw [Array.getElem?_eq_none g] at hb; cases hb
theorem MapIs.made (w : World) (c : Nat) : MapIs (w.alloc (.map #[] c)) kv w.heap.size [] := ⟨#[], c, heap_alloc_new w _, rfl⟩

end

/-- the first entry of a key: its place and value -/
def assoc {κ : Type} [DecidableEq κ] (k : κ) : List (κ × Value) → Nat → Option (Nat × Value)
  | [], _ => none
  | x :: l, i => if k = x.1 then some (i, x.2) else assoc k l (i + 1)

/-- A key's type as the model's maps use it: 'kv k' is the key's value. -/
structure KeyType (P : Program) (kt : TypeId) {κ : Type} [DecidableEq κ] (kv : κ → Value) : Prop where
  check : ∀ e w k, (checkKey e 10000 kt (kv k)).run P w = .ok () w
  equal : ∀ w a b, (Op.equal kt (kv a) (kv b)).run P w = .ok (decide (a = b)) w
  now : ∃ u, P.underlying kt = some u ∧ ∀ k (E : List MapEntry) (l : List (κ × Value)) i, E.map (fun e => (e.key, e.val)) = l.map (fun x => (kv x.1, x.2)) → findNow u (kv k) E i = none ∨ findNow u (kv k) E i = some (assoc k l i)
  stays : ∀ k, sameBits 10000 (kv k) (kv k) = true

section
variable {P : Program} {kt : TypeId} {κ : Type} [DecidableEq κ] {kv : κ → Value}

theorem run_findAsking_is (h : KeyType P kt kv) (w : World) (k : κ) : ∀ (E : List MapEntry) (l : List (κ × Value)) (i : Nat), E.map (fun e => (e.key, e.val)) = l.map (fun x => (kv x.1, x.2)) → (findAsking kt (kv k) E i).run P w = .ok (assoc k l i) w
  | [], [], i, _ => by simp [findAsking, assoc]
  | [], _ :: _, _, hE => by simp at hE
  | _ :: _, [], _, hE => by simp at hE
  | e :: E, x :: l, i, hE => by
    simp only [List.map_cons, List.cons.injEq, Prod.mk.injEq] at hE
    obtain ⟨⟨h1, h2⟩, h3⟩ := hE
    have ih := run_findAsking_is h w k E l (i + 1) h3
    simp only [findAsking, Sem.run_bind, h1, h.equal, Result.andThen_ok, assoc]
    by_cases hk : k = x.1
    · simp [hk, h2]
    · simp [hk, ih]
theorem run_findKey_is (h : KeyType P kt kv) (w : World) (k : κ) (E : List MapEntry) (l : List (κ × Value)) (hE : E.map (fun e => (e.key, e.val)) = l.map (fun x => (kv x.1, x.2))) : (findKey kt (kv k) E).run P w = .ok (assoc k l 0) w := by
  obtain ⟨u, hu, hn⟩ := h.now
  have hf := run_findAsking_is h w k E l 0 hE
  unfold findKey
  simp only [Sem.run_bind, run_underlying hu, Result.andThen_ok]
  rcases hn k E l 0 hE with e | e
  · simp [e, hf]
  · simp [e]

theorem MapIs.look {w : World} {b : Nat} {l : List (κ × Value)} (hm : MapIs w kv b l) (h : KeyType P kt kv) (t el : TypeId) (ht : P.underlying t = some (.map kt el)) (z : Value) (hz : (zeroValue el).run P w = .ok z w) (k : κ) (ok : Bool) :
    (lookup t (.map (some b)) (kv k) ok).run P w = .ok (let r := match assoc k l 0 with | some (_, v) => (v, true) | none => (z, false); if ok then .tuple #[r.1, .bool r.2] else r.1) w := by
  obtain ⟨E, clock, hb, hE⟩ := hm
  have hf := run_findKey_is h w k E.toList l hE
  have hg : (getObj b : Sem Obj).run P w = .ok (.map E clock) w := by simp [getObj, Sem.run, hb]
  unfold lookup
  simp only [Sem.run_bind, run_underlying ht, Result.andThen_ok, hg, Sem.run_pure, h.check, hf]
  cases assoc k l 0 with
  | none => simp [hz]
  | some r => simp

def aput (k : κ) (v : Value) : List (κ × Value) → List (κ × Value)
  | [] => [(k, v)]
  | x :: l => if k = x.1 then (k, v) :: l else x :: aput k v l
theorem assoc_some {k : κ} : ∀ {l : List (κ × Value)} {i j : Nat} {v : Value}, assoc k l i = some (j, v) → ∃ n, j = i + n ∧ l[n]? = some (k, v) ∧ ∀ u, aput k u l = l.set n (k, u)
  | [], _, _, _, h => by simp [assoc] at h
  | x :: l, i, j, v, h => by
    simp only [assoc] at h
    by_cases hk : k = x.1
    · rw [if_pos hk] at h
      injection h with h
      injection h with h1 h2
      exact ⟨0, by omega, by simp [hk, ← h2], fun u => by simp [aput, hk]⟩
    · rw [if_neg hk] at h
      obtain ⟨n, h1, h2, h3⟩ := assoc_some h
      exact ⟨n + 1, by omega, by simpa using h2, fun u => by simp [aput, hk, h3 u]⟩
theorem assoc_none {k : κ} : ∀ {l : List (κ × Value)} {i : Nat}, assoc k l i = none → ∀ u, aput k u l = l ++ [(k, u)]
  | [], _, _, u => rfl
  | x :: l, i, h, u => by
    simp only [assoc] at h
    by_cases hk : k = x.1
    · rw [if_pos hk] at h; simp at h
    · rw [if_neg hk] at h
      simp [aput, hk, assoc_none h u]

theorem MapIs.store {w : World} {b : Nat} {l : List (κ × Value)} (hm : MapIs w kv b l) (h : KeyType P kt kv) (t el : TypeId) (ht : P.underlying t = some (.map kt el)) (k : κ) (v : Value) :
    ∃ w', (mapUpdate t (.map (some b)) (kv k) v).run P w = .ok () w' ∧ MapIs w' kv b (aput k v l) ∧ w.grownBy w' (some b) ∧ w'.heap.size = w.heap.size := by
  obtain ⟨E, clock, hb, hE⟩ := hm
  have hf := run_findKey_is h w k E.toList l hE
  have hg : (getObj b : Sem Obj).run P w = .ok (.map E clock) w := by simp [getObj, Sem.run, hb]
  have hlt : b < w.heap.size := by
    rcases Nat.lt_or_ge b w.heap.size with g | g
    · exact g
    · rw [Array.getElem?_eq_none g] at hb; cases hb
  have hset : ∀ (o' : Obj) (E' : Array MapEntry) (c' : Nat), o' = .map E' c' → (setObj b o' : Sem Unit).run P w = .ok () { w with heap := w.heap.setIfInBounds b o' } := by
    intro o' E' c' e; simp [setObj, Sem.run, hb]
  have fin : ∀ (E' : Array MapEntry) (c' : Nat), E'.toList.map (fun e => (e.key, e.val)) = (aput k v l).map (fun x => (kv x.1, x.2)) →
      MapIs { w with heap := w.heap.setIfInBounds b (.map E' c') } kv b (aput k v l) ∧ w.grownBy { w with heap := w.heap.setIfInBounds b (.map E' c') } (some b) ∧ ({ w with heap := w.heap.setIfInBounds b (.map E' c') } : World).heap.size = w.heap.size := by
    intro E' c' hE'
    refine ⟨⟨E', c', by simp [hlt], hE'⟩, ⟨rfl, rfl, rfl, by simp, fun j hj hne => ?_⟩, by simp⟩
    show (w.heap.setIfInBounds b _)[j]? = _
    rw [Array.getElem?_setIfInBounds_ne (fun e => hne (by rw [e]))]
  unfold mapUpdate
  simp only [Sem.run_bind, run_underlying ht, Result.andThen_ok, hg, h.check, hf]
  cases ha : assoc k l 0 with
  | none =>
    have := fin (E.push { key := kv k, val := v, born := clock }) (clock + 1) (by
      rw [assoc_none ha v]; simp [hE])
    exact ⟨_, hset _ _ _ rfl, this⟩
  | some r =>
    obtain ⟨j, u⟩ := r
    obtain ⟨n, hj, hn, hp⟩ := assoc_some ha
    have hjn : j = n := by omega
    subst hjn
    have hl : E.toList.length = l.length := by have := congrArg List.length hE; simpa using this
    have hnl : j < l.length := (List.getElem?_eq_some_iff.1 hn).1
    have hkey : ((E[j]?).map (·.key)).getD (kv k) = kv k := by
      have h1 := congrArg (fun x => x[j]?) hE
      simp only [List.getElem?_map, hn] at h1
      have h2 : j < E.size := by have e : E.toList.length = E.size := Array.length_toList; omega
      simp [Array.getElem?_eq_getElem h2] at h1 ⊢
      exact h1.1
    have := fin (E.modify j fun e => { e with key := kv k, val := v }) clock (by
      rw [hp v]
      apply List.ext_getElem?
      intro m
      have h1 := congrArg (fun x => x[m]?) hE
      simp only [List.getElem?_map] at h1
      by_cases hm : j = m
      · subst hm
        have h2 : j < E.size := by have e : E.toList.length = E.size := Array.length_toList; omega
        simp [Array.toList_modify, h2, hnl]
      · simp [Array.toList_modify, hm, List.getElem?_set_ne hm]
        simpa using h1)
    refine ⟨_, ?_, this⟩
    simp only [hkey, keyThatStays, h.stays, if_true]
    exact hset _ _ _ rfl
/-- a look-up, as an equation of the walk -/
theorem MapIs.look_eq {w : World} {b : Nat} {l : List (κ × Value)} (hm : MapIs w kv b l) (h : KeyType P kt kv) {t el : TypeId} (ht : P.underlying t = some (.map kt el)) {z : Value} (hz : ∀ w, (zeroValue el).run P w = .ok z w) (k : κ) :
    (lookup t (.map (some b)) (kv k) true).run P w = .ok (.tuple #[((assoc k l 0).map (·.2)).getD z, .bool (assoc k l 0).isSome]) w := by
  rw [hm.look h t el ht z (hz w) k true]
  cases assoc k l 0 with
  | none => rfl
  | some r => rfl

theorem wp_mapUpdate_is {o : Oper} {a : Act} {K : Act → World → Prop} {Q : Exit → Act → World → Prop} (w : World) (m x v : Operand) (t : TypeId) (hop : o.op = Op.mapUpdate t m x v)
    (h : KeyType P kt kv) (el : TypeId) (ht : P.underlying t = some (.map kt el)) (b : Nat) (l : List (κ × Value)) (hmap : MapIs w kv b l) (k : κ) (val : Value)
    (hm : a.eval m = .map (some b)) (hx : a.eval x = kv k) (hv : a.eval v = val)
    (hK : ∀ w', MapIs w' kv b (aput k val l) → w.grownBy w' (some b) → w'.heap.size = w.heap.size → K (a.put o.dst undef) w') : o.wp P a w K Q := by
  obtain ⟨w', hrun, r1, r2, r3⟩ := hmap.store h t el ht k val
  unfold Oper.wp
  simp [execOp, hop, hm, hx, hv, hrun, Result.andThen]
  exact hK w' r1 r2 r3
theorem wpList_mapUpdate_is {ops : Array Oper} {rest : List Oper} {o : Oper} {a : Act} {Q : Exit → Act → World → Prop} (w : World) (hg : o.guard = none) (m x v : Operand) (t : TypeId) (hop : o.op = Op.mapUpdate t m x v)
    (h : KeyType P kt kv) (el : TypeId) (ht : P.underlying t = some (.map kt el)) (b : Nat) (l : List (κ × Value)) (hmap : MapIs w kv b l) (k : κ) (val : Value)
    (hm : a.eval m = .map (some b)) (hx : a.eval x = kv k) (hv : a.eval v = val)
    (hK : ∀ w', MapIs w' kv b (aput k val l) → w.grownBy w' (some b) → w'.heap.size = w.heap.size → wpList P ops Q rest (a.put o.dst undef) w') : wpList P ops Q (o :: rest) a w :=
  wpList_plain hg fun K' hK' => wp_mapUpdate_is w m x v t hop h el ht b l hmap k val hm hx hv fun w' r1 r2 r3 => hK' _ _ (hK w' r1 r2 r3)
theorem step_mapUpdate_is {ops : Array Oper} {o : Oper} {a : Act} {K : Act → World → Prop} {Q : Exit → Act → World → Prop} {E : Prop} (w : World) (hg : o.guard = none) (m x v : Operand) (t : TypeId) (hop : o.op = Op.mapUpdate t m x v)
    (h : KeyType P kt kv) (el : TypeId) (ht : P.underlying t = some (.map kt el)) (b : Nat) (l : List (κ × Value)) (hmap : MapIs w kv b l) (k : κ) (val : Value)
    (hm : a.eval m = .map (some b)) (hx : a.eval x = kv k) (hv : a.eval v = val)
    (hK : ∀ w', MapIs w' kv b (aput k val l) → w.grownBy w' (some b) → w'.heap.size = w.heap.size → K (a.put o.dst undef) w') :
    if Region.wanted o (yielded ops a.tmps) = true then Oper.wp P o a w K Q else E := by
  have hw : Region.wanted o (yielded ops a.tmps) = true := by simp [Region.wanted, hg]
  rw [if_pos hw]
  exact wp_mapUpdate_is w m x v t hop h el ht b l hmap k val hm hx hv hK
end
end Go.Proofs.YtaplecncnkkigaaDoor

/- Maps from texts to bytes: what they hold, as a list; look-ups, stores, deletes, the length. No conditions. -/
namespace Go.Proofs.YtaplecncnkkigaaDoor
set_option linter.unusedVariables false
open Go.RowKit Go.Instr

def ss (k : List UInt8) : Value := .string ⟨k.toArray⟩
theorem bytes_beq_refl (a : ByteArray) : (a == a) = true := by rw [beq_toListBytes]; simp
theorem ss_beq (a b : List UInt8) : ((⟨a.toArray⟩ : ByteArray) == ⟨b.toArray⟩) = decide (a = b) := by
  rw [beq_toListBytes, Bool.eq_iff_iff]; simp
theorem ss_run (w : World) (a b : List UInt8) : (Op.equalIn 10000 9 (ss a) (ss b)).run Tryd.prog w = .ok (decide (a = b)) w := by
  simp only [ss]
  rw [show (10000 : Nat) = 9999 + 1 from rfl, run_equalIn_string w 9999 9 _ _ Tryd.underlying9]
  simp only [ByteArray.toList_mk]
  rw [show (a == b) = decide (a = b) by rw [Bool.eq_iff_iff]; simp]
theorem ss_type : KeyType Tryd.prog 9 ss where
  check := fun e w k => by
    rw [show (10000 : Nat) = 9999 + 1 from rfl, checkKey]
    simp [run_underlying Tryd.underlying9, ss]
  equal := fun w a b => by
    exact ss_run w a b
  now := ⟨_, Tryd.underlying9, fun k E l i hE => .inr (by
    induction E generalizing l i with
    | nil => cases l with
      | nil => rfl
      | cons x l => simp at hE
    | cons e E ih => cases l with
      | nil => simp at hE
      | cons x l =>
        simp only [List.map_cons, List.cons.injEq, Prod.mk.injEq] at hE
        obtain ⟨⟨h1, h2⟩, h3⟩ := hE
        simp only [findNow, h1, ss, sameNow, ss_beq, assoc]
        by_cases hk : k = x.1
        · simp [hk, h2]
        · simp only [hk, decide_false]
          exact ih l (i + 1) h3)⟩
  stays := fun k => by simp [ss, sameBits, bytes_beq_refl]

section
variable {P : Program} {kt : TypeId} {κ : Type} [DecidableEq κ] {kv : κ → Value}
/-- the list without the first entry of a key -/
def adel (k : κ) : List (κ × Value) → List (κ × Value)
  | [] => []
  | x :: l => if k = x.1 then l else x :: adel k l
theorem adel_some {k : κ} : ∀ {l : List (κ × Value)} {i j : Nat} {v : Value}, assoc k l i = some (j, v) → ∃ n, j = i + n ∧ n < l.length ∧ adel k l = l.eraseIdx n
  | [], _, _, _, h => by simp [assoc] at h
  | x :: l, i, j, v, h => by
    simp only [assoc] at h
    by_cases hk : k = x.1
    · rw [if_pos hk] at h
      injection h with h
      injection h with h1 h2
      exact ⟨0, by omega, by simp, by simp [adel, hk]⟩
    · rw [if_neg hk] at h
      obtain ⟨n, h1, h2, h3⟩ := adel_some h
      exact ⟨n + 1, by omega, by simpa using h2, by simp [adel, hk, h3]⟩
theorem adel_none {k : κ} : ∀ {l : List (κ × Value)} {i : Nat}, assoc k l i = none → adel k l = l
  | [], _, _ => rfl
  | x :: l, i, h => by
    simp only [assoc] at h
    by_cases hk : k = x.1
    · rw [if_pos hk] at h; simp at h
    · rw [if_neg hk] at h
      simp [adel, hk, adel_none h]
theorem map_erase {α β : Type} (f : α → β) : ∀ (l : List α) (n : Nat), (l.eraseIdx n).map f = (l.map f).eraseIdx n
  | [], _ => by simp
  | x :: l, 0 => by simp
  | x :: l, n + 1 => by simp [map_erase f l n]
theorem MapIs.drop {w : World} {b : Nat} {l : List (κ × Value)} (hm : MapIs w kv b l) (h : KeyType P kt kv) (t el : TypeId) (ht : P.underlying t = some (.map kt el)) (k : κ) (k2 ty : TypeId) :
    ∃ w', (Builtin.delete_ #[t, k2] ty #[.map (some b), kv k]).run P w = .ok (.tuple #[]) w' ∧ MapIs w' kv b (adel k l) ∧ w.grownBy w' (some b) ∧ w'.heap.size = w.heap.size := by
  obtain ⟨E, clock, hb, hE⟩ := hm
  have hf := run_findKey_is h w k E.toList l hE
  have hg : (getObj b : Sem Obj).run P w = .ok (.map E clock) w := by simp [getObj, Sem.run, hb]
  have hlt : b < w.heap.size := by
    rcases Nat.lt_or_ge b w.heap.size with g | g
    · exact g
    · rw [Array.getElem?_eq_none g] at hb; cases hb
  have hset : ∀ (E' : Array MapEntry) (c' : Nat), (setObj b (.map E' c') : Sem Unit).run P w = .ok () { w with heap := w.heap.setIfInBounds b (.map E' c') } := by
    intro E' c'; simp [setObj, Sem.run, hb]
  have fin : ∀ (E' : Array MapEntry) (c' : Nat), E'.toList.map (fun e => (e.key, e.val)) = (adel k l).map (fun x => (kv x.1, x.2)) →
      MapIs { w with heap := w.heap.setIfInBounds b (.map E' c') } kv b (adel k l) ∧ w.grownBy { w with heap := w.heap.setIfInBounds b (.map E' c') } (some b) ∧ ({ w with heap := w.heap.setIfInBounds b (.map E' c') } : World).heap.size = w.heap.size := by
    intro E' c' hE'
    refine ⟨⟨E', c', by simp [hlt], hE'⟩, ⟨rfl, rfl, rfl, by simp, fun j hj hne => ?_⟩, by simp⟩
    show (w.heap.setIfInBounds b _)[j]? = _
    rw [Array.getElem?_setIfInBounds_ne (fun e => hne (by rw [e]))]
  unfold Builtin.delete_
  simp only [Sem.run_bind, run_underlying ht, Result.andThen_ok, hg, h.check, hf, List.getElem?_toArray, List.getElem?_cons_zero, List.getElem?_cons_succ]
  cases ha : assoc k l 0 with
  | none =>
    have := fin E clock (by rw [adel_none ha]; exact hE)
    refine ⟨_, ?_, this⟩
    simp [hset]
  | some r =>
    obtain ⟨j, u⟩ := r
    obtain ⟨n, hj, hn, hp⟩ := adel_some ha
    have hjn : j = n := by omega
    subst hjn
    have hl : E.toList.length = l.length := by have := congrArg List.length hE; simpa using this
    have := fin (E.eraseIdxIfInBounds j) clock (by
      rw [hp, Array.toList_eraseIdxIfInBounds, map_erase, hE, map_erase])
    refine ⟨_, ?_, this⟩
    simp [hset]
theorem wpList_delete_is {ops : Array Oper} {rest : List Oper} {o : Oper} {a : Act} {Q : Exit → Act → World → Prop} (w : World) (hg : o.guard = none) (m x : Operand) (t k2 : TypeId) (hop : o.op = Op.call { callee := Callee.builtin Builtin.delete, args := #[m, x], argTypes := #[t, k2] })
    (h : KeyType P kt kv) (el : TypeId) (ht : P.underlying t = some (.map kt el)) (b : Nat) (l : List (κ × Value)) (hmap : MapIs w kv b l) (k : κ)
    (hm : a.eval m = .map (some b)) (hx : a.eval x = kv k)
    (hK : ∀ w', MapIs w' kv b (adel k l) → w.grownBy w' (some b) → w'.heap.size = w.heap.size → wpList P ops Q rest (a.put o.dst (.tuple #[])) w') : wpList P ops Q (o :: rest) a w := by
  refine wpList_plain hg fun K' hK' => ?_
  obtain ⟨w', hrun, r1, r2, r3⟩ := hmap.drop h t el ht k k2 o.type
  unfold Oper.wp
  simp [execOp, hop, resolve, invoke, builtin, hm, hx, hrun, Result.andThen]
  exact hK' _ _ (hK w' r1 r2 r3)
end
theorem MapIs.len_run {P : Program} {κ : Type} {kv : κ → Value} {w : World} {b : Nat} {l : List (κ × Value)} (hm : MapIs w kv b l) {t k el : TypeId} (ht : P.underlying t = some (.map k el)) (ty : TypeId) : (Builtin.len_ #[t] ty #[.map (some b)]).run P w = .ok (.int .i64 (l.length : Int)) w := by
  obtain ⟨E, clock, hb, hE⟩ := hm
  have hg : (getObj b : Sem Obj).run P w = .ok (.map E clock) w := by simp [getObj, Sem.run, hb]
  have hl : E.size = l.length := by have := congrArg List.length hE; simpa using this
  unfold Builtin.len_
  simp [Sem.run_bind, run_underlying ht, hg, hl, goInt]

def lookB (D : List (List UInt8 × List UInt8)) (k : List UInt8) : Option (List UInt8) := match D with
  | [] => none
  | x :: l => if k = x.1 then some x.2 else lookB l k
def putB (D : List (List UInt8 × List UInt8)) (k v : List UInt8) : List (List UInt8 × List UInt8) := match D with
  | [] => [(k, v)]
  | x :: l => if k = x.1 then (k, v) :: l else x :: putB l k v
def delB (D : List (List UInt8 × List UInt8)) (k : List UInt8) : List (List UInt8 × List UInt8) := match D with
  | [] => []
  | x :: l => if k = x.1 then l else x :: delB l k

/-- entries that read as these keys and bytes -/
def Ents (w : World) : List (List UInt8 × List UInt8) → List (List UInt8 × Value) → Prop
  | [], [] => True
  | x :: D, y :: vs => y.1 = x.1 ∧ (∃ A c, y.2 = .slice A x.2.length c ∧ Reads w w.heap.size 1 A x.2.length (bvals x.2)) ∧ Ents w D vs
  | _, _ => False
theorem Ents.keep {w w' : World} : ∀ {D : List (List UInt8 × List UInt8)} {vs : List (List UInt8 × Value)}, (∀ A n l, Reads w w.heap.size 1 A n (bvals l) → Reads w' w'.heap.size 1 A n (bvals l)) → Ents w D vs → Ents w' D vs
  | [], [], _, _ => trivial
  | [], _ :: _, _, h => h.elim
  | _ :: _, [], _, h => h.elim
  | x :: D, y :: vs, hk, h => by
    obtain ⟨h1, ⟨A, c, h2, h3⟩, h4⟩ := h
    exact ⟨h1, ⟨A, c, h2, hk _ _ _ h3⟩, Ents.keep hk h4⟩
theorem Ents.look {w : World} (k : List UInt8) : ∀ {D : List (List UInt8 × List UInt8)} {vs : List (List UInt8 × Value)} (i : Nat), Ents w D vs →
    (lookB D k = none ∧ assoc k vs i = none) ∨ ∃ v j A c, lookB D k = some v ∧ assoc k vs i = some (j, .slice A v.length c) ∧ Reads w w.heap.size 1 A v.length (bvals v)
  | [], [], _, _ => .inl ⟨rfl, rfl⟩
  | [], _ :: _, _, h => h.elim
  | _ :: _, [], _, h => h.elim
  | x :: D, y :: vs, i, h => by
    obtain ⟨h1, ⟨A, c, h2, h3⟩, h4⟩ := h
    simp only [lookB, assoc, h1]
    by_cases hk : k = x.1
    · rw [if_pos hk, if_pos hk, h2]
      exact .inr ⟨x.2, i, A, c, rfl, rfl, h3⟩
    · rw [if_neg hk, if_neg hk]
      exact Ents.look k (i + 1) h4
theorem Ents.put {w : World} (k v : List UInt8) (A : Option Addr) (c : Nat) (hv : Reads w w.heap.size 1 A v.length (bvals v)) : ∀ {D : List (List UInt8 × List UInt8)} {vs : List (List UInt8 × Value)}, Ents w D vs → Ents w (putB D k v) (aput k (.slice A v.length c) vs)
  | [], [], _ => ⟨rfl, ⟨A, c, rfl, hv⟩, trivial⟩
  | [], _ :: _, h => h.elim
  | _ :: _, [], h => h.elim
  | x :: D, y :: vs, h => by
    obtain ⟨h1, h2, h4⟩ := h
    simp only [putB, aput, h1]
    by_cases hk : k = x.1
    · rw [if_pos hk, if_pos hk]
      exact ⟨rfl, ⟨A, c, rfl, hv⟩, h4⟩
    · rw [if_neg hk, if_neg hk]
      exact ⟨h1, h2, Ents.put k v A c hv h4⟩
theorem Ents.del {w : World} (k : List UInt8) : ∀ {D : List (List UInt8 × List UInt8)} {vs : List (List UInt8 × Value)}, Ents w D vs → Ents w (delB D k) (adel k vs)
  | [], [], _ => trivial
  | [], _ :: _, h => h.elim
  | _ :: _, [], h => h.elim
  | x :: D, y :: vs, h => by
    obtain ⟨h1, h2, h4⟩ := h
    simp only [delB, adel, h1]
    by_cases hk : k = x.1
    · rw [if_pos hk, if_pos hk]
      exact h4
    · rw [if_neg hk, if_neg hk]
      exact ⟨h1, h2, Ents.del k h4⟩
theorem Ents.length {w : World} : ∀ {D : List (List UInt8 × List UInt8)} {vs : List (List UInt8 × Value)}, Ents w D vs → vs.length = D.length
  | [], [], _ => rfl
  | [], _ :: _, h => h.elim
  | _ :: _, [], h => h.elim
  | x :: D, y :: vs, h => by simp [Ents.length h.2.2]
/-- block b is a map that holds these keys and bytes -/
structure BMap (w : World) (b : Nat) (D : List (List UInt8 × List UInt8)) : Prop where
  ex : ∃ vs, MapIs w ss b vs ∧ Ents w D vs
section
variable {w w' : World} {b : Nat} {D : List (List UInt8 × List UInt8)}
theorem MapIs.no_cell {κ : Type} {kv : κ → Value} {l : List (κ × Value)} (hm : MapIs w kv b l) (p : Addr) (hp : p.block = b) : w.cell? p = none := by
  obtain ⟨E, clock, hb, _⟩ := hm
  subst hp
  unfold World.cell?
  simp [hb]
theorem Reads.off_map {κ : Type} {kv : κ → Value} {l : List (κ × Value)} (hm : MapIs w kv b l) {B size n : Nat} {A : Option Addr} {xs : List Value} (hr : Reads w B size A n xs) (hB : B ≤ w.heap.size) (hg : w.grownBy w' (some b)) : Reads w' B size A n xs :=
  ⟨hr.1, fun hn => by
    obtain ⟨ad, e, hbl, hc⟩ := hr.2 hn
    refine ⟨ad, e, hbl, fun j u hu => ?_⟩
    have h1 := hc j u hu
    have hne : (ad.add j).block ≠ b := fun e2 => by rw [hm.no_cell _ e2] at h1; cases h1
    rw [World.cell?_of_block (hg.block (ad.add j).block (by rw [block_of_add]; omega) (by intro e; injection e with e; exact hne e))]
    exact h1⟩
theorem Ents.off_map {vs0 : List (List UInt8 × Value)} (hm : MapIs w ss b vs0) {D' : List (List UInt8 × List UInt8)} {vs : List (List UInt8 × Value)} (h : Ents w D' vs) (hg : w.grownBy w' (some b)) (hs : w'.heap.size = w.heap.size) : Ents w' D' vs :=
  h.keep fun A n l hr => by rw [hs]; exact hr.off_map hm (Nat.le_refl _) hg
theorem BMap.delete (h : BMap w b D) (k : List UInt8) : ∃ vs, MapIs w ss b vs ∧ ∀ w', MapIs w' ss b (adel k vs) → w.grownBy w' (some b) → w'.heap.size = w.heap.size → BMap w' b (delB D k) := by
  obtain ⟨vs, h1, h2⟩ := h.ex
  exact ⟨vs, h1, fun w' a1 a2 a3 => ⟨_, a1, (h2.del k).off_map h1 a2 a3⟩⟩
theorem BMap.store (h : BMap w b D) (k v : List UInt8) (A : Option Addr) (c : Nat) (hv : Reads w w.heap.size 1 A v.length (bvals v)) : ∃ vs, MapIs w ss b vs ∧ ∀ w', MapIs w' ss b (aput k (.slice A v.length c) vs) → w.grownBy w' (some b) → w'.heap.size = w.heap.size → BMap w' b (putB D k v) := by
  obtain ⟨vs, h1, h2⟩ := h.ex
  exact ⟨vs, h1, fun w' a1 a2 a3 => ⟨_, a1, (h2.put k v A c hv).off_map h1 a2 a3⟩⟩
theorem BMap.made (w : World) (c : Nat) : BMap (w.alloc (.map #[] c)) w.heap.size [] := ⟨[], MapIs.made w c, trivial⟩
theorem BMap.lt (h : BMap w b D) : b < w.heap.size := by obtain ⟨vs, h1, _⟩ := h.ex; exact h1.lt
theorem BMap.next (h : BMap w b D) (hb : Below w.heap.size w w') : BMap w' b D := by
  obtain ⟨vs, h1, h2⟩ := h.ex
  exact ⟨vs, h1.kept (hb.block b h1.lt), h2.keep fun A n l hr => (hr.below hb).more hb.size⟩
/-- what a look-up finds, and what its bytes are as a text; in whatever world behind -/
theorem BMap.get (h : BMap w b D) {t : TypeId} (ht : Tryd.prog.underlying t = some (.map 9 61)) (k : List UInt8) :
    ∃ A n c, (∀ W, Below w.heap.size w W → (lookup t (.map (some b)) (ss k) false).run Tryd.prog W = .ok (.slice A n c) W) ∧
      (∀ W, Below w.heap.size w W → (convert 61 9 (.slice A n c)).run Tryd.prog W = .ok (.string ⟨((lookB D k).getD []).toArray⟩) W) ∧
      (∀ W, Below w.heap.size w W → (lookup t (.map (some b)) (ss k) true).run Tryd.prog W = .ok (.tuple #[.slice A n c, .bool (lookB D k).isSome]) W) := by
  have hz : ∀ W, (zeroValue 61).run Tryd.prog W = .ok (.slice none 0 0) W := fun W => by kernel_rfl
  obtain ⟨vs, h1, h2⟩ := h.ex
  rcases h2.look k 0 with ⟨e1, e2⟩ | ⟨v, j, A, c, e1, e2, e3⟩
  · refine ⟨none, 0, 0, fun W hW => ?_, fun W hW => ?_, fun W hW => ?_⟩
    · rw [(h1.kept (hW.block b h1.lt)).look ss_type t _ ht _ (hz W) k false, e2]; rfl
    · rw [e1]
      exact conv_reads W W.heap.size none 0 0 [] Reads.none_
    · rw [(h1.kept (hW.block b h1.lt)).look ss_type t _ ht _ (hz W) k true, e2, e1]; rfl
  · refine ⟨A, v.length, c, fun W hW => ?_, fun W hW => ?_, fun W hW => ?_⟩
    · rw [(h1.kept (hW.block b h1.lt)).look ss_type t _ ht _ (hz W) k false, e2]; rfl
    · rw [e1]
      exact conv_reads W W.heap.size A _ c v ((e3.below hW).more hW.size)
    · rw [(h1.kept (hW.block b h1.lt)).look ss_type t _ ht _ (hz W) k true, e2, e1]; rfl
theorem BMap.len (h : BMap w b D) {t k el : TypeId} (ht : Tryd.prog.underlying t = some (.map k el)) (ty : TypeId) : (Builtin.len_ #[t] ty #[.map (some b)]).run Tryd.prog w = .ok (.int .i64 (D.length : Int)) w := by
  obtain ⟨vs, h1, h2⟩ := h.ex
  rw [h1.len_run ht, h2.length]
end
end Go.Proofs.YtaplecncnkkigaaDoor

/- Plain laws: a map of keys and values behind any acts, and the trie behind them. No program in sight. -/
namespace Go.Proofs.YtaplecncnkkigaaDoor
set_option linter.unusedVariables false
theorem lookB_none {D : List (List UInt8 × List UInt8)} {k : List UInt8} : lookB D k = none ↔ k ∉ D.map (·.1) := by
  induction D with
  | nil => simp [lookB]
  | cons x D ih =>
    simp only [lookB, List.map_cons, List.mem_cons]
    by_cases h : k = x.1 <;> simp [h, ih]
theorem lookB_put (D : List (List UInt8 × List UInt8)) (k v q : List UInt8) : lookB (putB D k v) q = if q = k then some v else lookB D q := by
  induction D with
  | nil => simp [putB, lookB]
  | cons x D ih =>
    simp only [putB]
    by_cases h : k = x.1
    · rw [if_pos h]
      simp only [lookB]
      by_cases h2 : q = k
      · simp [h2]
      · rw [if_neg h2, if_neg h2, if_neg (by rw [← h]; exact h2)]
    · rw [if_neg h]
      simp only [lookB, ih]
      by_cases h2 : q = x.1
      · subst h2
        rw [if_pos rfl, if_neg (fun e : x.1 = k => h e.symm), if_pos rfl]
      · simp [h2]
theorem keys_put (D : List (List UInt8 × List UInt8)) (k v : List UInt8) : (putB D k v).map (·.1) = if k ∈ D.map (·.1) then D.map (·.1) else D.map (·.1) ++ [k] := by
  induction D with
  | nil => simp [putB]
  | cons x D ih =>
    simp only [putB]
    by_cases h : k = x.1
    · rw [if_pos h]; simp [h]
    · rw [if_neg h, List.map_cons, ih]
      simp only [List.map_cons, List.mem_cons, h, false_or]
      split <;> simp
theorem sub_del (D : List (List UInt8 × List UInt8)) (k : List UInt8) : (delB D k).Sublist D := by
  induction D with
  | nil => exact List.Sublist.slnil
  | cons x D ih =>
    simp only [delB]
    split
    · exact List.sublist_cons_self _ _
    · exact ih.cons_cons _
theorem lookB_del {D : List (List UInt8 × List UInt8)} (hn : (D.map (·.1)).Nodup) (k q : List UInt8) : lookB (delB D k) q = if q = k then none else lookB D q := by
  induction D with
  | nil => simp [delB, lookB]
  | cons x D ih =>
    rw [List.map_cons, List.nodup_cons] at hn
    simp only [delB]
    by_cases h : k = x.1
    · rw [if_pos h]
      simp only [lookB]
      by_cases h2 : q = k
      · subst h2
        rw [if_pos rfl, lookB_none, h]
        exact hn.1
      · rw [if_neg h2, if_neg (by rw [← h]; exact h2)]
    · rw [if_neg h]
      simp only [lookB, ih hn.2]
      by_cases h2 : q = x.1
      · subst h2
        rw [if_pos rfl, if_neg (fun e : x.1 = k => h e.symm), if_pos rfl]
      · simp [h2]
theorem nodup_of_map {α β : Type} {f : α → β} {l : List α} (h : (l.map f).Nodup) : l.Nodup := by
  rw [List.Nodup, List.pairwise_map] at h
  exact h.imp fun hne e => hne (by rw [e])
namespace Trie
/-- a map and a trie that hold the same -/
structure Wt (D : List KV) (t : T) : Prop where
  nodup : (D.map (·.1)).Nodup
  full : ∀ x ∈ D, x.2 ≠ []
  look : ∀ k, (lookB D k).getD [] = look t (Nib.of k)
theorem Wt.nil : Wt [] .nil := ⟨by simp, by simp, fun k => rfl⟩
theorem lookB_mem {D : List KV} (hn : (D.map (·.1)).Nodup) (k v : List UInt8) : (k, v) ∈ D ↔ lookB D k = some v := by
  induction D with
  | nil => simp [lookB]
  | cons x D ih =>
    rw [List.map_cons, List.nodup_cons] at hn
    simp only [List.mem_cons, lookB]
    by_cases h : k = x.1
    · subst h
      rw [if_pos rfl]
      constructor
      · rintro (e | e)
        · rw [← e]
        · exact absurd (List.mem_map.2 ⟨_, e, rfl⟩) hn.1
      · intro e
        injection e with e
        exact .inl (by rw [← e])
    · rw [if_neg h, ih hn.2]
      constructor
      · rintro (e | e)
        · exact absurd (by rw [← e]) h
        · exact e
      · exact .inr
theorem Wt.perm {D : List KV} {t : T} (h : Wt D t) (hg : Good t) : D.Perm (itemsW t) := by
  have n1 : D.Nodup := nodup_of_map h.nodup
  have n2 : (itemsW t).Nodup := nodup_of_map (keys_nodup hg)
  refine (List.perm_ext_iff_of_nodup n1 n2).2 fun x => ?_
  obtain ⟨k, v⟩ := x
  rw [mem_itemsW hg, lookB_mem h.nodup, ← h.look k]
  constructor
  · intro e
    rw [e]
    exact ⟨rfl, h.full _ ((lookB_mem h.nodup k v).2 e)⟩
  · rintro ⟨e, hv⟩
    cases hl : lookB D k with
    | none => rw [hl] at e; exact absurd e.symm hv
    | some u => rw [hl] at e; simp at e; rw [e]
theorem Wt.length {D : List KV} {t : T} (h : Wt D t) (hg : Good t) : D.length = count t := by rw [(h.perm hg).length_eq, itemsW_length]
/-- an act on the map -/
def actB (D : List KV) (a : Act10) : List KV :=
  if 1 < a.kind then delB D a.key else if putCode a.key a.value = 0 then putB D a.key a.value else D
theorem Wt.act {D : List KV} {t : T} (h : Wt D t) (hg : Good t) (a : Act10) : Wt (actB D a) (actW t a) := by
  unfold actB actW
  by_cases hk : 1 < a.kind
  · rw [if_pos hk, if_pos hk]
    have hnd : ((delB D a.key).map (·.1)).Nodup := h.nodup.sublist ((sub_del D a.key).map _)
    have hfl : ∀ x ∈ delB D a.key, x.2 ≠ [] := fun x hx => h.full x ((sub_del D a.key).subset hx)
    by_cases hc : (getW t a.key).2 = 0
    · rw [if_pos hc]
      obtain ⟨_, hl⟩ := getW_code hc
      refine ⟨hnd, hfl, fun k => ?_⟩
      rw [lookB_del h.nodup, (del_spec t _ hg.wf (Nib.fit_of _) hl).2.1 _ (Nib.fit_of k)]
      by_cases e : k = a.key
      · subst e; simp
      · rw [if_neg e, if_neg (fun e2 => e (Nib.of_inj e2)), h.look]
    · rw [if_neg hc]
      refine ⟨hnd, hfl, fun k => ?_⟩
      rw [lookB_del h.nodup]
      by_cases e : k = a.key
      · subst e
        rw [if_pos rfl]
        symm
        by_cases hl : Trie.look t (Nib.of a.key) = []
        · rw [hl]; rfl
        · exfalso
          apply hc
          have hm : (a.key, Trie.look t (Nib.of a.key)) ∈ itemsW t := (mem_itemsW hg _ _).2 ⟨rfl, hl⟩
          have h0 := item_code hg hm
          unfold getW
          rw [if_pos (putCode_zero h0).1, if_neg (by simpa using hl)]
      · rw [if_neg e, h.look]
  · rw [if_neg hk, if_neg hk]
    by_cases hp : putCode a.key a.value = 0
    · rw [if_pos hp, if_pos hp]
      obtain ⟨_, hv, _⟩ := putCode_zero hp
      refine ⟨?_, ?_, fun k => ?_⟩
      · rw [keys_put]
        split
        · exact h.nodup
        · rename_i hn
          rw [List.nodup_append]
          exact ⟨h.nodup, by simp, fun x hx y hy => by simp at hy; subst hy; intro e; subst e; exact hn hx⟩
      · intro x hx
        obtain ⟨k, v⟩ := x
        have hnd : ((putB D a.key a.value).map (·.1)).Nodup := by
          rw [keys_put]
          split
          · exact h.nodup
          · rename_i hn
            rw [List.nodup_append]
            exact ⟨h.nodup, by simp, fun x hx y hy => by simp at hy; subst hy; intro e; subst e; exact hn hx⟩
        have hl := (lookB_mem hnd k v).1 hx
        rw [lookB_put] at hl
        split at hl
        · injection hl with hl; rw [← hl]; exact hv
        · exact h.full _ ((lookB_mem h.nodup k v).2 hl)
      · rw [lookB_put, (put_spec t _ a.value hg.wf (Nib.fit_of _) hv).2.1 _ (Nib.fit_of k)]
        by_cases e : k = a.key
        · subst e; simp
        · rw [if_neg e, if_neg (fun e2 => e (Nib.of_inj e2)), h.look]
    · rw [if_neg hp, if_neg hp]
      exact h
theorem Wt.acts : ∀ (L : List Act10) (D : List KV) (t : T), Wt D t → Good t → Wt (L.foldl actB D) (L.foldl actW t)
  | [], _, _, h, _ => h
  | a :: L, D, t, h, hg => Wt.acts L _ _ (h.act hg a) (hg.act a)
end Trie
end Go.Proofs.YtaplecncnkkigaaDoor
