import Derived.Test.YtefcmigbdfeaiaaDoorJ01
import Derived.Laws.StructEq
import Derived.Maps.OwnOps
import Derived.Maps.OwnSet
import Derived.Test.YtefcmigbdfeaiaaDoorJ18
import Derived.Test.YtefcmigbdfeaiaaDoorJ29
import Derived.Test.YtefcmigbdfeaiaaDoorJ40
import Derived.Maps.AppendAt
set_option linter.unusedSimpArgs false
set_option linter.unusedVariables false
namespace Go.Proofs.YtefcmigbdfeaiaaDoor
set_option linter.unusedVariables false
open Go.RowKit Go.Instr
section
variable {κ : Type} {kv : κ → Value}
def MapIs (w : World) (kv : κ → Value) (b : Nat) (l : List (κ × Value)) : Prop :=
  ∃ E clock, w.heap[b]? = some (.map E clock) ∧ E.toList.map (fun e => (e.key, e.val)) = l.map (fun x => (kv x.1, x.2))
theorem MapIs.kept {w w' : World} {b : Nat} {l : List (κ × Value)} (hm : MapIs w kv b l) (h : w'.heap[b]? = w.heap[b]?) : MapIs w' kv b l := by
  obtain ⟨E, clock, hb, hE⟩ := hm
  exact ⟨E, clock, h.trans hb, hE⟩
theorem MapIs.lt {w : World} {b : Nat} {l : List (κ × Value)} (hm : MapIs w kv b l) : b < w.heap.size := by
  obtain ⟨E, clock, hb, _⟩ := hm
  rcases Nat.lt_or_ge b w.heap.size with g | g
  · exact g
  · rw [Array.getElem?_eq_none g] at hb; cases hb
theorem MapIs.made (w : World) (c : Nat) : MapIs (w.alloc (.map #[] c)) kv w.heap.size [] := ⟨#[], c, heap_alloc_new w _, rfl⟩
end
def assoc {κ : Type} [DecidableEq κ] (k : κ) : List (κ × Value) → Nat → Option (Nat × Value)
  | [], _ => none
  | x :: l, i => if k = x.1 then some (i, x.2) else assoc k l (i + 1)
structure KeyType (P : Program) (kt : TypeId) {κ : Type} [DecidableEq κ] (kv : κ → Value) : Prop where
  check : ∀ e w k, (checkKey e 10000 kt (kv k)).run P w = .ok () w
  equal : ∀ w a b, (Op.equal kt (kv a) (kv b)).run P w = .ok (decide (a = b)) w
  now : ∃ u, P.underlying kt = some u ∧ ∀ k (E : List MapEntry) (l : List (κ × Value)) i, E.map (fun e => (e.key, e.val)) = l.map (fun x => (kv x.1, x.2)) → findNow u (kv k) E i = none ∨ findNow u (kv k) E i = some (assoc k l i)
  stays : ∀ k, sameBits 10000 (kv k) (kv k) = true
section
variable {P : Program} {kt : TypeId} {κ : Type} [DecidableEq κ] {kv : κ → Value}
theorem run_findAsking_is (h : KeyType P kt kv) (w : World) (k : κ) : ∀ (E : List MapEntry) (l : List (κ × Value)) (i : Nat), E.map (fun e => (e.key, e.val)) = l.map (fun x => (kv x.1, x.2)) → (findAsking kt (kv k) E i).run P w = .ok (assoc k l i) w
  | [], [], i, _ => by simp [findAsking, assoc]
  | [], _ :: _, _, hE => by simp at hE
  | _ :: _, [], _, hE => by simp at hE
  | e :: E, x :: l, i, hE => by
    simp only [List.map_cons, List.cons.injEq, Prod.mk.injEq] at hE
    obtain ⟨⟨h1, h2⟩, h3⟩ := hE
    have ih := run_findAsking_is h w k E l (i + 1) h3
    simp only [findAsking, Sem.run_bind, h1, h.equal, Result.andThen_ok, assoc]
    by_cases hk : k = x.1
    · simp [hk, h2]
    · simp [hk, ih]
theorem run_findKey_is (h : KeyType P kt kv) (w : World) (k : κ) (E : List MapEntry) (l : List (κ × Value)) (hE : E.map (fun e => (e.key, e.val)) = l.map (fun x => (kv x.1, x.2))) : (findKey kt (kv k) E).run P w = .ok (assoc k l 0) w := by
  obtain ⟨u, hu, hn⟩ := h.now
  have hf := run_findAsking_is h w k E l 0 hE
  unfold findKey
  simp only [Sem.run_bind, run_underlying hu, Result.andThen_ok]
  rcases hn k E l 0 hE with e | e
  · simp [e, hf]
  · simp [e]
theorem MapIs.look {w : World} {b : Nat} {l : List (κ × Value)} (hm : MapIs w kv b l) (h : KeyType P kt kv) (t el : TypeId) (ht : P.underlying t = some (.map kt el)) (z : Value) (hz : (zeroValue el).run P w = .ok z w) (k : κ) (ok : Bool) :
    (lookup t (.map (some b)) (kv k) ok).run P w = .ok (let r := match assoc k l 0 with | some (_, v) => (v, true) | none => (z, false); if ok then .tuple #[r.1, .bool r.2] else r.1) w := by
  obtain ⟨E, clock, hb, hE⟩ := hm
  have hf := run_findKey_is h w k E.toList l hE
  have hg : (getObj b : Sem Obj).run P w = .ok (.map E clock) w := by simp [getObj, Sem.run, hb]
  unfold lookup
  simp only [Sem.run_bind, run_underlying ht, Result.andThen_ok, hg, Sem.run_pure, h.check, hf]
  cases assoc k l 0 with
  | none => simp [hz]
  | some r => simp
def aput (k : κ) (v : Value) : List (κ × Value) → List (κ × Value)
  | [] => [(k, v)]
  | x :: l => if k = x.1 then (k, v) :: l else x :: aput k v l
theorem assoc_some {k : κ} : ∀ {l : List (κ × Value)} {i j : Nat} {v : Value}, assoc k l i = some (j, v) → ∃ n, j = i + n ∧ l[n]? = some (k, v) ∧ ∀ u, aput k u l = l.set n (k, u)
  | [], _, _, _, h => by simp [assoc] at h
  | x :: l, i, j, v, h => by
    simp only [assoc] at h
    by_cases hk : k = x.1
    · rw [if_pos hk] at h
      injection h with h
      injection h with h1 h2
      exact ⟨0, by omega, by simp [hk, ← h2], fun u => by simp [aput, hk]⟩
    · rw [if_neg hk] at h
      obtain ⟨n, h1, h2, h3⟩ := assoc_some h
      exact ⟨n + 1, by omega, by simpa using h2, fun u => by simp [aput, hk, h3 u]⟩
theorem assoc_none {k : κ} : ∀ {l : List (κ × Value)} {i : Nat}, assoc k l i = none → ∀ u, aput k u l = l ++ [(k, u)]
  | [], _, _, u => rfl
  | x :: l, i, h, u => by
    simp only [assoc] at h
    by_cases hk : k = x.1
    · rw [if_pos hk] at h; simp at h
    · rw [if_neg hk] at h
      simp [aput, hk, assoc_none h u]
theorem MapIs.store {w : World} {b : Nat} {l : List (κ × Value)} (hm : MapIs w kv b l) (h : KeyType P kt kv) (t el : TypeId) (ht : P.underlying t = some (.map kt el)) (k : κ) (v : Value) :
    ∃ w', (mapUpdate t (.map (some b)) (kv k) v).run P w = .ok () w' ∧ MapIs w' kv b (aput k v l) ∧ w.grownBy w' (some b) ∧ w'.heap.size = w.heap.size := by
  obtain ⟨E, clock, hb, hE⟩ := hm
  have hf := run_findKey_is h w k E.toList l hE
  have hg : (getObj b : Sem Obj).run P w = .ok (.map E clock) w := by simp [getObj, Sem.run, hb]
  have hlt : b < w.heap.size := by
    rcases Nat.lt_or_ge b w.heap.size with g | g
    · exact g
    · rw [Array.getElem?_eq_none g] at hb; cases hb
  have hset : ∀ (o' : Obj) (E' : Array MapEntry) (c' : Nat), o' = .map E' c' → (setObj b o' : Sem Unit).run P w = .ok () { w with heap := w.heap.setIfInBounds b o' } := by
    intro o' E' c' e; simp [setObj, Sem.run, hb]
  have fin : ∀ (E' : Array MapEntry) (c' : Nat), E'.toList.map (fun e => (e.key, e.val)) = (aput k v l).map (fun x => (kv x.1, x.2)) →
      MapIs { w with heap := w.heap.setIfInBounds b (.map E' c') } kv b (aput k v l) ∧ w.grownBy { w with heap := w.heap.setIfInBounds b (.map E' c') } (some b) ∧ ({ w with heap := w.heap.setIfInBounds b (.map E' c') } : World).heap.size = w.heap.size := by
    intro E' c' hE'
    refine ⟨⟨E', c', by simp [hlt], hE'⟩, ⟨rfl, rfl, rfl, by simp, fun j hj hne => ?_⟩, by simp⟩
    show (w.heap.setIfInBounds b _)[j]? = _
    rw [Array.getElem?_setIfInBounds_ne (fun e => hne (by rw [e]))]
  unfold mapUpdate
  simp only [Sem.run_bind, run_underlying ht, Result.andThen_ok, hg, h.check, hf]
  cases ha : assoc k l 0 with
  | none =>
    have := fin (E.push { key := kv k, val := v, born := clock }) (clock + 1) (by
      rw [assoc_none ha v]; simp [hE])
    exact ⟨_, hset _ _ _ rfl, this⟩
  | some r =>
    obtain ⟨j, u⟩ := r
    obtain ⟨n, hj, hn, hp⟩ := assoc_some ha
    have hjn : j = n := by omega
    subst hjn
    have hl : E.toList.length = l.length := by have := congrArg List.length hE; simpa using this
    have hnl : j < l.length := (List.getElem?_eq_some_iff.1 hn).1
    have hkey : ((E[j]?).map (·.key)).getD (kv k) = kv k := by
      have h1 := congrArg (fun x => x[j]?) hE
      simp only [List.getElem?_map, hn] at h1
      have h2 : j < E.size := by have e : E.toList.length = E.size := Array.length_toList; omega
      simp [Array.getElem?_eq_getElem h2] at h1 ⊢
      exact h1.1
    have := fin (E.modify j fun e => { e with key := kv k, val := v }) clock (by
      rw [hp v]
      apply List.ext_getElem?
      intro m
      have h1 := congrArg (fun x => x[m]?) hE
      simp only [List.getElem?_map] at h1
      by_cases hm : j = m
      · subst hm
        have h2 : j < E.size := by have e : E.toList.length = E.size := Array.length_toList; omega
        simp [Array.toList_modify, h2, hnl]
      · simp [Array.toList_modify, hm, List.getElem?_set_ne hm]
        simpa using h1)
    refine ⟨_, ?_, this⟩
    simp only [hkey, keyThatStays, h.stays, if_true]
    exact hset _ _ _ rfl
theorem wp_mapUpdate_is {o : Oper} {a : Act} {K : Act → World → Prop} {Q : Exit → Act → World → Prop} (w : World) (m x v : Operand) (t : TypeId) (hop : o.op = Op.mapUpdate t m x v)
    (h : KeyType P kt kv) (el : TypeId) (ht : P.underlying t = some (.map kt el)) (b : Nat) (l : List (κ × Value)) (hmap : MapIs w kv b l) (k : κ) (val : Value)
    (hm : a.eval m = .map (some b)) (hx : a.eval x = kv k) (hv : a.eval v = val)
    (hK : ∀ w', MapIs w' kv b (aput k val l) → w.grownBy w' (some b) → w'.heap.size = w.heap.size → K (a.put o.dst undef) w') : o.wp P a w K Q := by
  obtain ⟨w', hrun, r1, r2, r3⟩ := hmap.store h t el ht k val
  unfold Oper.wp
  simp [execOp, hop, hm, hx, hv, hrun, Result.andThen]
  exact hK w' r1 r2 r3
theorem wpList_mapUpdate_is {ops : Array Oper} {rest : List Oper} {o : Oper} {a : Act} {Q : Exit → Act → World → Prop} (w : World) (hg : o.guard = none) (m x v : Operand) (t : TypeId) (hop : o.op = Op.mapUpdate t m x v)
    (h : KeyType P kt kv) (el : TypeId) (ht : P.underlying t = some (.map kt el)) (b : Nat) (l : List (κ × Value)) (hmap : MapIs w kv b l) (k : κ) (val : Value)
    (hm : a.eval m = .map (some b)) (hx : a.eval x = kv k) (hv : a.eval v = val)
    (hK : ∀ w', MapIs w' kv b (aput k val l) → w.grownBy w' (some b) → w'.heap.size = w.heap.size → wpList P ops Q rest (a.put o.dst undef) w') : wpList P ops Q (o :: rest) a w :=
  wpList_plain hg fun K' hK' => wp_mapUpdate_is w m x v t hop h el ht b l hmap k val hm hx hv fun w' r1 r2 r3 => hK' _ _ (hK w' r1 r2 r3)
end
end Go.Proofs.YtefcmigbdfeaiaaDoor

namespace Go.Proofs.YtefcmigbdfeaiaaDoor
set_option linter.unusedVariables false
open Go.RowKit Go.Instr
def ss (k : List UInt8) : Value := .string ⟨k.toArray⟩
theorem bytes_beq_refl (a : ByteArray) : (a == a) = true := by rw [beq_toListBytes]; simp
theorem ss_beq (a b : List UInt8) : ((⟨a.toArray⟩ : ByteArray) == ⟨b.toArray⟩) = decide (a = b) := by
  rw [beq_toListBytes, Bool.eq_iff_iff]; simp
theorem ss_run (w : World) (a b : List UInt8) : (Op.equalIn 10000 9 (ss a) (ss b)).run Tryd.prog w = .ok (decide (a = b)) w := by
  simp only [ss]
  rw [show (10000 : Nat) = 9999 + 1 from rfl, run_equalIn_string w 9999 9 _ _ Tryd.underlying9]
  simp only [ByteArray.toList_mk]
  rw [show (a == b) = decide (a = b) by rw [Bool.eq_iff_iff]; simp]
theorem ss_type : KeyType Tryd.prog 9 ss where
  check := fun e w k => by
    rw [show (10000 : Nat) = 9999 + 1 from rfl, checkKey]
    simp [run_underlying Tryd.underlying9, ss]
  equal := fun w a b => by
    exact ss_run w a b
  now := ⟨_, Tryd.underlying9, fun k E l i hE => .inr (by
    induction E generalizing l i with
    | nil => cases l with
      | nil => rfl
      | cons x l => simp at hE
    | cons e E ih => cases l with
      | nil => simp at hE
      | cons x l =>
        simp only [List.map_cons, List.cons.injEq, Prod.mk.injEq] at hE
        obtain ⟨⟨h1, h2⟩, h3⟩ := hE
        simp only [findNow, h1, ss, sameNow, ss_beq, assoc]
        by_cases hk : k = x.1
        · simp [hk, h2]
        · simp only [hk, decide_false]
          exact ih l (i + 1) h3)⟩
  stays := fun k => by simp [ss, sameBits, bytes_beq_refl]
section
variable {P : Program} {kt : TypeId} {κ : Type} [DecidableEq κ] {kv : κ → Value}
def adel (k : κ) : List (κ × Value) → List (κ × Value)
  | [] => []
  | x :: l => if k = x.1 then l else x :: adel k l
theorem adel_some {k : κ} : ∀ {l : List (κ × Value)} {i j : Nat} {v : Value}, assoc k l i = some (j, v) → ∃ n, j = i + n ∧ n < l.length ∧ adel k l = l.eraseIdx n
  | [], _, _, _, h => by simp [assoc] at h
  | x :: l, i, j, v, h => by
    simp only [assoc] at h
    by_cases hk : k = x.1
    · rw [if_pos hk] at h
      injection h with h
      injection h with h1 h2
      exact ⟨0, by omega, by simp, by simp [adel, hk]⟩
    · rw [if_neg hk] at h
      obtain ⟨n, h1, h2, h3⟩ := adel_some h
      exact ⟨n + 1, by omega, by simpa using h2, by simp [adel, hk, h3]⟩
theorem adel_none {k : κ} : ∀ {l : List (κ × Value)} {i : Nat}, assoc k l i = none → adel k l = l
  | [], _, _ => rfl
  | x :: l, i, h => by
    simp only [assoc] at h
    by_cases hk : k = x.1
    · rw [if_pos hk] at h; simp at h
    · rw [if_neg hk] at h
      simp [adel, hk, adel_none h]
theorem map_erase {α β : Type} (f : α → β) : ∀ (l : List α) (n : Nat), (l.eraseIdx n).map f = (l.map f).eraseIdx n
  | [], _ => by simp
  | x :: l, 0 => by simp
  | x :: l, n + 1 => by simp [map_erase f l n]
theorem MapIs.drop {w : World} {b : Nat} {l : List (κ × Value)} (hm : MapIs w kv b l) (h : KeyType P kt kv) (t el : TypeId) (ht : P.underlying t = some (.map kt el)) (k : κ) (k2 ty : TypeId) :
    ∃ w', (Builtin.delete_ #[t, k2] ty #[.map (some b), kv k]).run P w = .ok (.tuple #[]) w' ∧ MapIs w' kv b (adel k l) ∧ w.grownBy w' (some b) ∧ w'.heap.size = w.heap.size := by
  obtain ⟨E, clock, hb, hE⟩ := hm
  have hf := run_findKey_is h w k E.toList l hE
  have hg : (getObj b : Sem Obj).run P w = .ok (.map E clock) w := by simp [getObj, Sem.run, hb]
  have hlt : b < w.heap.size := by
    rcases Nat.lt_or_ge b w.heap.size with g | g
    · exact g
    · rw [Array.getElem?_eq_none g] at hb; cases hb
  have hset : ∀ (E' : Array MapEntry) (c' : Nat), (setObj b (.map E' c') : Sem Unit).run P w = .ok () { w with heap := w.heap.setIfInBounds b (.map E' c') } := by
    intro E' c'; simp [setObj, Sem.run, hb]
  have fin : ∀ (E' : Array MapEntry) (c' : Nat), E'.toList.map (fun e => (e.key, e.val)) = (adel k l).map (fun x => (kv x.1, x.2)) →
      MapIs { w with heap := w.heap.setIfInBounds b (.map E' c') } kv b (adel k l) ∧ w.grownBy { w with heap := w.heap.setIfInBounds b (.map E' c') } (some b) ∧ ({ w with heap := w.heap.setIfInBounds b (.map E' c') } : World).heap.size = w.heap.size := by
    intro E' c' hE'
    refine ⟨⟨E', c', by simp [hlt], hE'⟩, ⟨rfl, rfl, rfl, by simp, fun j hj hne => ?_⟩, by simp⟩
    show (w.heap.setIfInBounds b _)[j]? = _
    rw [Array.getElem?_setIfInBounds_ne (fun e => hne (by rw [e]))]
  unfold Builtin.delete_
  simp only [Sem.run_bind, run_underlying ht, Result.andThen_ok, hg, h.check, hf, List.getElem?_toArray, List.getElem?_cons_zero, List.getElem?_cons_succ]
  cases ha : assoc k l 0 with
  | none =>
    have := fin E clock (by rw [adel_none ha]; exact hE)
    refine ⟨_, ?_, this⟩
    simp [hset]
  | some r =>
    obtain ⟨j, u⟩ := r
    obtain ⟨n, hj, hn, hp⟩ := adel_some ha
    have hjn : j = n := by omega
    subst hjn
    have hl : E.toList.length = l.length := by have := congrArg List.length hE; simpa using this
    have := fin (E.eraseIdxIfInBounds j) clock (by
      rw [hp, Array.toList_eraseIdxIfInBounds, map_erase, hE, map_erase])
    refine ⟨_, ?_, this⟩
    simp [hset]
end
theorem MapIs.len_run {P : Program} {κ : Type} {kv : κ → Value} {w : World} {b : Nat} {l : List (κ × Value)} (hm : MapIs w kv b l) {t k el : TypeId} (ht : P.underlying t = some (.map k el)) (ty : TypeId) : (Builtin.len_ #[t] ty #[.map (some b)]).run P w = .ok (.int .i64 (l.length : Int)) w := by
  obtain ⟨E, clock, hb, hE⟩ := hm
  have hg : (getObj b : Sem Obj).run P w = .ok (.map E clock) w := by simp [getObj, Sem.run, hb]
  have hl : E.size = l.length := by have := congrArg List.length hE; simpa using this
  unfold Builtin.len_
  simp [Sem.run_bind, run_underlying ht, hg, hl, goInt]
def lookB (D : List (List UInt8 × List UInt8)) (k : List UInt8) : Option (List UInt8) := match D with
  | [] => none
  | x :: l => if k = x.1 then some x.2 else lookB l k
def putB (D : List (List UInt8 × List UInt8)) (k v : List UInt8) : List (List UInt8 × List UInt8) := match D with
  | [] => [(k, v)]
  | x :: l => if k = x.1 then (k, v) :: l else x :: putB l k v
def delB (D : List (List UInt8 × List UInt8)) (k : List UInt8) : List (List UInt8 × List UInt8) := match D with
  | [] => []
  | x :: l => if k = x.1 then l else x :: delB l k
def Ents (w : World) : List (List UInt8 × List UInt8) → List (List UInt8 × Value) → Prop
  | [], [] => True
  | x :: D, y :: vs => y.1 = x.1 ∧ (∃ A c, y.2 = .slice A x.2.length c ∧ Reads w w.heap.size 1 A x.2.length (bvals x.2)) ∧ Ents w D vs
  | _, _ => False
theorem Ents.keep {w w' : World} : ∀ {D : List (List UInt8 × List UInt8)} {vs : List (List UInt8 × Value)}, (∀ A n l, Reads w w.heap.size 1 A n (bvals l) → Reads w' w'.heap.size 1 A n (bvals l)) → Ents w D vs → Ents w' D vs
  | [], [], _, _ => trivial
  | [], _ :: _, _, h => h.elim
  | _ :: _, [], _, h => h.elim
  | x :: D, y :: vs, hk, h => by
    obtain ⟨h1, ⟨A, c, h2, h3⟩, h4⟩ := h
    exact ⟨h1, ⟨A, c, h2, hk _ _ _ h3⟩, Ents.keep hk h4⟩
theorem Ents.look {w : World} (k : List UInt8) : ∀ {D : List (List UInt8 × List UInt8)} {vs : List (List UInt8 × Value)} (i : Nat), Ents w D vs →
    (lookB D k = none ∧ assoc k vs i = none) ∨ ∃ v j A c, lookB D k = some v ∧ assoc k vs i = some (j, .slice A v.length c) ∧ Reads w w.heap.size 1 A v.length (bvals v)
  | [], [], _, _ => .inl ⟨rfl, rfl⟩
  | [], _ :: _, _, h => h.elim
  | _ :: _, [], _, h => h.elim
  | x :: D, y :: vs, i, h => by
    obtain ⟨h1, ⟨A, c, h2, h3⟩, h4⟩ := h
    simp only [lookB, assoc, h1]
    by_cases hk : k = x.1
    · rw [if_pos hk, if_pos hk, h2]
      exact .inr ⟨x.2, i, A, c, rfl, rfl, h3⟩
    · rw [if_neg hk, if_neg hk]
      exact Ents.look k (i + 1) h4
theorem Ents.put {w : World} (k v : List UInt8) (A : Option Addr) (c : Nat) (hv : Reads w w.heap.size 1 A v.length (bvals v)) : ∀ {D : List (List UInt8 × List UInt8)} {vs : List (List UInt8 × Value)}, Ents w D vs → Ents w (putB D k v) (aput k (.slice A v.length c) vs)
  | [], [], _ => ⟨rfl, ⟨A, c, rfl, hv⟩, trivial⟩
  | [], _ :: _, h => h.elim
  | _ :: _, [], h => h.elim
  | x :: D, y :: vs, h => by
    obtain ⟨h1, h2, h4⟩ := h
    simp only [putB, aput, h1]
    by_cases hk : k = x.1
    · rw [if_pos hk, if_pos hk]
      exact ⟨rfl, ⟨A, c, rfl, hv⟩, h4⟩
    · rw [if_neg hk, if_neg hk]
      exact ⟨h1, h2, Ents.put k v A c hv h4⟩
theorem Ents.del {w : World} (k : List UInt8) : ∀ {D : List (List UInt8 × List UInt8)} {vs : List (List UInt8 × Value)}, Ents w D vs → Ents w (delB D k) (adel k vs)
  | [], [], _ => trivial
  | [], _ :: _, h => h.elim
  | _ :: _, [], h => h.elim
  | x :: D, y :: vs, h => by
    obtain ⟨h1, h2, h4⟩ := h
    simp only [delB, adel, h1]
    by_cases hk : k = x.1
    · rw [if_pos hk, if_pos hk]
      exact h4
    · rw [if_neg hk, if_neg hk]
      exact ⟨h1, h2, Ents.del k h4⟩
theorem Ents.length {w : World} : ∀ {D : List (List UInt8 × List UInt8)} {vs : List (List UInt8 × Value)}, Ents w D vs → vs.length = D.length
  | [], [], _ => rfl
  | [], _ :: _, h => h.elim
  | _ :: _, [], h => h.elim
  | x :: D, y :: vs, h => by simp [Ents.length h.2.2]
structure BMap (w : World) (b : Nat) (D : List (List UInt8 × List UInt8)) : Prop where
  ex : ∃ vs, MapIs w ss b vs ∧ Ents w D vs
section
variable {w w' : World} {b : Nat} {D : List (List UInt8 × List UInt8)}
theorem MapIs.no_cell {κ : Type} {kv : κ → Value} {l : List (κ × Value)} (hm : MapIs w kv b l) (p : Addr) (hp : p.block = b) : w.cell? p = none := by
  obtain ⟨E, clock, hb, _⟩ := hm
  subst hp
  unfold World.cell?
  simp [hb]
theorem Reads.off_map {κ : Type} {kv : κ → Value} {l : List (κ × Value)} (hm : MapIs w kv b l) {B size n : Nat} {A : Option Addr} {xs : List Value} (hr : Reads w B size A n xs) (hB : B ≤ w.heap.size) (hg : w.grownBy w' (some b)) : Reads w' B size A n xs :=
  ⟨hr.1, fun hn => by
    obtain ⟨ad, e, hbl, hc⟩ := hr.2 hn
    refine ⟨ad, e, hbl, fun j u hu => ?_⟩
    have h1 := hc j u hu
    have hne : (ad.add j).block ≠ b := fun e2 => by rw [hm.no_cell _ e2] at h1; cases h1
    rw [World.cell?_of_block (hg.block (ad.add j).block (by rw [block_of_add]; omega) (by intro e; injection e with e; exact hne e))]
    exact h1⟩
theorem Ents.off_map {vs0 : List (List UInt8 × Value)} (hm : MapIs w ss b vs0) {D' : List (List UInt8 × List UInt8)} {vs : List (List UInt8 × Value)} (h : Ents w D' vs) (hg : w.grownBy w' (some b)) (hs : w'.heap.size = w.heap.size) : Ents w' D' vs :=
  h.keep fun A n l hr => by rw [hs]; exact hr.off_map hm (Nat.le_refl _) hg
theorem BMap.store (h : BMap w b D) (k v : List UInt8) (A : Option Addr) (c : Nat) (hv : Reads w w.heap.size 1 A v.length (bvals v)) : ∃ vs, MapIs w ss b vs ∧ ∀ w', MapIs w' ss b (aput k (.slice A v.length c) vs) → w.grownBy w' (some b) → w'.heap.size = w.heap.size → BMap w' b (putB D k v) := by
  obtain ⟨vs, h1, h2⟩ := h.ex
  exact ⟨vs, h1, fun w' a1 a2 a3 => ⟨_, a1, (h2.put k v A c hv).off_map h1 a2 a3⟩⟩
theorem BMap.made (w : World) (c : Nat) : BMap (w.alloc (.map #[] c)) w.heap.size [] := ⟨[], MapIs.made w c, trivial⟩
theorem BMap.lt (h : BMap w b D) : b < w.heap.size := by obtain ⟨vs, h1, _⟩ := h.ex; exact h1.lt
theorem BMap.next (h : BMap w b D) (hb : Below w.heap.size w w') : BMap w' b D := by
  obtain ⟨vs, h1, h2⟩ := h.ex
  exact ⟨vs, h1.kept (hb.block b h1.lt), h2.keep fun A n l hr => (hr.below hb).more hb.size⟩
theorem BMap.get (h : BMap w b D) {t : TypeId} (ht : Tryd.prog.underlying t = some (.map 9 127)) (k : List UInt8) :
    ∃ A n c, (∀ W, Below w.heap.size w W → (lookup t (.map (some b)) (ss k) false).run Tryd.prog W = .ok (.slice A n c) W) ∧
      (∀ W, Below w.heap.size w W → (convert 127 9 (.slice A n c)).run Tryd.prog W = .ok (.string ⟨((lookB D k).getD []).toArray⟩) W) ∧
      (∀ W, Below w.heap.size w W → (lookup t (.map (some b)) (ss k) true).run Tryd.prog W = .ok (.tuple #[.slice A n c, .bool (lookB D k).isSome]) W) := by
  have hz : ∀ W, (zeroValue 127).run Tryd.prog W = .ok (.slice none 0 0) W := fun W => by kernel_rfl
  obtain ⟨vs, h1, h2⟩ := h.ex
  rcases h2.look k 0 with ⟨e1, e2⟩ | ⟨v, j, A, c, e1, e2, e3⟩
  · refine ⟨none, 0, 0, fun W hW => ?_, fun W hW => ?_, fun W hW => ?_⟩
    · rw [(h1.kept (hW.block b h1.lt)).look ss_type t _ ht _ (hz W) k false, e2]; rfl
    · rw [e1]
      exact conv_reads W W.heap.size none 0 0 [] Reads.none_
    · rw [(h1.kept (hW.block b h1.lt)).look ss_type t _ ht _ (hz W) k true, e2, e1]; rfl
  · refine ⟨A, v.length, c, fun W hW => ?_, fun W hW => ?_, fun W hW => ?_⟩
    · rw [(h1.kept (hW.block b h1.lt)).look ss_type t _ ht _ (hz W) k false, e2]; rfl
    · rw [e1]
      exact conv_reads W W.heap.size A _ c v ((e3.below hW).more hW.size)
    · rw [(h1.kept (hW.block b h1.lt)).look ss_type t _ ht _ (hz W) k true, e2, e1]; rfl
theorem BMap.len (h : BMap w b D) {t k el : TypeId} (ht : Tryd.prog.underlying t = some (.map k el)) (ty : TypeId) : (Builtin.len_ #[t] ty #[.map (some b)]).run Tryd.prog w = .ok (.int .i64 (D.length : Int)) w := by
  obtain ⟨vs, h1, h2⟩ := h.ex
  rw [h1.len_run ht, h2.length]
end
end Go.Proofs.YtefcmigbdfeaiaaDoor

namespace Go.Proofs.YtefcmigbdfeaiaaDoor
set_option linter.unusedVariables false
open Go.RowKit Go.Instr Go.ChangeMaps
attribute [local go_sem] ba_get ByteArray.mk_append_mk
theorem bytes_of (w : World) (s : List UInt8) : ∃ c w', (convert 9 127 (.string ⟨s.toArray⟩)).run Tryd.prog w = .ok (.slice (some ⟨w.heap.size, 0, none⟩) s.length c) w' ∧ Reads w' w'.heap.size 1 (some ⟨w.heap.size, 0, none⟩) s.length (bvals s) ∧ Below w.heap.size w w' := by
  have h := run_bytes_of_string w 9 127 5 ⟨s.toArray⟩ Tryd.underlying9 Tryd.underlying127 Tryd.underlying5
  have hs : (ByteArray.mk s.toArray).size = s.length := by simp [ByteArray.size]
  rw [hs] at h
  refine ⟨_, _, h, ⟨by rw [bvals_length]; omega, fun hn => ⟨_, rfl, by simp, fun j u hu => ?_⟩⟩, (((Below.refl _ w).drew).alloc (Nat.le_refl _) _)⟩
  have ha : (⟨w.heap.size, 0, none⟩ : Addr).add j = ⟨w.heap.size, j, none⟩ := by unfold Addr.add; split <;> simp_all
  rw [ha, cell_of_row _ w.heap.size j _ _ _ (show (w.drew.alloc _).heap[w.heap.size]? = _ from heap_alloc_new w.drew _)]
  have hj : j < s.length := by have := (List.getElem?_eq_some_iff.1 hu).1; rw [bvals_length] at this; exact this
  rw [← hu]
  simp [bytesRow, bvals, Array.getElem?_append, hj]
def putS (D : List Trie.KV) (x : List UInt8) : List Trie.KV := if (lookB D (shaW (1 :: x))).isSome then D else putB D (shaW (1 :: x)) x
structure StoreP (w : World) (g b : Nat) (D : List Trie.KV) : Prop where
  blk : Blk w g 108 #[.map (some b)]
  map : BMap w b D
theorem StoreP.next {w w' : World} {g b : Nat} {D : List Trie.KV} (h : StoreP w g b D) (hb : Below w.heap.size w w') : StoreP w' g b D := ⟨h.blk.below hb h.blk.lt, h.map.next hb⟩
theorem StoreP.ne {w : World} {g b : Nat} {D : List Trie.KV} (h : StoreP w g b D) : g ≠ b := by
  obtain ⟨vs, ⟨E, cl, h1, _⟩, _⟩ := h.map.ex
  have h2 := h.blk
  unfold Blk at h2
  intro e
  subst e
  rw [h2] at h1
  cases h1
theorem grown_of_below {w w' : World} (k : Option Nat) (h : Below w.heap.size w w') : w.grownBy w' k := ⟨h.os, h.tape, h.output, h.size, fun i hi _ => h.block i hi⟩
theorem store_New (w : World) : Calls Tryd.prog 29 #[] w fun e w' => ∃ g b, e = .returned (.pointer (some ⟨g, 0, none⟩)) ∧ StoreP w' g b [] ∧ Below w.heap.size w w' ∧ w.heap.size ≤ g ∧ w.heap.size ≤ b := by
  have HP : Hid (∀ g b w', StoreP w' g b [] → Below w.heap.size w w' → w.heap.size ≤ g → w.heap.size ≤ b → (fun e w' => ∃ g b, e = Ending.returned (.pointer (some ⟨g, 0, none⟩)) ∧ StoreP w' g b [] ∧ Below w.heap.size w w' ∧ w.heap.size ≤ g ∧ w.heap.size ≤ b) (Ending.returned (.pointer (some ⟨g, 0, none⟩))) w') := Lib.hid (fun g b w' h1 h2 h3 h4 => ⟨g, b, rfl, h1, h2, h3, h4⟩)
  generalize (fun e w' => ∃ g b, e = Ending.returned (.pointer (some ⟨g, 0, none⟩)) ∧ StoreP w' g b [] ∧ Below w.heap.size w w' ∧ w.heap.size ≤ g ∧ w.heap.size ≤ b) = P at HP ⊢
  have HS : Hid (∀ c, StoreP ((w.alloc (.map #[] c)).alloc (.cells #[.map (some w.heap.size)] 108)) (w.heap.size + 1) w.heap.size []) := Lib.hid (fun c =>
    ⟨by have := Blk.new (w.alloc (.map #[] c)) 108 #[.map (some w.heap.size)]; rwa [World.size_alloc] at this, (BMap.made w c).next (by go_grown)⟩)
  have hmm := @run_makeMap Tryd.prog
  go_enter Tryd.func29, Tryd.ntmps29
  go_wp2_with fail
  exact HP.out _ _ _ (HS.out _) (by go_grown) (by simp) (by simp)
set_option maxRecDepth 100000 in
theorem store_Put (w : World) (g b : Nat) (D : List Trie.KV) (h : StoreP w g b D) (s : List UInt8) (hs : s.length ≤ 900000) (hT : Tbl w) :
    Calls Tryd.prog 66 #[.pointer (some ⟨g, 0, none⟩), .string ⟨s.toArray⟩] w fun e w' => e = .returned (.string ⟨(shaW (1 :: s)).toArray⟩) ∧ StoreP w' g b (putS D s) ∧ w.grownBy w' (some b) := by
  have HP : Hid (∀ w', StoreP w' g b (putS D s) → w.grownBy w' (some b) → (fun e w' => e = Ending.returned (.string ⟨(shaW (1 :: s)).toArray⟩) ∧ StoreP w' g b (putS D s) ∧ w.grownBy w' (some b)) (Ending.returned (.string ⟨(shaW (1 :: s)).toArray⟩)) w') := Lib.hid (fun w' h1 h2 => ⟨rfl, h1, h2⟩)
  generalize (fun e w' => e = Ending.returned (.string ⟨(shaW (1 :: s)).toArray⟩) ∧ StoreP w' g b (putS D s) ∧ w.grownBy w' (some b)) = P at HP ⊢
  have HSt := Lib.hid h
  have HD := Lib.hid (digest_Sum w 1 (by omega) (by omega) s (by omega) hT)
  have HPS : Hid (putS D s = if (lookB D (shaW (1 :: s))).isSome then D else putB D (shaW (1 :: s)) s) := Lib.hid rfl
  rw [show UInt8.ofNat 1 = 1 from rfl] at HD
  generalize putS D s = D' at *
  generalize shaW (1 :: s) = k at *
  clear h hT hs
  go_enter Tryd.func66, Tryd.ntmps66
  go_wp2_with fail
  refine HD.out.mono ?_
  rintro e w1 ⟨rfl, hb1⟩
  have HB1 := Lib.hid hb1
  have S1 := Lib.hid (HSt.out.next hb1)
  clear hb1
  have l1 : w1.cell? ⟨g, 0, none⟩ = some (.map (some b)) := S1.out.blk.cell 0
  obtain ⟨Av, nv, cv, _, _, hlk⟩ := S1.out.map.get Tryd.underlying106 k
  have lk := hlk w1 (Below.refl _ _)
  simp only [ss] at lk
  clear hlk
  cases hl : (lookB D k).isSome with
  | true =>
    rw [hl] at lk HPS
    have HE := Lib.hid (show D' = D from HPS.out)
    clear hl
    go_wp2_with fail
    exact HP.out _ (by rw [HE.out]; exact S1.out) (grown_of_below _ HB1.out)
  | false =>
    rw [hl] at lk HPS
    have HE := Lib.hid (show D' = putB D k s from HPS.out)
    obtain ⟨cc, w2, hrun, hrd, hb2⟩ := bytes_of w1 s
    have S2 := Lib.hid (S1.out.next hb2)
    obtain ⟨vs, hm, he⟩ := S2.out.map.store k s _ cc hrd
    have HW := Lib.hid (And.intro hm (And.intro he hb2))
    clear hl hm he hrd hb2
    go_wp2_with (at_mapUpdate; refine wpList_mapUpdate_is _ rfl _ _ _ 106 rfl ss_type _ Tryd.underlying106 b vs HW.out.1 k (.slice (some ⟨w1.heap.size, 0, none⟩) s.length cc) rfl rfl rfl ?_; intro w3 hm2 hg2 hs2; have H2 := Lib.hid (And.intro hm2 (And.intro hg2 hs2)); clear hm2 hg2 hs2)
    refine HP.out _ ⟨S2.out.blk.grown H2.out.2.1 (fun e => S2.out.ne (by injection e)), by rw [HE.out]; exact HW.out.2.1 _ H2.out.1 H2.out.2.1 H2.out.2.2⟩ ?_
    exact (grown_of_below _ (HB1.out.nxt HW.out.2.2)).trans H2.out.2.1
set_option maxRecDepth 100000 in
theorem store_Get (w : World) (g b : Nat) (D : List Trie.KV) (h : StoreP w g b D) (k : List UInt8) :
    Calls Tryd.prog 111 #[.pointer (some ⟨g, 0, none⟩), .string ⟨k.toArray⟩] w fun e w' => e = .returned (.tuple #[.string ⟨((lookB D k).getD []).toArray⟩, .bool (lookB D k).isSome]) ∧ Below w.heap.size w w' := by
  have HP : Hid (∀ w', Below w.heap.size w w' → (fun e w' => e = Ending.returned (.tuple #[.string ⟨((lookB D k).getD []).toArray⟩, .bool (lookB D k).isSome]) ∧ Below w.heap.size w w') (Ending.returned (.tuple #[.string ⟨((lookB D k).getD []).toArray⟩, .bool (lookB D k).isSome])) w') := Lib.hid (fun w' h1 => ⟨rfl, h1⟩)
  generalize (fun e w' => e = Ending.returned (.tuple #[.string ⟨((lookB D k).getD []).toArray⟩, .bool (lookB D k).isSome]) ∧ Below w.heap.size w w') = P at HP ⊢
  have l1 : w.cell? ⟨g, 0, none⟩ = some (.map (some b)) := h.blk.cell 0
  obtain ⟨Av, nv, cv, _, hcv, hlk⟩ := h.map.get Tryd.underlying106 k
  have lk := hlk w (Below.refl _ _)
  have cv1 := hcv w (Below.refl _ _)
  simp only [ss] at lk
  generalize (lookB D k).getD [] = x at *
  generalize (lookB D k).isSome = y at *
  clear hlk hcv h
  go_enter Tryd.func111, Tryd.ntmps111
  go_wp2_with fail
  exact HP.out _ (by first | exact Below.refl _ _ | go_grown)
end Go.Proofs.YtefcmigbdfeaiaaDoor
