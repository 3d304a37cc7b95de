import Derived.Test.YtomnlhbioijfhaaGreatDoorJ01
import Derived.Laws.StructEq
import Derived.Maps.OwnOps
import Derived.Maps.OwnSet
set_option linter.unusedSimpArgs false
set_option linter.unusedVariables false
namespace Go.Proofs.YtomnlhbioijfhaaGreatDoor
open Go.RowKit Go.Instr
section
variable {κ : Type} {kv : κ → Value}
def MapIs (w : World) (kv : κ → Value) (b : Nat) (l : List (κ × Value)) : Prop :=
 ∃ E clock,w.heap[b]? = some (.map E clock) ∧ E.toList.map (fun e=>(e.key,e.val)) = l.map (fun x=>(kv x.1,x.2))
theorem MapIs.kept {w w' : World} {b : Nat} {l : List (κ × Value)} (hm : MapIs w kv b l) (h : w'.heap[b]? = w.heap[b]?) : MapIs w' kv b l:=by
 obtain ⟨E,clock,hb,hE⟩:=hm
 exact ⟨E,clock,h.trans hb,hE⟩
theorem MapIs.lt {w : World} {b : Nat} {l : List (κ × Value)} (hm : MapIs w kv b l) : b < w.heap.size:=by
 obtain ⟨E,clock,hb,_⟩:=hm
 rcases Nat.lt_or_ge b w.heap.size with g | g
 ·exact g
 ·rw [Array.getElem?_eq_none g] at hb; cases hb
theorem MapIs.made (w : World) (c : Nat) : MapIs (w.alloc (.map #[] c)) kv w.heap.size []:=⟨#[],c,heap_alloc_new w _,rfl⟩
end
def assoc {κ : Type} [DecidableEq κ] (k : κ) : List (κ × Value) → Nat → Option (Nat × Value)
 | [],_=>none
 | x :: l,i=>if k = x.1 then some (i,x.2) else assoc k l (i + 1)
structure KeyType (P : Program) (kt : TypeId) {κ : Type} [DecidableEq κ] (kv : κ → Value) : Prop where
 check : ∀ e w k,(checkKey e 10000 kt (kv k)).run P w = .ok () w
 equal : ∀ w a b,(Op.equal kt (kv a) (kv b)).run P w = .ok (decide (a = b)) w
 now : ∃ u,P.underlying kt = some u ∧ ∀ k (E : List MapEntry) (l : List (κ × Value)) i,E.map (fun e=>(e.key,e.val)) = l.map (fun x=>(kv x.1,x.2)) → findNow u (kv k) E i = none ∨ findNow u (kv k) E i = some (assoc k l i)
 stays : ∀ k,sameBits 10000 (kv k) (kv k) = true
section
variable {P : Program} {kt : TypeId} {κ : Type} [DecidableEq κ] {kv : κ → Value}
theorem run_findAsking_is (h : KeyType P kt kv) (w : World) (k : κ) : ∀ (E : List MapEntry) (l : List (κ × Value)) (i : Nat),E.map (fun e=>(e.key,e.val)) = l.map (fun x=>(kv x.1,x.2)) → (findAsking kt (kv k) E i).run P w = .ok (assoc k l i) w
 | [], [],i,_=>by simp [findAsking,assoc]
 | [],_ :: _,_,hE=>by simp at hE
 | _ :: _, [],_,hE=>by simp at hE
 | e :: E,x :: l,i,hE=>by
  simp only [List.map_cons,List.cons.injEq,Prod.mk.injEq] at hE
  obtain ⟨⟨h1,h2⟩,h3⟩:=hE
  have ih:=run_findAsking_is h w k E l (i + 1) h3
  simp only [findAsking,Sem.run_bind,h1,h.equal,Result.andThen_ok,assoc]
  by_cases hk : k = x.1
  ·simp [hk,h2]
  ·simp [hk,ih]
theorem run_findKey_is (h : KeyType P kt kv) (w : World) (k : κ) (E : List MapEntry) (l : List (κ × Value)) (hE : E.map (fun e=>(e.key,e.val)) = l.map (fun x=>(kv x.1,x.2))) : (findKey kt (kv k) E).run P w = .ok (assoc k l 0) w:=by
 obtain ⟨u,hu,hn⟩:=h.now
 have hf:=run_findAsking_is h w k E l 0 hE
 unfold findKey
 simp only [Sem.run_bind,run_underlying hu,Result.andThen_ok]
 rcases hn k E l 0 hE with e | e
 ·simp [e,hf]
 ·simp [e]
theorem MapIs.look {w : World} {b : Nat} {l : List (κ × Value)} (hm : MapIs w kv b l) (h : KeyType P kt kv) (t el : TypeId) (ht : P.underlying t = some (.map kt el)) (z : Value) (hz : (zeroValue el).run P w = .ok z w) (k : κ) (ok : Bool) :
  (lookup t (.map (some b)) (kv k) ok).run P w = .ok (let r:=match assoc k l 0 with | some (_,v)=>(v,true) | none=>(z,false); if ok then .tuple #[r.1,.bool r.2] else r.1) w:=by
 obtain ⟨E,clock,hb,hE⟩:=hm
 have hf:=run_findKey_is h w k E.toList l hE
 have hg : (getObj b : Sem Obj).run P w = .ok (.map E clock) w:=by simp [getObj,Sem.run,hb]
 unfold lookup
 simp only [Sem.run_bind,run_underlying ht,Result.andThen_ok,hg,Sem.run_pure,h.check,hf]
 cases assoc k l 0 with
 | none=>simp [hz]
 | some r=>simp
def aput (k : κ) (v : Value) : List (κ × Value) → List (κ × Value)
 | [] => [(k,v)]
 | x :: l=>if k = x.1 then (k,v) :: l else x :: aput k v l
theorem assoc_some {k : κ} : ∀ {l : List (κ × Value)} {i j : Nat} {v : Value},assoc k l i = some (j,v) → ∃ n,j = i + n ∧ l[n]? = some (k,v) ∧ ∀ u,aput k u l = l.set n (k,u)
 | [],_,_,_,h=>by simp [assoc] at h
 | x :: l,i,j,v,h=>by
  simp only [assoc] at h
  by_cases hk : k = x.1
  ·rw [if_pos hk] at h
   injection h with h
   injection h with h1 h2
   exact ⟨0,by omega,by simp [hk,← h2],fun u=>by simp [aput,hk]⟩
  ·rw [if_neg hk] at h
   obtain ⟨n,h1,h2,h3⟩:=assoc_some h
   exact ⟨n + 1,by omega,by simpa using h2,fun u=>by simp [aput,hk,h3 u]⟩
theorem assoc_none {k : κ} : ∀ {l : List (κ × Value)} {i : Nat},assoc k l i = none → ∀ u,aput k u l = l ++ [(k,u)]
 | [],_,_,u=>rfl
 | x :: l,i,h,u=>by
  simp only [assoc] at h
  by_cases hk : k = x.1
  ·rw [if_pos hk] at h; simp at h
  ·rw [if_neg hk] at h
   simp [aput,hk,assoc_none h u]
theorem MapIs.store {w : World} {b : Nat} {l : List (κ × Value)} (hm : MapIs w kv b l) (h : KeyType P kt kv) (t el : TypeId) (ht : P.underlying t = some (.map kt el)) (k : κ) (v : Value) :
  ∃ w',(mapUpdate t (.map (some b)) (kv k) v).run P w = .ok () w' ∧ MapIs w' kv b (aput k v l) ∧ w.grownBy w' (some b) ∧ w'.heap.size = w.heap.size:=by
 obtain ⟨E,clock,hb,hE⟩:=hm
 have hf:=run_findKey_is h w k E.toList l hE
 have hg : (getObj b : Sem Obj).run P w = .ok (.map E clock) w:=by simp [getObj,Sem.run,hb]
 have hlt : b < w.heap.size:=by
  rcases Nat.lt_or_ge b w.heap.size with g | g
  ·exact g
  ·rw [Array.getElem?_eq_none g] at hb; cases hb
 have hset : ∀ (o' : Obj) (E' : Array MapEntry) (c' : Nat),o' = .map E' c' → (setObj b o' : Sem Unit).run P w = .ok () { w with heap:=w.heap.setIfInBounds b o' }:=by
  intro o' E' c' e; simp [setObj,Sem.run,hb]
 have fin : ∀ (E' : Array MapEntry) (c' : Nat),E'.toList.map (fun e=>(e.key,e.val)) = (aput k v l).map (fun x=>(kv x.1,x.2)) →
   MapIs { w with heap:=w.heap.setIfInBounds b (.map E' c') } kv b (aput k v l) ∧ w.grownBy { w with heap:=w.heap.setIfInBounds b (.map E' c') } (some b) ∧ ({ w with heap:=w.heap.setIfInBounds b (.map E' c') } : World).heap.size = w.heap.size:=by
  intro E' c' hE'
  refine ⟨⟨E',c',by simp [hlt],hE'⟩,⟨rfl,rfl,rfl,by simp,fun j hj hne => ?_⟩,by simp⟩
  show (w.heap.setIfInBounds b _)[j]? = _
  rw [Array.getElem?_setIfInBounds_ne (fun e=>hne (by rw [e]))]
 unfold mapUpdate
 simp only [Sem.run_bind,run_underlying ht,Result.andThen_ok,hg,h.check,hf]
 cases ha : assoc k l 0 with
 | none =>
  have:=fin (E.push { key:=kv k,val:=v,born:=clock }) (clock + 1) (by
   rw [assoc_none ha v]; simp [hE])
  exact ⟨_,hset _ _ _ rfl,this⟩
 | some r =>
  obtain ⟨j,u⟩:=r
  obtain ⟨n,hj,hn,hp⟩:=assoc_some ha
  have hjn : j = n:=by omega
  subst hjn
  have hl : E.toList.length = l.length:=by have:=congrArg List.length hE; simpa using this
  have hnl : j < l.length:=(List.getElem?_eq_some_iff.1 hn).1
  have hkey : ((E[j]?).map (·.key)).getD (kv k) = kv k:=by
   have h1:=congrArg (fun x=>x[j]?) hE
   simp only [List.getElem?_map,hn] at h1
   have h2 : j < E.size:=by have e : E.toList.length = E.size:=Array.length_toList; omega
   simp [Array.getElem?_eq_getElem h2] at h1 ⊢
   exact h1.1
  have:=fin (E.modify j fun e => { e with key:=kv k,val:=v }) clock (by
   rw [hp v]
   apply List.ext_getElem?
   intro m
   have h1:=congrArg (fun x=>x[m]?) hE
   simp only [List.getElem?_map] at h1
   by_cases hm : j = m
   ·subst hm
    have h2 : j < E.size:=by have e : E.toList.length = E.size:=Array.length_toList; omega
    simp [Array.toList_modify,h2,hnl]
   ·simp [Array.toList_modify,hm,List.getElem?_set_ne hm]
    simpa using h1)
  refine ⟨_, ?_,this⟩
  simp only [hkey,keyThatStays,h.stays,if_true]
  exact hset _ _ _ rfl
end
def ss (k : List UInt8) : Value:=.string ⟨k.toArray⟩
section
variable {P : Program} {kt : TypeId} {κ : Type} [DecidableEq κ] {kv : κ → Value}
def adel (k : κ) : List (κ × Value) → List (κ × Value)
 | [] => []
 | x :: l=>if k = x.1 then l else x :: adel k l
theorem adel_some {k : κ} : ∀ {l : List (κ × Value)} {i j : Nat} {v : Value},assoc k l i = some (j,v) → ∃ n,j = i + n ∧ n < l.length ∧ adel k l = l.eraseIdx n
 | [],_,_,_,h=>by simp [assoc] at h
 | x :: l,i,j,v,h=>by
  simp only [assoc] at h
  by_cases hk : k = x.1
  ·rw [if_pos hk] at h
   injection h with h
   injection h with h1 h2
   exact ⟨0,by omega,by simp,by simp [adel,hk]⟩
  ·rw [if_neg hk] at h
   obtain ⟨n,h1,h2,h3⟩:=adel_some h
   exact ⟨n + 1,by omega,by simpa using h2,by simp [adel,hk,h3]⟩
theorem adel_none {k : κ} : ∀ {l : List (κ × Value)} {i : Nat},assoc k l i = none → adel k l = l
 | [],_,_=>rfl
 | x :: l,i,h=>by
  simp only [assoc] at h
  by_cases hk : k = x.1
  ·rw [if_pos hk] at h; simp at h
  ·rw [if_neg hk] at h
   simp [adel,hk,adel_none h]
theorem map_erase {α β : Type} (f : α → β) : ∀ (l : List α) (n : Nat),(l.eraseIdx n).map f = (l.map f).eraseIdx n
 | [],_=>by simp
 | x :: l,0=>by simp
 | x :: l,n + 1=>by simp [map_erase f l n]
theorem MapIs.drop {w : World} {b : Nat} {l : List (κ × Value)} (hm : MapIs w kv b l) (h : KeyType P kt kv) (t el : TypeId) (ht : P.underlying t = some (.map kt el)) (k : κ) (k2 ty : TypeId) :
  ∃ w',(Builtin.delete_ #[t,k2] ty #[.map (some b),kv k]).run P w = .ok (.tuple #[]) w' ∧ MapIs w' kv b (adel k l) ∧ w.grownBy w' (some b) ∧ w'.heap.size = w.heap.size:=by
 obtain ⟨E,clock,hb,hE⟩:=hm
 have hf:=run_findKey_is h w k E.toList l hE
 have hg : (getObj b : Sem Obj).run P w = .ok (.map E clock) w:=by simp [getObj,Sem.run,hb]
 have hlt : b < w.heap.size:=by
  rcases Nat.lt_or_ge b w.heap.size with g | g
  ·exact g
  ·rw [Array.getElem?_eq_none g] at hb; cases hb
 have hset : ∀ (E' : Array MapEntry) (c' : Nat),(setObj b (.map E' c') : Sem Unit).run P w = .ok () { w with heap:=w.heap.setIfInBounds b (.map E' c') }:=by
  intro E' c'; simp [setObj,Sem.run,hb]
 have fin : ∀ (E' : Array MapEntry) (c' : Nat),E'.toList.map (fun e=>(e.key,e.val)) = (adel k l).map (fun x=>(kv x.1,x.2)) →
   MapIs { w with heap:=w.heap.setIfInBounds b (.map E' c') } kv b (adel k l) ∧ w.grownBy { w with heap:=w.heap.setIfInBounds b (.map E' c') } (some b) ∧ ({ w with heap:=w.heap.setIfInBounds b (.map E' c') } : World).heap.size = w.heap.size:=by
  intro E' c' hE'
  refine ⟨⟨E',c',by simp [hlt],hE'⟩,⟨rfl,rfl,rfl,by simp,fun j hj hne => ?_⟩,by simp⟩
  show (w.heap.setIfInBounds b _)[j]? = _
  rw [Array.getElem?_setIfInBounds_ne (fun e=>hne (by rw [e]))]
 unfold Builtin.delete_
 simp only [Sem.run_bind,run_underlying ht,Result.andThen_ok,hg,h.check,hf,List.getElem?_toArray,List.getElem?_cons_zero,List.getElem?_cons_succ]
 cases ha : assoc k l 0 with
 | none =>
  have:=fin E clock (by rw [adel_none ha]; exact hE)
  refine ⟨_, ?_,this⟩
  simp [hset]
 | some r =>
  obtain ⟨j,u⟩:=r
  obtain ⟨n,hj,hn,hp⟩:=adel_some ha
  have hjn : j = n:=by omega
  subst hjn
  have hl : E.toList.length = l.length:=by have:=congrArg List.length hE; simpa using this
  have:=fin (E.eraseIdxIfInBounds j) clock (by
   rw [hp,Array.toList_eraseIdxIfInBounds,map_erase,hE,map_erase])
  refine ⟨_, ?_,this⟩
  simp [hset]
end
theorem MapIs.len_run {P : Program} {κ : Type} {kv : κ → Value} {w : World} {b : Nat} {l : List (κ × Value)} (hm : MapIs w kv b l) {t k el : TypeId} (ht : P.underlying t = some (.map k el)) (ty : TypeId) : (Builtin.len_ #[t] ty #[.map (some b)]).run P w = .ok (.int .i64 (l.length : Int)) w:=by
 obtain ⟨E,clock,hb,hE⟩:=hm
 have hg : (getObj b : Sem Obj).run P w = .ok (.map E clock) w:=by simp [getObj,Sem.run,hb]
 have hl : E.size = l.length:=by have:=congrArg List.length hE; simpa using this
 unfold Builtin.len_
 simp [Sem.run_bind,run_underlying ht,hg,hl,goInt]
def lookB (D : List (List UInt8 × List UInt8)) (k : List UInt8) : Option (List UInt8):=match D with
 | []=>none
 | x :: l=>if k = x.1 then some x.2 else lookB l k
def putB (D : List (List UInt8 × List UInt8)) (k v : List UInt8) : List (List UInt8 × List UInt8):=match D with
 | [] => [(k,v)]
 | x :: l=>if k = x.1 then (k,v) :: l else x :: putB l k v
def Ents (w : World) : List (List UInt8 × List UInt8) → List (List UInt8 × Value) → Prop
 | [], []=>True
 | x :: D,y :: vs=>y.1 = x.1 ∧ (∃ A c,y.2 = .slice A x.2.length c ∧ Reads w w.heap.size 1 A x.2.length (bvals x.2)) ∧ Ents w D vs
 | _,_=>False
theorem Ents.keep {w w' : World} : ∀ {D : List (List UInt8 × List UInt8)} {vs : List (List UInt8 × Value)},(∀ A n l,Reads w w.heap.size 1 A n (bvals l) → Reads w' w'.heap.size 1 A n (bvals l)) → Ents w D vs → Ents w' D vs
 | [], [],_,_=>trivial
 | [],_ :: _,_,h=>h.elim
 | _ :: _, [],_,h=>h.elim
 | x :: D,y :: vs,hk,h=>by
  obtain ⟨h1,⟨A,c,h2,h3⟩,h4⟩:=h
  exact ⟨h1,⟨A,c,h2,hk _ _ _ h3⟩,Ents.keep hk h4⟩
theorem Ents.look {w : World} (k : List UInt8) : ∀ {D : List (List UInt8 × List UInt8)} {vs : List (List UInt8 × Value)} (i : Nat),Ents w D vs →
  (lookB D k = none ∧ assoc k vs i = none) ∨ ∃ v j A c,lookB D k = some v ∧ assoc k vs i = some (j,.slice A v.length c) ∧ Reads w w.heap.size 1 A v.length (bvals v)
 | [], [],_,_=>.inl ⟨rfl,rfl⟩
 | [],_ :: _,_,h=>h.elim
 | _ :: _, [],_,h=>h.elim
 | x :: D,y :: vs,i,h=>by
  obtain ⟨h1,⟨A,c,h2,h3⟩,h4⟩:=h
  simp only [lookB,assoc,h1]
  by_cases hk : k = x.1
  ·rw [if_pos hk,if_pos hk,h2]
   exact .inr ⟨x.2,i,A,c,rfl,rfl,h3⟩
  ·rw [if_neg hk,if_neg hk]
   exact Ents.look k (i + 1) h4
theorem Ents.put {w : World} (k v : List UInt8) (A : Option Addr) (c : Nat) (hv : Reads w w.heap.size 1 A v.length (bvals v)) : ∀ {D : List (List UInt8 × List UInt8)} {vs : List (List UInt8 × Value)},Ents w D vs → Ents w (putB D k v) (aput k (.slice A v.length c) vs)
 | [], [],_=>⟨rfl,⟨A,c,rfl,hv⟩,trivial⟩
 | [],_ :: _,h=>h.elim
 | _ :: _, [],h=>h.elim
 | x :: D,y :: vs,h=>by
  obtain ⟨h1,h2,h4⟩:=h
  simp only [putB,aput,h1]
  by_cases hk : k = x.1
  ·rw [if_pos hk,if_pos hk]
   exact ⟨rfl,⟨A,c,rfl,hv⟩,h4⟩
  ·rw [if_neg hk,if_neg hk]
   exact ⟨h1,h2,Ents.put k v A c hv h4⟩
theorem Ents.length {w : World} : ∀ {D : List (List UInt8 × List UInt8)} {vs : List (List UInt8 × Value)},Ents w D vs → vs.length = D.length
 | [], [],_=>rfl
 | [],_ :: _,h=>h.elim
 | _ :: _, [],h=>h.elim
 | x :: D,y :: vs,h=>by simp [Ents.length h.2.2]
structure BMap (w : World) (b : Nat) (D : List (List UInt8 × List UInt8)) : Prop where
 ex : ∃ vs,MapIs w ss b vs ∧ Ents w D vs
section
variable {w w' : World} {b : Nat} {D : List (List UInt8 × List UInt8)}
theorem MapIs.no_cell {κ : Type} {kv : κ → Value} {l : List (κ × Value)} (hm : MapIs w kv b l) (p : Addr) (hp : p.block = b) : w.cell? p = none:=by
 obtain ⟨E,clock,hb,_⟩:=hm
 subst hp
 unfold World.cell?
 simp [hb]
theorem Reads.off_map {κ : Type} {kv : κ → Value} {l : List (κ × Value)} (hm : MapIs w kv b l) {B size n : Nat} {A : Option Addr} {xs : List Value} (hr : Reads w B size A n xs) (hB : B ≤ w.heap.size) (hg : w.grownBy w' (some b)) : Reads w' B size A n xs :=
 ⟨hr.1,fun hn=>by
  obtain ⟨ad,e,hbl,hc⟩:=hr.2 hn
  refine ⟨ad,e,hbl,fun j u hu => ?_⟩
  have h1:=hc j u hu
  have hne : (ad.add j).block ≠ b:=fun e2=>by rw [hm.no_cell _ e2] at h1; cases h1
  rw [World.cell?_of_block (hg.block (ad.add j).block (by rw [block_of_add]; omega) (by intro e; injection e with e; exact hne e))]
  exact h1⟩
theorem Ents.off_map {vs0 : List (List UInt8 × Value)} (hm : MapIs w ss b vs0) {D' : List (List UInt8 × List UInt8)} {vs : List (List UInt8 × Value)} (h : Ents w D' vs) (hg : w.grownBy w' (some b)) (hs : w'.heap.size = w.heap.size) : Ents w' D' vs :=
 h.keep fun A n l hr=>by rw [hs]; exact hr.off_map hm (Nat.le_refl _) hg
theorem BMap.store (h : BMap w b D) (k v : List UInt8) (A : Option Addr) (c : Nat) (hv : Reads w w.heap.size 1 A v.length (bvals v)) : ∃ vs,MapIs w ss b vs ∧ ∀ w',MapIs w' ss b (aput k (.slice A v.length c) vs) → w.grownBy w' (some b) → w'.heap.size = w.heap.size → BMap w' b (putB D k v):=by
 obtain ⟨vs,h1,h2⟩:=h.ex
 exact ⟨vs,h1,fun w' a1 a2 a3=>⟨_,a1,(h2.put k v A c hv).off_map h1 a2 a3⟩⟩
theorem BMap.made (w : World) (c : Nat) : BMap (w.alloc (.map #[] c)) w.heap.size []:=⟨[],MapIs.made w c,trivial⟩
theorem BMap.lt (h : BMap w b D) : b < w.heap.size:=by obtain ⟨vs,h1,_⟩:=h.ex; exact h1.lt
theorem BMap.next (h : BMap w b D) (hb : Below w.heap.size w w') : BMap w' b D:=by
 obtain ⟨vs,h1,h2⟩:=h.ex
 exact ⟨vs,h1.kept (hb.block b h1.lt),h2.keep fun A n l hr=>(hr.below hb).more hb.size⟩
theorem BMap.len (h : BMap w b D) {t k el : TypeId} (ht : Tryz.prog.underlying t = some (.map k el)) (ty : TypeId) : (Builtin.len_ #[t] ty #[.map (some b)]).run Tryz.prog w = .ok (.int .i64 (D.length : Int)) w:=by
 obtain ⟨vs,h1,h2⟩:=h.ex
 rw [h1.len_run ht,h2.length]
end
end Go.Proofs.YtomnlhbioijfhaaGreatDoor
namespace Go.Proofs.YtomnlhbioijfhaaGreatDoor
theorem bl_irrefl : ∀ a : List UInt8,Op.bytesLess a a = false
 | []=>rfl
 | a :: x=>by simp [Op.bytesLess,bl_irrefl x]
theorem bl_trans : ∀ a b c : List UInt8,Op.bytesLess a b = true → Op.bytesLess b c = true → Op.bytesLess a c = true
 | _, [],_,h,_=>by simp [Op.bytesLess] at h
 | _,_ :: _, [],_,h=>by simp [Op.bytesLess] at h
 | [],_ :: _,_ :: _,_,_=>by simp [Op.bytesLess]
 | a :: x,b :: y,c :: z,h1,h2=>by
  simp only [Op.bytesLess,Bool.or_eq_true,Bool.and_eq_true,decide_eq_true_eq,beq_iff_eq,UInt8.lt_iff_toNat_lt] at *
  rcases h1 with h1 | ⟨rfl,h1⟩
  ·rcases h2 with h2 | ⟨rfl,h2⟩
   ·exact .inl (by omega)
   ·exact .inl h1
  ·rcases h2 with h2 | ⟨rfl,h2⟩
   ·exact .inl h2
   ·exact .inr ⟨rfl,bl_trans x y z h1 h2⟩
theorem bl_tri : ∀ a b : List UInt8,Op.bytesLess a b = false → Op.bytesLess b a = false → a = b
 | [], [],_,_=>rfl
 | [],_ :: _,h,_=>by simp [Op.bytesLess] at h
 | _ :: _, [],_,h=>by simp [Op.bytesLess] at h
 | a :: x,b :: y,h1,h2=>by
  simp only [Op.bytesLess,Bool.or_eq_false_iff,Bool.and_eq_false_iff,decide_eq_false_iff_not,UInt8.lt_iff_toNat_lt] at *
  have e : a = b:=UInt8.toNat_inj.1 (by omega)
  subst e
  simp at h1 h2
  rw [bl_tri x y h1 h2]
theorem bl_asymm (a b : List UInt8) (h : Op.bytesLess a b = true) : Op.bytesLess b a = false:=by
 cases h2 : Op.bytesLess b a with
 | false=>rfl
 | true=>have:=bl_trans a b a h h2; rw [bl_irrefl] at this; cases this
theorem bl_gt {a b : List UInt8} (h : Op.bytesLess a b = false) (hn : ¬ b = a) : Op.bytesLess b a = true:=by
 cases h2 : Op.bytesLess b a with
 | true=>rfl
 | false=>exact absurd (bl_tri _ _ h2 h) hn
end Go.Proofs.YtomnlhbioijfhaaGreatDoor
