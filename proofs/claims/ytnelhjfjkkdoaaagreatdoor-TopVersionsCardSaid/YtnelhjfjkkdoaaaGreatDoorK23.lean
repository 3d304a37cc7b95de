import Derived.Test.YtnelhjfjkkdoaaaGreatDoorK11
import Derived.Shelf.SlIter.Nil
import Derived.Shelf.SlIterI.Nil
set_option linter.unusedSimpArgs false
set_option linter.unusedVariables false
namespace Go.Proofs.YtnelhjfjkkdoaaaGreatDoor
section
open Go.RowKit Go.Instr
def freeV:Value→Option (DataW Unit × List MemPlace):=fun _=>some (.nil,[])
section
variable {κ:Type} {kv:κ→Value} {w:World} {b:Nat} {l:List (κ × Value)}
theorem MapIs.owns (hm:MapIs w kv b l) {P:Program} {kt:TypeId} (lit:κ→Lit) (hk:∀ x∈l,keyOf P kt (kv x.1)=some (lit x.1)) (hl:l.length≤maxLen):
  ∃ (D0:DataW Unit) (es:List (Lit × DataW Unit)),w.ownsMap P kt freeV b l.length D0∧D0= .map es∧(es.map (·.1)).Perm (l.map fun x=>lit x.1):=by
 obtain ⟨E,clock,hb,hE,hS⟩:=hm;have hsz:E.size=l.length:=by have:=congrArg List.length hE; simpa using this
 have hrd:∀ (es:List MapEntry) (m:List (κ × Value)),es.map (fun e=>(e.key,e.val))=m.map (fun x=>(kv x.1,x.2))→(∀ x∈m,keyOf P kt (kv x.1)=some (lit x.1))→
   (∀ x∈es,∃ y,Go.WideElems.rd P kt freeV x=some y)∧(es.map (Go.WideElems.rg P kt freeV)).map (·.1)=m.map fun x=>lit x.1:=by
  intro es
  induction es with
  |nil=>intro m h1 h2; cases m with
   |nil=>exact ⟨fun x hx=>(by cases hx),rfl⟩
   |cons y m=>simp at h1
  |cons e es ih=>
   intro m h1 h2;cases m with
   |nil=>simp at h1
   |cons y m=>
    simp only [List.map_cons,List.cons.injEq,Prod.mk.injEq] at h1;obtain ⟨⟨e1,e2⟩,e3⟩:=h1;obtain ⟨i1,i2⟩:=ih m e3 (fun x hx=>h2 x (List.mem_cons_of_mem _ hx));have hy:=h2 y List.mem_cons_self;have hr:Go.WideElems.rd P kt freeV e=some (lit y.1,.nil):=by
     unfold Go.WideElems.rd;rw [e1,hy];rfl
    refine ⟨fun x hx=> ?_,?_⟩
    ·rcases List.mem_cons.1 hx with rfl|hx
     ·exact ⟨_,hr⟩
     ·exact i1 x hx
    ·simp only [List.map_cons];rw [Go.WideElems.rg_of hr,←i2]
 obtain ⟨r1,r2⟩:=hrd E.toList l hE hk;refine ⟨_,(E.toList.map (Go.WideElems.rg P kt freeV)).foldr DataW.insert [],⟨E,clock,hb,⟨by rw [hsz]; exact hl,hS,r1⟩,by omega,rfl⟩,rfl,?_⟩;rw [←r2];exact (Go.WideShapes.sorted_perm _).map _
end
theorem MapIs.owns_ss {w:World} {b:Nat} {l:List (List UInt8 × Value)} (hm:MapIs w ss b l) (hk:∀ x∈l,x.1.length≤maxLen) (hl:l.length≤maxLen):
  ∃ D0:DataW Unit,w.ownsMap Tryz.prog 9 freeV b l.length D0∧(strKeys D0).Perm (l.map (·.1))∧Maps.size D0=l.length:=by
 obtain ⟨D0,es,h1,rfl,h3⟩:=hm.owns (P:=Tryz.prog) (kt:=9) (fun k=> .string k) (fun x hx=>by
  have h:=hk x hx;exact Go.WideMaps.keyOf_string_mk Tryz.underlying9 (s:=⟨x.1.toArray⟩) (by simpa [ByteArray.size] using h)) hl
 refine ⟨_,h1,?_,?_⟩
 ·have:=h3.map strOf
  rw [List.map_map,List.map_map] at this;exact this
 ·have:=h3.length_eq
  rw [List.length_map,List.length_map] at this;exact this
theorem MapIs.owns_ik {w:World} {b:Nat} {l:List (Nat × Value)} (hm:MapIs w ik b l) (hk:∀ x∈l,x.1≤1048576) (hl:l.length≤maxLen):
  ∃ D0:DataW Unit,w.ownsMap Tryz.prog 3 freeV b l.length D0∧(intKeys D0).Perm (l.map fun x=>(x.1:Int))∧Maps.size D0=l.length:=by
 obtain ⟨D0,es,h1,rfl,h3⟩:=hm.owns (P:=Tryz.prog) (kt:=3) (fun k=> .int .i64 (k:Int)) (fun x hx=>by
  have h:=hk x hx;exact Go.Maps.keyOf_int_mk Tryz.underlying3 (a:=(x.1:Int)) (by
   unfold Lit.wf;simp only [Bool.and_eq_true,decide_eq_true_eq];exact ⟨Int.le_trans (by decide) (Int.natCast_nonneg _),Int.le_trans (Int.ofNat_le.2 h) (by decide)⟩)) hl
 refine ⟨_,h1,?_,?_⟩
 ·have:=h3.map intOf
  rw [List.map_map,List.map_map] at this;exact this
 ·have:=h3.length_eq
  rw [List.length_map,List.length_map] at this;exact this
end
end Go.Proofs.YtnelhjfjkkdoaaaGreatDoor