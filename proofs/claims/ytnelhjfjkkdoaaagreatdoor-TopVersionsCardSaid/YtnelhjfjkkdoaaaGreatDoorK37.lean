import Derived.Test.YtnelhjfjkkdoaaaGreatDoorK21
import Derived.Deep.Slices
import Derived.Deep.Fields
set_option linter.unusedSimpArgs false
set_option linter.unusedVariables false
namespace Go.Proofs.YtnelhjfjkkdoaaaGreatDoor
section
open Go.RowKit Go.Instr Go.ChangeShapes Go.WideShapes Go.Deep
section
variable {H:Type} {enc:TypeId × Value→H} {P:Program} {w:World} {base:Nat} {spare:Nat→Bool} {held:Bool}
theorem open_slice_fields {t e:TypeId} {fs:Array Field} {fuel:Nat} {cs:List Value} {x:DataW H × List MemPlace} (ht:P.underlying t=some (.slice e)) (he:P.underlying e=some (.struct fs))
  (hone:oneCellFields P fs=true) (hC:P.cellsOf e=fs.size) (h:DataW.trod enc P w base spare held fuel t cs=some x):
  (cs= [.slice none 0 0]∧x=(.nil,[]))∨
  ∃ (a:Addr) (len cap m:Nat) (D:Nat→DataW H) (Pl:Nat→List MemPlace),cs= [.slice (some a) len cap]∧base≤a.block∧len≤cap∧cap≤maxLen∧m=(if spare a.block then cap else len)∧
   x=(.slice ((List.range len).map D) ((List.range (m - len)).map fun j=>D (len+j)),MemPlace.row a (m*fs.size)++(List.range m).flatMap Pl)∧
   ∀ i,i<m→∃ (ys:List (DataW H × List MemPlace)) (n:Nat),D i= .agg (ys.map (·.1))∧Pl i=ys.flatMap (·.2)∧ys.length=fs.size∧
    ∀ (j:Nat) (f:Field),fs[j]?=some f→∃ (v:Value) (y:DataW H × List MemPlace),w.cell? (a.add (i*fs.size+j))=some v∧ys[j]?=some y∧DataW.trod enc P w base spare held n f.type [v]=some y:=by
 rcases open_slice ht h with h0|⟨a,len,cap,m,n,D,Pl,hcs,hb,hl,hm,hmm,hx,hi⟩
 ·exact .inl h0
 ·refine .inr ⟨a,len,cap,m,D,Pl,hcs,hb,hl,hm,hmm,by rw [hC] at hx; exact hx,fun i him=> ?_⟩;obtain ⟨cs',hc,ht'⟩:=hi i him;rw [hC] at hc;obtain ⟨ys,n',hn',hy,hlen,hyl,hf⟩:=DataW.trod_struct he ht';obtain ⟨_,hcl,hat⟩:=World.cells?_some hc;simp only [Prod.mk.injEq] at hy;refine ⟨ys,n',hy.1,hy.2,hyl,fun j f hj=> ?_⟩;obtain ⟨ho,hk⟩:=hone_of hone j f hj;have hjl:j<fs.size:=(Array.getElem?_eq_some_iff.1 hj).1;have hcell:=hat j hjl;have hv:cs'[j]?=some (cs'[j]'(by omega)):=List.getElem?_eq_getElem (by omega);have h1:=hf j f hj;rw [ho,hk] at h1;have hone':(cs'.drop j).take 1= [cs'[j]'(by omega)]:=by
   rw [List.drop_eq_getElem_cons (by omega)];rfl
  rw [hone'] at h1;have hys:ys[j]?=some (ys[j]'(by omega)):=List.getElem?_eq_getElem (by omega);refine ⟨_,_,?_,hys,h1.trans hys⟩;rw [←Go.Deep.add_add,hcell,hv]
end
theorem list_of {α:Type} (P:Nat→α→Prop):∀ (n:Nat),(∀ i,i<n→∃ s,P i s)→∃ L:List α,L.length=n∧∀ i s,L[i]?=some s→P i s
 |0,_=>⟨[],rfl,fun i s h=>by simp at h⟩
 |n+1,each=>by
  obtain ⟨L,hL,hc⟩:=list_of P n (fun i hi=>each i (by omega));obtain ⟨s,hs⟩:=each n (by omega);refine ⟨L++ [s],by simp [hL],fun i s' h=> ?_⟩;by_cases hin:i<L.length
  ·rw [List.getElem?_append_left hin] at h;exact hc i s' h
  ·have hl2:=(List.getElem?_eq_some_iff.1 h).1;rw [List.length_append,List.length_singleton] at hl2;have ei:i=n:=by omega
   subst ei;rw [List.getElem?_append_right (by omega),hL,Nat.sub_self] at h;injection h with h
   subst h;exact hs
theorem row_reads {W:World} {a:Addr} {n sz:Nat} {xs:List Value} (hl:xs.length=n*sz) (hs:0<sz) (h:∀ j u,xs[j]?=some u→W.cell? (a.add j)=some u):Reads W W.heap.size sz (some a) n xs:=by
 refine ⟨hl,fun hn=>⟨a,rfl,?_,h⟩⟩;have hp:0<xs.length:=by rw [hl]; exact Nat.mul_pos hn hs
 have h0:xs[0]?=some (xs[0]'hp):=List.getElem?_eq_getElem hp
 have:=World.block_lt_of_cell? _ _ (h 0 _ h0)
 rwa [block_of_add] at this
theorem open_items {H:Type} {enc:TypeId × Value→H} {W:World} {fuel:Nat} {A:Option Addr} {n c:Nat} {x:DataW H × List MemPlace}
  (h:DataW.trod enc Tryz.prog W 0 (fun _=>true) true fuel 30 [.slice A n c]=some x):
  ∃ L:List (List UInt8 × List UInt8),L.length=n∧Reads W W.heap.size 2 A n (icells L)∧n≤maxLen∧n≤c∧∀ x∈L,x.1.length≤9223372036854775807∧x.2.length≤9223372036854775807:=by
 rcases open_slice_fields Tryz.underlying30 Tryz.underlying37 (by kernel_rfl) (by kernel_rfl) h with ⟨e,_⟩|⟨a,len,cap,m,D,Pl,e,hb,hl,hcap,hm,_,hi⟩
 ·injection e with e _
  injection e with e1 e2 e3
  subst e1;subst e2;exact ⟨[],rfl,Reads.none_,by simp only [maxLen]; omega,Nat.zero_le _,fun x hx=>by cases hx⟩
 ·injection e with e _
  injection e with e1 e2 e3
  subst e1;subst e2;have hmn:n≤m:=by rw [hm]; simp only [if_true]; omega
  have each:∀ i,i<n→∃ s:List UInt8 × List UInt8,W.cell? (a.add (i*2))=some (s.1:Value)∧W.cell? (a.add (i*2+1))=some (s.2:Value)∧s.1.length≤9223372036854775807∧s.2.length≤9223372036854775807:=fun i hin=>by
   obtain ⟨ys,k,_,_,hyl,hf⟩:=hi i (by omega);obtain ⟨v0,y0,c0,_,t0⟩:=hf 0 _ rfl;obtain ⟨v1,y1,c1,_,t1⟩:=hf 1 _ rfl;obtain ⟨s0,e0,_,z0⟩:=DataW.trod_string Tryz.underlying9 t0;obtain ⟨s1,e1,_,z1⟩:=DataW.trod_string Tryz.underlying9 t1;injection e0 with e0; injection e1 with e1
   subst e0; subst e1;refine ⟨(s0.data.toList,s1.data.toList),c0,c1,?_,?_⟩
   ·show s0.data.toList.length≤9223372036854775807; simp only [maxLen] at z0; have e:s0.data.toList.length=s0.size:=Array.length_toList; omega
   ·show s1.data.toList.length≤9223372036854775807; simp only [maxLen] at z1; have e:s1.data.toList.length=s1.size:=Array.length_toList; omega
  obtain ⟨L,hL,hc⟩:=list_of (fun i (s:List UInt8 × List UInt8)=>W.cell? (a.add (i*2))=some (s.1:Value)∧W.cell? (a.add (i*2+1))=some (s.2:Value)∧s.1.length≤9223372036854775807∧s.2.length≤9223372036854775807) n each;refine ⟨L,hL,row_reads (by rw [icells_length,hL]; omega) (by omega) (fun j u hu=> ?_),by omega,by omega,fun x hx=>by
   obtain ⟨i,hi2,rfl⟩:=List.getElem_of_mem hx;exact (hc i _ (List.getElem?_eq_getElem hi2)).2.2⟩
  have hj:j<2*L.length:=by have:=(List.getElem?_eq_some_iff.1 hu).1; rwa [icells_length] at this
  have hx:L[j / 2]?=some (L[j / 2]'(by omega)):=List.getElem?_eq_getElem (by omega);obtain ⟨k0,k1,_,_⟩:=hc (j / 2) _ hx;obtain ⟨i0,i1⟩:=icells_at (l:=L) (i:=j / 2) (by omega);rcases Nat.mod_two_eq_zero_or_one j with hm2|hm2
  ·rw [show 2*(j / 2)=j by omega,hu] at i0;rw [show j / 2*2=j by omega] at k0;rw [k0,i0]
  ·rw [show 2*(j / 2)+1=j by omega,hu] at i1;rw [show j / 2*2+1=j by omega] at k1;rw [k1,i1]
end
end Go.Proofs.YtnelhjfjkkdoaaaGreatDoor