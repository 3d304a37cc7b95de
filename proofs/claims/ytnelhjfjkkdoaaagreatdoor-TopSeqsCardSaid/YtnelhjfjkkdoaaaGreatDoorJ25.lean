import Derived.Test.YtnelhjfjkkdoaaaGreatDoorJ19
import Derived.Maps.RangeWalk
import Derived.Lib.FrozenHead
import Derived.Laws.StructEq
import Derived.Maps.OwnOps
import Derived.Maps.OwnSet
set_option linter.unusedSimpArgs false
set_option linter.unusedVariables false
namespace Go.Proofs.YtnelhjfjkkdoaaaGreatDoor
section
open Go.RowKit
theorem strv_snoc (D:List (List UInt8)) (s:List UInt8):strv (D++ [s])=strv D++ [.string ⟨s.toArray⟩]:=by simp [strv]
end
section
open Go.RowKit Go.Instr
theorem tk {P:Program} {md:Region.Mode} {ops:Array Oper} {Q:Exit→Act→World→Prop} {S:World→Prop} {fuel:Nat} {listed:Array Bool} {a:Act} {w:World} {v:Value} {op:Op} {ty:TypeId} {pos:String} {af:Array Edge} {gd:Option (Nat × Bool)} (i s:Nat) (hi:ops[i]?=some ⟨some s,op,ty,pos,af,gd⟩)
  (h:wpAnyH P md ops Q S fuel (listed.setIfInBounds i true) (a.put (some s) v) w) (hs:Region.noSelect ops=true:=by kernel_rfl) (hf:Region.free md ops listed i=true:=by kernel_rfl) (hr:(Region.ready md ops listed).contains i=true:=by kernel_rfl)
  (hQ:∀ c a w,Q (.panic c) (a.put (some s) v) w→Q (.panic c) a w:=by exact fun _ _ _ h=>h) (hy:YieldsIf P ops S ⟨some s,op,ty,pos,af,gd⟩ v a:=by first|(refine Or.inl ⟨by rfl,?_⟩; intro w hSw; (try dsimp only at hSw); (try go_split_ands); go_simp; (first|done|with_reducible rfl))|exact Or.inr ⟨by rfl,rfl⟩) (hS:S w:=by assumption):
  wpAnyH P md ops Q S (fuel+1) listed a w:=wpAnyH_take hi hs hf hr hQ hy hS h
section
variable {P:Program} {md:Region.Mode} {ops:Array Oper} {Q:Exit→Act→World→Prop} {S:World→Prop} {fuel:Nat} {listed:Array Bool} {a:Act} {w:World} {o p:Oper}
theorem rd1 (i:Nat) (ho:ops[i]?=some o) (h:∀ K':Act→World→Prop,Shut (∀ a w,S w→(S w→wpAnyH P md ops Q S fuel (listed.setIfInBounds i true) a w)→K' a w)→if Region.wanted o (yielded ops a.tmps)=true then Oper.wp P o a w K' Q else K' (a.put o.dst undef) w) (hr:Region.ready md ops listed= [i]:=by kernel_rfl):
  wpAnyH P md ops Q S (fuel+1) listed a w:=wpAnyH_ready hr (by simp) (AllReadyH.cons ho h AllReadyH.nil)
theorem rd2 (i j:Nat) (ho:ops[i]?=some o) (hp:ops[j]?=some p) (h:∀ K':Act→World→Prop,Shut (∀ a w,S w→(S w→wpAnyH P md ops Q S fuel (listed.setIfInBounds i true) a w)→K' a w)→if Region.wanted o (yielded ops a.tmps)=true then Oper.wp P o a w K' Q else K' (a.put o.dst undef) w)
  (h2:∀ K':Act→World→Prop,Shut (∀ a w,S w→(S w→wpAnyH P md ops Q S fuel (listed.setIfInBounds j true) a w)→K' a w)→if Region.wanted p (yielded ops a.tmps)=true then Oper.wp P p a w K' Q else K' (a.put p.dst undef) w) (hr:Region.ready md ops listed= [i,j]:=by kernel_rfl):
  wpAnyH P md ops Q S (fuel+1) listed a w:=wpAnyH_ready hr (by simp) (AllReadyH.cons ho h (AllReadyH.cons hp h2 AllReadyH.nil))
end
def mkRow (w:World) (base:Nat) (v:Value) (l:List UInt8):Prop:=
 ∃ g cap cur fz,v= .slice (some ⟨g,0,none⟩) l.length cap∧base≤g∧w.heap[g]?=some (.cells cur 5 fz)∧(∀ j,j<cur.size→¬(fz.1≤j∧j<fz.2))∧l.length≤cap∧cap≤maxLen∧cur.size=cap∧cur.toList.take l.length=bvals l
theorem mk_store (P:Program) (g o:Nat) (t:TypeId) (fz:Nat × Nat):∀ (vs:List Value) (i:Nat) (cur:Array Value) (w:World),w.heap[g]?=some (.cells cur t fz)→(∀ j,j<cur.size→¬(fz.1≤j∧j<fz.2))→o+i+vs.length≤cur.size→(∀ u∈vs,u.oneCell'=true)→
  (storeCells ⟨g,o,none⟩ vs i).run P w= .ok () (w.setRow g (cur.toList.take (o+i)++vs++cur.toList.drop (o+i+vs.length)).toArray)
 | [],i,cur,w,hg,_,_,_=>by
  simp only [storeCells,List.append_nil,List.length_nil,Nat.add_zero,List.take_append_drop,Array.toArray_toList];rw [setRow_self w g cur t fz hg];rfl
 |v::rest,i,cur,w,hg,hfz,hl,h1=>by
  have hi:o+i<cur.size:=by simp at hl; omega
  have hadd:(⟨g,o,none⟩:Addr).add i=⟨g,o+i,none⟩:=by unfold Addr.add; split<;>simp_all
  have hcell:w.cell? ⟨g,o+i,none⟩=some cur[o+i]:=by simp [World.cell?,hg,hi]
  have hfro:w.frozen? ⟨g,o+i,none⟩=false:=by
   have:=hfz (o+i) hi
   obtain ⟨lo,hi'⟩:=fz;simp only [World.frozen?,hg,Bool.and_eq_false_iff,decide_eq_false_iff_not];simp only at this;omega
  have hst:(store ((⟨g,o,none⟩:Addr).add i) v).run P w= .ok () (w.setRow g (cur.setIfInBounds (o+i) v)):=by
   rw [hadd,run_store P w _ v _ (h1 v (by simp)),hcell];simp [hfro,setCell_eq_setRow w g (o+i) cur t fz v hg]
  have ih:=mk_store P g o t fz rest (i+1) (cur.setIfInBounds (o+i) v) (w.setRow g (cur.setIfInBounds (o+i) v)) (setRow_heap w g cur _ t _ hg) (by simpa using hfz) (by simp at hl ⊢; omega) (fun x hx=>h1 x (by simp [hx]));simp only [storeCells,Sem.run_bind,hst,Result.andThen_ok,ih,setRow_setRow]
  congr 3
  have e:=list_seg_step cur.toList (o+i) v rest (by simp at hl ⊢; omega);simpa [Array.toList_setIfInBounds,Nat.add_assoc] using e
theorem cells_str (s:List UInt8):Lib.strCells ⟨s.toArray⟩=bvals s:=by simp [Lib.strCells,bvals]
theorem mk_append (w:World) (base:Nat) (ty:TypeId) (i:TypeInfo) (hi:Tryz.prog.info? 5=some i) (hz:i.zero=some (.int .u8 0)) (hsize:i.size=1) (hby:i.bytes=1) (v:Value) (l:List UInt8) (h:mkRow w base v l) (s:List UInt8) (hn:l.length+s.length≤100000) (hbase:base≤w.heap.size):
  ∃ v' w',(Builtin.append_ #[118,9] ty #[v,.string ⟨s.toArray⟩]).run Tryz.prog w= .ok v' w'∧mkRow w' base v' (l++s)∧w.grownBy w' v.ownBlock:=by
 obtain ⟨g,cap,cur,fz,rfl,hbg,hg,hfz,hnc,hcm,hcs,htake⟩:=h;have hss:(ByteArray.mk s.toArray).size=s.length:=by simp [ByteArray.size]
 have hbl:(bvals s).length=s.length:=by simp [bvals]
 by_cases hroom:l.length+s.length≤cap
 ·have hf:=Lib.run_firstCells_string (P:=Tryz.prog) w 1 ⟨s.toArray⟩;have hst:=mk_store Tryz.prog g l.length 5 fz (Lib.strCells ⟨s.toArray⟩) 0 cur w hg hfz (by rw [cells_str,hbl]; omega) (Lib.strCells_oneCell _);rw [hss] at hf;simp only [Nat.add_zero] at hst;refine ⟨.slice (some ⟨g,0,none⟩) (l.length+s.length) cap,w.setRow g (cur.toList.take l.length++Lib.strCells ⟨s.toArray⟩++cur.toList.drop (l.length+(Lib.strCells ⟨s.toArray⟩).length)).toArray,by
   simp [Builtin.append_,run_underlying Tryz.underlying118,run_underlying Tryz.underlying9,sizeOf,typeInfo,hi,hsize,Builtin.lenOf,hss,hroom,hf,Addr.add_lit,hst],?_,?_⟩
  ·refine ⟨g,cap,_,fz,by rw [List.length_append],hbg,setRow_heap w g cur _ _ _ hg,?_,by rw [List.length_append]; exact hroom,hcm,?_,?_⟩
   ·intro j hj;refine hfz j ?_;simp only [List.size_toArray,List.length_append,List.length_take,List.length_drop,Array.length_toList,cells_str,hbl] at hj;omega
   ·simp only [List.size_toArray,List.length_append,List.length_take,List.length_drop,Array.length_toList,cells_str,hbl];omega
   ·rw [htake,cells_str]
    show List.take _ (bvals l++bvals s++_)=_;rw [List.take_left' (by simp [bvals])];simp [bvals]
  ·exact ⟨rfl,rfl,rfl,by simp,fun k _ hk=>setRow_other w g k _ (fun e=>hk (by simp [Value.ownBlock,e]))⟩
 ·have holds:∀ j u,(bvals l)[j]?=some u→w.cell? ((⟨g,0,none⟩:Addr).add j)=some u:=fun j u hu=>by
   have ha:(⟨g,0,none⟩:Addr).add j=⟨g,j,none⟩:=by unfold Addr.add; split<;>simp_all
   rw [ha,cell_of_row w g j cur _ fz hg];rw [←htake,List.getElem?_take] at hu
   split at hu
   ·simpa using hu
   ·cases hu
  have hr:=Lib.run_append_grow_string (P:=Tryz.prog) w 118 9 ty 5 i (.int .u8 0) Tryz.underlying118 Tryz.underlying9 hi hz ⟨g,0,none⟩ l.length cap (bvals l) (by rw [hsize]; simp [bvals]) holds ⟨s.toArray⟩ (by rw [hss]; omega) (by rw [hss]; omega) (by rw [hby]; exact growslice_fits (by simp only [maxLen] at hcm; omega) (by rw [hss]; omega));have hge:=grownCap_ge w (l.length+s.length) cap 5;have hcm2:grownCap w (l.length+s.length) cap 5≤maxLen:=grownCap_le_maxLen w (l.length+s.length) cap 5 (by simp only [maxLen]; omega);have hll:(bvals l).length=l.length:=by simp [bvals]
  rw [hss,cells_str] at hr;refine ⟨_,_,hr,⟨w.heap.size,_,_,(0,0),by rw [List.length_append],hbase,heap_alloc_new w.drew _,fun j _ hc=>by omega,by rw [List.length_append]; exact hge,hcm2,?_,?_⟩,⟨rfl,rfl,rfl,by simp,fun k hk _=>heap_alloc_old w.drew _ hk⟩⟩
  ·have hz1:(Value.int IntKind.u8 0).cells.size=1:=rfl;simp only [Array.size_append,List.size_toArray,size_zeroCells,hz1,hbl,hll];omega
  ·simp only [Array.toList_append,List.append_assoc];rw [←List.append_assoc,List.take_left' (by simp [bvals])];simp [bvals]
section
variable {κ:Type} {kv:κ→Value}
def MapIs (w:World) (kv:κ→Value) (b:Nat) (l:List (κ × Value)):Prop:=
 ∃ E clock,w.heap[b]?=some (.map E clock)∧E.toList.map (fun e=>(e.key,e.val))=l.map (fun x=>(kv x.1,x.2))
theorem MapIs.kept {w w':World} {b:Nat} {l:List (κ × Value)} (hm:MapIs w kv b l) (h:w'.heap[b]?=w.heap[b]?):MapIs w' kv b l:=by
 obtain ⟨E,clock,hb,hE⟩:=hm;exact ⟨E,clock,h.trans hb,hE⟩
theorem MapIs.lt {w:World} {b:Nat} {l:List (κ × Value)} (hm:MapIs w kv b l):b<w.heap.size:=by
 obtain ⟨E,clock,hb,_⟩:=hm;rcases Nat.lt_or_ge b w.heap.size with g|g
 ·exact g
 ·rw [Array.getElem?_eq_none g] at hb; cases hb
theorem MapIs.made (w:World) (c:Nat):MapIs (w.alloc (.map #[] c)) kv w.heap.size []:=⟨#[],c,heap_alloc_new w _,rfl⟩
end
def assoc {κ:Type} [DecidableEq κ] (k:κ):List (κ × Value)→Nat→Option (Nat × Value)
 | [],_=>none
 |x::l,i=>if k=x.1 then some (i,x.2) else assoc k l (i+1)
structure KeyType (P:Program) (kt:TypeId) {κ:Type} [DecidableEq κ] (kv:κ→Value):Prop where
 check:∀ e w k,(checkKey e 10000 kt (kv k)).run P w= .ok () w
 equal:∀ w a b,(Op.equal kt (kv a) (kv b)).run P w= .ok (decide (a=b)) w
 now:∃ u,P.underlying kt=some u∧∀ k (E:List MapEntry) (l:List (κ × Value)) i,E.map (fun e=>(e.key,e.val))=l.map (fun x=>(kv x.1,x.2))→findNow u (kv k) E i=none∨findNow u (kv k) E i=some (assoc k l i)
 stays:∀ k,sameBits 10000 (kv k) (kv k)=true
section
variable {P:Program} {kt:TypeId} {κ:Type} [DecidableEq κ] {kv:κ→Value}
theorem run_findAsking_is (h:KeyType P kt kv) (w:World) (k:κ):∀ (E:List MapEntry) (l:List (κ × Value)) (i:Nat),E.map (fun e=>(e.key,e.val))=l.map (fun x=>(kv x.1,x.2))→(findAsking kt (kv k) E i).run P w= .ok (assoc k l i) w
 | [],[],i,_=>by simp [findAsking,assoc]
 | [],_::_,_,hE=>by simp at hE
 |_::_,[],_,hE=>by simp at hE
 |e::E,x::l,i,hE=>by
  simp only [List.map_cons,List.cons.injEq,Prod.mk.injEq] at hE;obtain ⟨⟨h1,h2⟩,h3⟩:=hE;have ih:=run_findAsking_is h w k E l (i+1) h3;simp only [findAsking,Sem.run_bind,h1,h.equal,Result.andThen_ok,assoc];by_cases hk:k=x.1
  ·simp [hk,h2]
  ·simp [hk,ih]
theorem run_findKey_is (h:KeyType P kt kv) (w:World) (k:κ) (E:List MapEntry) (l:List (κ × Value)) (hE:E.map (fun e=>(e.key,e.val))=l.map (fun x=>(kv x.1,x.2))):(findKey kt (kv k) E).run P w= .ok (assoc k l 0) w:=by
 obtain ⟨u,hu,hn⟩:=h.now;have hf:=run_findAsking_is h w k E l 0 hE;unfold findKey;simp only [Sem.run_bind,run_underlying hu,Result.andThen_ok];rcases hn k E l 0 hE with e|e
 ·simp [e,hf]
 ·simp [e]
theorem MapIs.look {w:World} {b:Nat} {l:List (κ × Value)} (hm:MapIs w kv b l) (h:KeyType P kt kv) (t el:TypeId) (ht:P.underlying t=some (.map kt el)) (z:Value) (hz:(zeroValue el).run P w= .ok z w) (k:κ) (ok:Bool):
  (lookup t (.map (some b)) (kv k) ok).run P w= .ok (let r:=match assoc k l 0 with|some (_,v)=>(v,true)|none=>(z,false); if ok then .tuple #[r.1,.bool r.2] else r.1) w:=by
 obtain ⟨E,clock,hb,hE⟩:=hm;have hf:=run_findKey_is h w k E.toList l hE;have hg:(getObj b:Sem Obj).run P w= .ok (.map E clock) w:=by simp [getObj,Sem.run,hb]
 unfold lookup;simp only [Sem.run_bind,run_underlying ht,Result.andThen_ok,hg,Sem.run_pure,h.check,hf];cases assoc k l 0 with
 |none=>simp [hz]
 |some r=>simp
def aput (k:κ) (v:Value):List (κ × Value)→List (κ × Value)
 | []=> [(k,v)]
 |x::l=>if k=x.1 then (k,v)::l else x::aput k v l
theorem assoc_some {k:κ}:∀ {l:List (κ × Value)} {i j:Nat} {v:Value},assoc k l i=some (j,v)→∃ n,j=i+n∧l[n]?=some (k,v)∧∀ u,aput k u l=l.set n (k,u)
 | [],_,_,_,h=>by simp [assoc] at h
 |x::l,i,j,v,h=>by
  simp only [assoc] at h;by_cases hk:k=x.1
  ·rw [if_pos hk] at h;injection h with h
   injection h with h1 h2
   exact ⟨0,by omega,by simp [hk,←h2],fun u=>by simp [aput,hk]⟩
  ·rw [if_neg hk] at h;obtain ⟨n,h1,h2,h3⟩:=assoc_some h;exact ⟨n+1,by omega,by simpa using h2,fun u=>by simp [aput,hk,h3 u]⟩
theorem assoc_none {k:κ}:∀ {l:List (κ × Value)} {i:Nat},assoc k l i=none→∀ u,aput k u l=l++ [(k,u)]
 | [],_,_,u=>rfl
 |x::l,i,h,u=>by
  simp only [assoc] at h;by_cases hk:k=x.1
  ·rw [if_pos hk] at h; simp at h
  ·rw [if_neg hk] at h;simp [aput,hk,assoc_none h u]
theorem MapIs.store {w:World} {b:Nat} {l:List (κ × Value)} (hm:MapIs w kv b l) (h:KeyType P kt kv) (t el:TypeId) (ht:P.underlying t=some (.map kt el)) (k:κ) (v:Value):
  ∃ w',(mapUpdate t (.map (some b)) (kv k) v).run P w= .ok () w'∧MapIs w' kv b (aput k v l)∧w.grownBy w' (some b)∧w'.heap.size=w.heap.size:=by
 obtain ⟨E,clock,hb,hE⟩:=hm;have hf:=run_findKey_is h w k E.toList l hE;have hg:(getObj b:Sem Obj).run P w= .ok (.map E clock) w:=by simp [getObj,Sem.run,hb]
 have hlt:b<w.heap.size:=by
  rcases Nat.lt_or_ge b w.heap.size with g|g
  ·exact g
  ·rw [Array.getElem?_eq_none g] at hb; cases hb
 have hset:∀ (o':Obj) (E':Array MapEntry) (c':Nat),o'= .map E' c'→(setObj b o':Sem Unit).run P w= .ok () {w with heap:=w.heap.setIfInBounds b o'}:=by
  intro o' E' c' e; simp [setObj,Sem.run,hb]
 have fin:∀ (E':Array MapEntry) (c':Nat),E'.toList.map (fun e=>(e.key,e.val))=(aput k v l).map (fun x=>(kv x.1,x.2))→
   MapIs {w with heap:=w.heap.setIfInBounds b (.map E' c')} kv b (aput k v l)∧w.grownBy {w with heap:=w.heap.setIfInBounds b (.map E' c')} (some b)∧({w with heap:=w.heap.setIfInBounds b (.map E' c')}:World).heap.size=w.heap.size:=by
  intro E' c' hE';refine ⟨⟨E',c',by simp [hlt],hE'⟩,⟨rfl,rfl,rfl,by simp,fun j hj hne=> ?_⟩,by simp⟩
  show (w.heap.setIfInBounds b _)[j]?=_;rw [Array.getElem?_setIfInBounds_ne (fun e=>hne (by rw [e]))]
 unfold mapUpdate;simp only [Sem.run_bind,run_underlying ht,Result.andThen_ok,hg,h.check,hf];cases ha:assoc k l 0 with
 |none=>
  have:=fin (E.push {key:=kv k,val:=v,born:=clock}) (clock+1) (by
   rw [assoc_none ha v]; simp [hE])
  exact ⟨_,hset _ _ _ rfl,this⟩
 |some r=>
  obtain ⟨j,u⟩:=r;obtain ⟨n,hj,hn,hp⟩:=assoc_some ha;have hjn:j=n:=by omega
  subst hjn;have hl:E.toList.length=l.length:=by have:=congrArg List.length hE; simpa using this
  have hnl:j<l.length:=(List.getElem?_eq_some_iff.1 hn).1;have hkey:((E[j]?).map (·.key)).getD (kv k)=kv k:=by
   have h1:=congrArg (fun x=>x[j]?) hE;simp only [List.getElem?_map,hn] at h1;have h2:j<E.size:=by have e:E.toList.length=E.size:=Array.length_toList; omega
   simp [Array.getElem?_eq_getElem h2] at h1 ⊢
   exact h1.1
  have:=fin (E.modify j fun e=>{e with key:=kv k,val:=v}) clock (by
   rw [hp v];apply List.ext_getElem?
   intro m;have h1:=congrArg (fun x=>x[m]?) hE;simp only [List.getElem?_map] at h1;by_cases hm:j=m
   ·subst hm;have h2:j<E.size:=by have e:E.toList.length=E.size:=Array.length_toList; omega
    simp [Array.toList_modify,h2,hnl]
   ·simp [Array.toList_modify,hm,List.getElem?_set_ne hm]
    simpa using h1)
  refine ⟨_,?_,this⟩;simp only [hkey,keyThatStays,h.stays,if_true];exact hset _ _ _ rfl
theorem wp_mapUpdate_is {o:Oper} {a:Act} {K:Act→World→Prop} {Q:Exit→Act→World→Prop} (w:World) (m x v:Operand) (t:TypeId) (hop:o.op=Op.mapUpdate t m x v)
  (h:KeyType P kt kv) (el:TypeId) (ht:P.underlying t=some (.map kt el)) (b:Nat) (l:List (κ × Value)) (hmap:MapIs w kv b l) (k:κ) (val:Value)
  (hm:a.eval m= .map (some b)) (hx:a.eval x=kv k) (hv:a.eval v=val)
  (hK:∀ w',MapIs w' kv b (aput k val l)→w.grownBy w' (some b)→w'.heap.size=w.heap.size→K (a.put o.dst undef) w'):o.wp P a w K Q:=by
 obtain ⟨w',hrun,r1,r2,r3⟩:=hmap.store h t el ht k val;unfold Oper.wp;simp [execOp,hop,hm,hx,hv,hrun,Result.andThen]
 exact hK w' r1 r2 r3
theorem wpList_mapUpdate_is {ops:Array Oper} {rest:List Oper} {o:Oper} {a:Act} {Q:Exit→Act→World→Prop} (w:World) (hg:o.guard=none) (m x v:Operand) (t:TypeId) (hop:o.op=Op.mapUpdate t m x v)
  (h:KeyType P kt kv) (el:TypeId) (ht:P.underlying t=some (.map kt el)) (b:Nat) (l:List (κ × Value)) (hmap:MapIs w kv b l) (k:κ) (val:Value)
  (hm:a.eval m= .map (some b)) (hx:a.eval x=kv k) (hv:a.eval v=val)
  (hK:∀ w',MapIs w' kv b (aput k val l)→w.grownBy w' (some b)→w'.heap.size=w.heap.size→wpList P ops Q rest (a.put o.dst undef) w'):wpList P ops Q (o::rest) a w:=
 wpList_plain hg fun K' hK'=>wp_mapUpdate_is w m x v t hop h el ht b l hmap k val hm hx hv fun w' r1 r2 r3=>hK' _ _ (hK w' r1 r2 r3)
end
def ss (k:List UInt8):Value:= .string ⟨k.toArray⟩
theorem bytes_beq_refl (a:ByteArray):(a==a)=true:=by rw [beq_toListBytes]; simp
theorem ss_beq (a b:List UInt8):((⟨a.toArray⟩:ByteArray)==⟨b.toArray⟩)=decide (a=b):=by
 rw [beq_toListBytes,Bool.eq_iff_iff]; simp
theorem ss_run (w:World) (a b:List UInt8):(Op.equalIn 10000 9 (ss a) (ss b)).run Tryz.prog w= .ok (decide (a=b)) w:=by
 simp only [ss];rw [show (10000:Nat)=9999+1 from rfl,run_equalIn_string w 9999 9 _ _ Tryz.underlying9];simp only [ByteArray.toList_mk];rw [show (a==b)=decide (a=b) by rw [Bool.eq_iff_iff]; simp]
theorem ss_type:KeyType Tryz.prog 9 ss where
 check:=fun e w k=>by
  rw [show (10000:Nat)=9999+1 from rfl,checkKey];simp [run_underlying Tryz.underlying9,ss]
 equal:=fun w a b=>by
  exact ss_run w a b
 now:=⟨_,Tryz.underlying9,fun k E l i hE=> .inr (by
  induction E generalizing l i with
  |nil=>cases l with
   |nil=>rfl
   |cons x l=>simp at hE
  |cons e E ih=>cases l with
   |nil=>simp at hE
   |cons x l=>
    simp only [List.map_cons,List.cons.injEq,Prod.mk.injEq] at hE;obtain ⟨⟨h1,h2⟩,h3⟩:=hE;simp only [findNow,h1,ss,sameNow,ss_beq,assoc];by_cases hk:k=x.1
    ·simp [hk,h2]
    ·simp only [hk,decide_false];exact ih l (i+1) h3)⟩
 stays:=fun k=>by simp [ss,sameBits,bytes_beq_refl]
section
variable {P:Program} {kt:TypeId} {κ:Type} [DecidableEq κ] {kv:κ→Value}
def adel (k:κ):List (κ × Value)→List (κ × Value)
 | []=> []
 |x::l=>if k=x.1 then l else x::adel k l
theorem adel_some {k:κ}:∀ {l:List (κ × Value)} {i j:Nat} {v:Value},assoc k l i=some (j,v)→∃ n,j=i+n∧n<l.length∧adel k l=l.eraseIdx n
 | [],_,_,_,h=>by simp [assoc] at h
 |x::l,i,j,v,h=>by
  simp only [assoc] at h;by_cases hk:k=x.1
  ·rw [if_pos hk] at h;injection h with h
   injection h with h1 h2
   exact ⟨0,by omega,by simp,by simp [adel,hk]⟩
  ·rw [if_neg hk] at h;obtain ⟨n,h1,h2,h3⟩:=adel_some h;exact ⟨n+1,by omega,by simpa using h2,by simp [adel,hk,h3]⟩
theorem adel_none {k:κ}:∀ {l:List (κ × Value)} {i:Nat},assoc k l i=none→adel k l=l
 | [],_,_=>rfl
 |x::l,i,h=>by
  simp only [assoc] at h;by_cases hk:k=x.1
  ·rw [if_pos hk] at h; simp at h
  ·rw [if_neg hk] at h;simp [adel,hk,adel_none h]
theorem map_erase {α β:Type} (f:α→β):∀ (l:List α) (n:Nat),(l.eraseIdx n).map f=(l.map f).eraseIdx n
 | [],_=>by simp
 |x::l,0=>by simp
 |x::l,n+1=>by simp [map_erase f l n]
theorem MapIs.drop {w:World} {b:Nat} {l:List (κ × Value)} (hm:MapIs w kv b l) (h:KeyType P kt kv) (t el:TypeId) (ht:P.underlying t=some (.map kt el)) (k:κ) (k2 ty:TypeId):
  ∃ w',(Builtin.delete_ #[t,k2] ty #[.map (some b),kv k]).run P w= .ok (.tuple #[]) w'∧MapIs w' kv b (adel k l)∧w.grownBy w' (some b)∧w'.heap.size=w.heap.size:=by
 obtain ⟨E,clock,hb,hE⟩:=hm;have hf:=run_findKey_is h w k E.toList l hE;have hg:(getObj b:Sem Obj).run P w= .ok (.map E clock) w:=by simp [getObj,Sem.run,hb]
 have hlt:b<w.heap.size:=by
  rcases Nat.lt_or_ge b w.heap.size with g|g
  ·exact g
  ·rw [Array.getElem?_eq_none g] at hb; cases hb
 have hset:∀ (E':Array MapEntry) (c':Nat),(setObj b (.map E' c'):Sem Unit).run P w= .ok () {w with heap:=w.heap.setIfInBounds b (.map E' c')}:=by
  intro E' c'; simp [setObj,Sem.run,hb]
 have fin:∀ (E':Array MapEntry) (c':Nat),E'.toList.map (fun e=>(e.key,e.val))=(adel k l).map (fun x=>(kv x.1,x.2))→
   MapIs {w with heap:=w.heap.setIfInBounds b (.map E' c')} kv b (adel k l)∧w.grownBy {w with heap:=w.heap.setIfInBounds b (.map E' c')} (some b)∧({w with heap:=w.heap.setIfInBounds b (.map E' c')}:World).heap.size=w.heap.size:=by
  intro E' c' hE';refine ⟨⟨E',c',by simp [hlt],hE'⟩,⟨rfl,rfl,rfl,by simp,fun j hj hne=> ?_⟩,by simp⟩
  show (w.heap.setIfInBounds b _)[j]?=_;rw [Array.getElem?_setIfInBounds_ne (fun e=>hne (by rw [e]))]
 unfold Builtin.delete_;simp only [Sem.run_bind,run_underlying ht,Result.andThen_ok,hg,h.check,hf,List.getElem?_toArray,List.getElem?_cons_zero,List.getElem?_cons_succ];cases ha:assoc k l 0 with
 |none=>
  have:=fin E clock (by rw [adel_none ha]; exact hE)
  refine ⟨_,?_,this⟩;simp [hset]
 |some r=>
  obtain ⟨j,u⟩:=r;obtain ⟨n,hj,hn,hp⟩:=adel_some ha;have hjn:j=n:=by omega
  subst hjn;have hl:E.toList.length=l.length:=by have:=congrArg List.length hE; simpa using this
  have:=fin (E.eraseIdxIfInBounds j) clock (by
   rw [hp,Array.toList_eraseIdxIfInBounds,map_erase,hE,map_erase])
  refine ⟨_,?_,this⟩;simp [hset]
end
theorem MapIs.len_run {P:Program} {κ:Type} {kv:κ→Value} {w:World} {b:Nat} {l:List (κ × Value)} (hm:MapIs w kv b l) {t k el:TypeId} (ht:P.underlying t=some (.map k el)) (ty:TypeId):(Builtin.len_ #[t] ty #[.map (some b)]).run P w= .ok (.int .i64 (l.length:Int)) w:=by
 obtain ⟨E,clock,hb,hE⟩:=hm;have hg:(getObj b:Sem Obj).run P w= .ok (.map E clock) w:=by simp [getObj,Sem.run,hb]
 have hl:E.size=l.length:=by have:=congrArg List.length hE; simpa using this
 unfold Builtin.len_;simp [Sem.run_bind,run_underlying ht,hg,hl,goInt]
def lookB (D:List (List UInt8 × List UInt8)) (k:List UInt8):Option (List UInt8):=match D with
 | []=>none
 |x::l=>if k=x.1 then some x.2 else lookB l k
def putB (D:List (List UInt8 × List UInt8)) (k v:List UInt8):List (List UInt8 × List UInt8):=match D with
 | []=> [(k,v)]
 |x::l=>if k=x.1 then (k,v)::l else x::putB l k v
def delB (D:List (List UInt8 × List UInt8)) (k:List UInt8):List (List UInt8 × List UInt8):=match D with
 | []=> []
 |x::l=>if k=x.1 then l else x::delB l k
def Ents (w:World):List (List UInt8 × List UInt8)→List (List UInt8 × Value)→Prop
 | [],[]=>True
 |x::D,y::vs=>y.1=x.1∧(∃ A c,y.2= .slice A x.2.length c∧Reads w w.heap.size 1 A x.2.length (bvals x.2))∧Ents w D vs
 |_,_=>False
theorem Ents.keep {w w':World}:∀ {D:List (List UInt8 × List UInt8)} {vs:List (List UInt8 × Value)},(∀ A n l,Reads w w.heap.size 1 A n (bvals l)→Reads w' w'.heap.size 1 A n (bvals l))→Ents w D vs→Ents w' D vs
 | [],[],_,_=>trivial
 | [],_::_,_,h=>h.elim
 |_::_,[],_,h=>h.elim
 |x::D,y::vs,hk,h=>by
  obtain ⟨h1,⟨A,c,h2,h3⟩,h4⟩:=h;exact ⟨h1,⟨A,c,h2,hk _ _ _ h3⟩,Ents.keep hk h4⟩
theorem Ents.look {w:World} (k:List UInt8):∀ {D:List (List UInt8 × List UInt8)} {vs:List (List UInt8 × Value)} (i:Nat),Ents w D vs→
  (lookB D k=none∧assoc k vs i=none)∨∃ v j A c,lookB D k=some v∧assoc k vs i=some (j,.slice A v.length c)∧Reads w w.heap.size 1 A v.length (bvals v)
 | [],[],_,_=> .inl ⟨rfl,rfl⟩
 | [],_::_,_,h=>h.elim
 |_::_,[],_,h=>h.elim
 |x::D,y::vs,i,h=>by
  obtain ⟨h1,⟨A,c,h2,h3⟩,h4⟩:=h;simp only [lookB,assoc,h1];by_cases hk:k=x.1
  ·rw [if_pos hk,if_pos hk,h2];exact .inr ⟨x.2,i,A,c,rfl,rfl,h3⟩
  ·rw [if_neg hk,if_neg hk];exact Ents.look k (i+1) h4
theorem Ents.put {w:World} (k v:List UInt8) (A:Option Addr) (c:Nat) (hv:Reads w w.heap.size 1 A v.length (bvals v)):∀ {D:List (List UInt8 × List UInt8)} {vs:List (List UInt8 × Value)},Ents w D vs→Ents w (putB D k v) (aput k (.slice A v.length c) vs)
 | [],[],_=>⟨rfl,⟨A,c,rfl,hv⟩,trivial⟩
 | [],_::_,h=>h.elim
 |_::_,[],h=>h.elim
 |x::D,y::vs,h=>by
  obtain ⟨h1,h2,h4⟩:=h;simp only [putB,aput,h1];by_cases hk:k=x.1
  ·rw [if_pos hk,if_pos hk];exact ⟨rfl,⟨A,c,rfl,hv⟩,h4⟩
  ·rw [if_neg hk,if_neg hk];exact ⟨h1,h2,Ents.put k v A c hv h4⟩
theorem Ents.del {w:World} (k:List UInt8):∀ {D:List (List UInt8 × List UInt8)} {vs:List (List UInt8 × Value)},Ents w D vs→Ents w (delB D k) (adel k vs)
 | [],[],_=>trivial
 | [],_::_,h=>h.elim
 |_::_,[],h=>h.elim
 |x::D,y::vs,h=>by
  obtain ⟨h1,h2,h4⟩:=h;simp only [delB,adel,h1];by_cases hk:k=x.1
  ·rw [if_pos hk,if_pos hk];exact h4
  ·rw [if_neg hk,if_neg hk];exact ⟨h1,h2,Ents.del k h4⟩
theorem Ents.length {w:World}:∀ {D:List (List UInt8 × List UInt8)} {vs:List (List UInt8 × Value)},Ents w D vs→vs.length=D.length
 | [],[],_=>rfl
 | [],_::_,h=>h.elim
 |_::_,[],h=>h.elim
 |x::D,y::vs,h=>by simp [Ents.length h.2.2]
structure BMap (w:World) (b:Nat) (D:List (List UInt8 × List UInt8)):Prop where
 ex:∃ vs,MapIs w ss b vs∧Ents w D vs
section
variable {w w':World} {b:Nat} {D:List (List UInt8 × List UInt8)}
theorem MapIs.no_cell {κ:Type} {kv:κ→Value} {l:List (κ × Value)} (hm:MapIs w kv b l) (p:Addr) (hp:p.block=b):w.cell? p=none:=by
 obtain ⟨E,clock,hb,_⟩:=hm;subst hp;unfold World.cell?;simp [hb]
theorem Reads.off_map {κ:Type} {kv:κ→Value} {l:List (κ × Value)} (hm:MapIs w kv b l) {B size n:Nat} {A:Option Addr} {xs:List Value} (hr:Reads w B size A n xs) (hB:B≤w.heap.size) (hg:w.grownBy w' (some b)):Reads w' B size A n xs:=
 ⟨hr.1,fun hn=>by
  obtain ⟨ad,e,hbl,hc⟩:=hr.2 hn;refine ⟨ad,e,hbl,fun j u hu=> ?_⟩;have h1:=hc j u hu;have hne:(ad.add j).block≠b:=fun e2=>by rw [hm.no_cell _ e2] at h1; cases h1
  rw [World.cell?_of_block (hg.block (ad.add j).block (by rw [block_of_add]; omega) (by intro e; injection e with e; exact hne e))];exact h1⟩
theorem Ents.off_map {vs0:List (List UInt8 × Value)} (hm:MapIs w ss b vs0) {D':List (List UInt8 × List UInt8)} {vs:List (List UInt8 × Value)} (h:Ents w D' vs) (hg:w.grownBy w' (some b)) (hs:w'.heap.size=w.heap.size):Ents w' D' vs:=
 h.keep fun A n l hr=>by rw [hs]; exact hr.off_map hm (Nat.le_refl _) hg
theorem BMap.store (h:BMap w b D) (k v:List UInt8) (A:Option Addr) (c:Nat) (hv:Reads w w.heap.size 1 A v.length (bvals v)):∃ vs,MapIs w ss b vs∧∀ w',MapIs w' ss b (aput k (.slice A v.length c) vs)→w.grownBy w' (some b)→w'.heap.size=w.heap.size→BMap w' b (putB D k v):=by
 obtain ⟨vs,h1,h2⟩:=h.ex;exact ⟨vs,h1,fun w' a1 a2 a3=>⟨_,a1,(h2.put k v A c hv).off_map h1 a2 a3⟩⟩
theorem BMap.made (w:World) (c:Nat):BMap (w.alloc (.map #[] c)) w.heap.size []:=⟨[],MapIs.made w c,trivial⟩
theorem BMap.lt (h:BMap w b D):b<w.heap.size:=by obtain ⟨vs,h1,_⟩:=h.ex; exact h1.lt
theorem BMap.next (h:BMap w b D) (hb:Below w.heap.size w w'):BMap w' b D:=by
 obtain ⟨vs,h1,h2⟩:=h.ex;exact ⟨vs,h1.kept (hb.block b h1.lt),h2.keep fun A n l hr=>(hr.below hb).more hb.size⟩
theorem BMap.get (h:BMap w b D) {t:TypeId} (ht:Tryz.prog.underlying t=some (.map 9 118)) (k:List UInt8):
  ∃ A n c,(∀ W,Below w.heap.size w W→(lookup t (.map (some b)) (ss k) false).run Tryz.prog W= .ok (.slice A n c) W)∧
   (∀ W,Below w.heap.size w W→(convert 118 9 (.slice A n c)).run Tryz.prog W= .ok (.string ⟨((lookB D k).getD []).toArray⟩) W)∧
   (∀ W,Below w.heap.size w W→(lookup t (.map (some b)) (ss k) true).run Tryz.prog W= .ok (.tuple #[.slice A n c,.bool (lookB D k).isSome]) W):=by
 have hz:∀ W,(zeroValue 118).run Tryz.prog W= .ok (.slice none 0 0) W:=fun W=>by kernel_rfl
 obtain ⟨vs,h1,h2⟩:=h.ex;rcases h2.look k 0 with ⟨e1,e2⟩|⟨v,j,A,c,e1,e2,e3⟩
 ·refine ⟨none,0,0,fun W hW=> ?_,fun W hW=> ?_,fun W hW=> ?_⟩
  ·rw [(h1.kept (hW.block b h1.lt)).look ss_type t _ ht _ (hz W) k false,e2]; rfl
  ·rw [e1];exact conv_reads W W.heap.size none 0 0 [] Reads.none_
  ·rw [(h1.kept (hW.block b h1.lt)).look ss_type t _ ht _ (hz W) k true,e2,e1]; rfl
 ·refine ⟨A,v.length,c,fun W hW=> ?_,fun W hW=> ?_,fun W hW=> ?_⟩
  ·rw [(h1.kept (hW.block b h1.lt)).look ss_type t _ ht _ (hz W) k false,e2]; rfl
  ·rw [e1];exact conv_reads W W.heap.size A _ c v ((e3.below hW).more hW.size)
  ·rw [(h1.kept (hW.block b h1.lt)).look ss_type t _ ht _ (hz W) k true,e2,e1]; rfl
theorem BMap.len (h:BMap w b D) {t k el:TypeId} (ht:Tryz.prog.underlying t=some (.map k el)) (ty:TypeId):(Builtin.len_ #[t] ty #[.map (some b)]).run Tryz.prog w= .ok (.int .i64 (D.length:Int)) w:=by
 obtain ⟨vs,h1,h2⟩:=h.ex;rw [h1.len_run ht,h2.length]
end
def ik (k:Nat):Value:= .int .i64 (k:Int)
theorem ik_run (w:World) (a b:Nat):(Op.equalIn 10000 3 (ik a) (ik b)).run Tryz.prog w= .ok (decide (a=b)) w:=by
 simp only [ik];rw [show (10000:Nat)=9999+1 from rfl,run_equalIn_int w 9999 3 _ _ _ _ Tryz.underlying3];rw [show ((a:Int)==(b:Int))=decide (a=b) by rw [Bool.eq_iff_iff]; simp; omega]
theorem ik_type:KeyType Tryz.prog 3 ik where
 check:=fun e w k=>by
  rw [show (10000:Nat)=9999+1 from rfl,checkKey];simp [run_underlying Tryz.underlying3,ik]
 equal:=fun w a b=>by
  exact ik_run w a b
 now:=⟨_,Tryz.underlying3,fun k E l i hE=> .inr (by
  induction E generalizing l i with
  |nil=>cases l with
   |nil=>rfl
   |cons x l=>simp at hE
  |cons e E ih=>cases l with
   |nil=>simp at hE
   |cons x l=>
    simp only [List.map_cons,List.cons.injEq,Prod.mk.injEq] at hE;obtain ⟨⟨h1,h2⟩,h3⟩:=hE;simp only [findNow,h1,ik,sameNow,assoc];by_cases hk:k=x.1
    ·simp [hk,h2]
    ·have hb:((k:Int)==(x.1:Int))=false:=by simp; omega
     simp only [hk,hb,if_true,if_false];exact ih l (i+1) h3)⟩
 stays:=fun k=>by simp [ik,sameBits]
def lookN (D:List (Nat × List UInt8)) (k:Nat):Option (List UInt8):=match D with
 | []=>none
 |x::l=>if k=x.1 then some x.2 else lookN l k
def putN (D:List (Nat × List UInt8)) (k:Nat) (v:List UInt8):List (Nat × List UInt8):=match D with
 | []=> [(k,v)]
 |x::l=>if k=x.1 then (k,v)::l else x::putN l k v
def delN (D:List (Nat × List UInt8)) (k:Nat):List (Nat × List UInt8):=match D with
 | []=> []
 |x::l=>if k=x.1 then l else x::delN l k
def EntsN (w:World):List (Nat × List UInt8)→List (Nat × Value)→Prop
 | [],[]=>True
 |x::D,y::vs=>y.1=x.1∧(∃ A c,y.2= .slice A x.2.length c∧Reads w w.heap.size 1 A x.2.length (bvals x.2))∧EntsN w D vs
 |_,_=>False
theorem EntsN.keep {w w':World}:∀ {D:List (Nat × List UInt8)} {vs:List (Nat × Value)},(∀ A n l,Reads w w.heap.size 1 A n (bvals l)→Reads w' w'.heap.size 1 A n (bvals l))→EntsN w D vs→EntsN w' D vs
 | [],[],_,_=>trivial
 | [],_::_,_,h=>h.elim
 |_::_,[],_,h=>h.elim
 |x::D,y::vs,hk,h=>by
  obtain ⟨h1,⟨A,c,h2,h3⟩,h4⟩:=h;exact ⟨h1,⟨A,c,h2,hk _ _ _ h3⟩,EntsN.keep hk h4⟩
theorem EntsN.look {w:World} (k:Nat):∀ {D:List (Nat × List UInt8)} {vs:List (Nat × Value)} (i:Nat),EntsN w D vs→
  (lookN D k=none∧assoc k vs i=none)∨∃ v j A c,lookN D k=some v∧assoc k vs i=some (j,.slice A v.length c)∧Reads w w.heap.size 1 A v.length (bvals v)
 | [],[],_,_=> .inl ⟨rfl,rfl⟩
 | [],_::_,_,h=>h.elim
 |_::_,[],_,h=>h.elim
 |x::D,y::vs,i,h=>by
  obtain ⟨h1,⟨A,c,h2,h3⟩,h4⟩:=h;simp only [lookN,assoc,h1];by_cases hk:k=x.1
  ·rw [if_pos hk,if_pos hk,h2];exact .inr ⟨x.2,i,A,c,rfl,rfl,h3⟩
  ·rw [if_neg hk,if_neg hk];exact EntsN.look k (i+1) h4
theorem EntsN.put {w:World} (k:Nat) (v:List UInt8) (A:Option Addr) (c:Nat) (hv:Reads w w.heap.size 1 A v.length (bvals v)):∀ {D:List (Nat × List UInt8)} {vs:List (Nat × Value)},EntsN w D vs→EntsN w (putN D k v) (aput k (.slice A v.length c) vs)
 | [],[],_=>⟨rfl,⟨A,c,rfl,hv⟩,trivial⟩
 | [],_::_,h=>h.elim
 |_::_,[],h=>h.elim
 |x::D,y::vs,h=>by
  obtain ⟨h1,h2,h4⟩:=h;simp only [putN,aput,h1];by_cases hk:k=x.1
  ·rw [if_pos hk,if_pos hk];exact ⟨rfl,⟨A,c,rfl,hv⟩,h4⟩
  ·rw [if_neg hk,if_neg hk];exact ⟨h1,h2,EntsN.put k v A c hv h4⟩
theorem EntsN.del {w:World} (k:Nat):∀ {D:List (Nat × List UInt8)} {vs:List (Nat × Value)},EntsN w D vs→EntsN w (delN D k) (adel k vs)
 | [],[],_=>trivial
 | [],_::_,h=>h.elim
 |_::_,[],h=>h.elim
 |x::D,y::vs,h=>by
  obtain ⟨h1,h2,h4⟩:=h;simp only [delN,adel,h1];by_cases hk:k=x.1
  ·rw [if_pos hk,if_pos hk];exact h4
  ·rw [if_neg hk,if_neg hk];exact ⟨h1,h2,EntsN.del k h4⟩
structure RMap (w:World) (b:Nat) (D:List (Nat × List UInt8)):Prop where
 ex:∃ vs,MapIs w ik b vs∧EntsN w D vs
section
variable {w w':World} {b:Nat} {D:List (Nat × List UInt8)}
theorem EntsN.off_map {vs0:List (Nat × Value)} (hm:MapIs w ik b vs0) {D':List (Nat × List UInt8)} {vs:List (Nat × Value)} (h:EntsN w D' vs) (hg:w.grownBy w' (some b)) (hs:w'.heap.size=w.heap.size):EntsN w' D' vs:=
 h.keep fun A n l hr=>by rw [hs]; exact hr.off_map hm (Nat.le_refl _) hg
theorem RMap.store (h:RMap w b D) (k:Nat) (v:List UInt8) (A:Option Addr) (c:Nat) (hv:Reads w w.heap.size 1 A v.length (bvals v)):∃ vs,MapIs w ik b vs∧∀ w',MapIs w' ik b (aput k (.slice A v.length c) vs)→w.grownBy w' (some b)→w'.heap.size=w.heap.size→RMap w' b (putN D k v):=by
 obtain ⟨vs,h1,h2⟩:=h.ex;exact ⟨vs,h1,fun w' a1 a2 a3=>⟨_,a1,(h2.put k v A c hv).off_map h1 a2 a3⟩⟩
theorem RMap.lt (h:RMap w b D):b<w.heap.size:=by obtain ⟨vs,h1,_⟩:=h.ex; exact h1.lt
theorem RMap.next (h:RMap w b D) (hb:Below w.heap.size w w'):RMap w' b D:=by
 obtain ⟨vs,h1,h2⟩:=h.ex;exact ⟨vs,h1.kept (hb.block b h1.lt),h2.keep fun A n l hr=>(hr.below hb).more hb.size⟩
theorem RMap.off (h:RMap w b D) {c:Nat} (hc:∀ p:Addr,p.block=c→w.cell? p=none) (hbc:b≠c) (hg:w.grownBy w' (some c)):RMap w' b D:=by
 obtain ⟨vs,h1,h2⟩:=h.ex;refine ⟨vs,h1.kept (hg.block b h1.lt (by intro e; injection e with e; exact hbc e)),h2.keep fun A n l hr=> ?_⟩;refine Reads.more ?_ hg.size;refine ⟨hr.1,fun hn=> ?_⟩;obtain ⟨ad,e,hbl,hcl⟩:=hr.2 hn;refine ⟨ad,e,hbl,fun j u hu=> ?_⟩;have h3:=hcl j u hu;have hne:(ad.add j).block≠c:=fun e2=>by rw [hc _ e2] at h3; cases h3
 rw [World.cell?_of_block (hg.block (ad.add j).block (by rw [block_of_add]; omega) (by intro e; injection e with e; exact hne e))];exact h3
theorem RMap.get (h:RMap w b D) {t:TypeId} (ht:Tryz.prog.underlying t=some (.map 3 118)) (k:Nat):
  ∃ A n c,(∀ W,Below w.heap.size w W→(lookup t (.map (some b)) (ik k) false).run Tryz.prog W= .ok (.slice A n c) W)∧
   (∀ W,Below w.heap.size w W→(convert 118 9 (.slice A n c)).run Tryz.prog W= .ok (.string ⟨((lookN D k).getD []).toArray⟩) W)∧
   (∀ W,Below w.heap.size w W→(lookup t (.map (some b)) (ik k) true).run Tryz.prog W= .ok (.tuple #[.slice A n c,.bool (lookN D k).isSome]) W):=by
 have hz:∀ W,(zeroValue 118).run Tryz.prog W= .ok (.slice none 0 0) W:=fun W=>by kernel_rfl
 obtain ⟨vs,h1,h2⟩:=h.ex;rcases h2.look k 0 with ⟨e1,e2⟩|⟨v,j,A,c,e1,e2,e3⟩
 ·refine ⟨none,0,0,fun W hW=> ?_,fun W hW=> ?_,fun W hW=> ?_⟩
  ·rw [(h1.kept (hW.block b h1.lt)).look ik_type t _ ht _ (hz W) k false,e2]; rfl
  ·rw [e1];exact conv_reads W W.heap.size none 0 0 [] Reads.none_
  ·rw [(h1.kept (hW.block b h1.lt)).look ik_type t _ ht _ (hz W) k true,e2,e1]; rfl
 ·refine ⟨A,v.length,c,fun W hW=> ?_,fun W hW=> ?_,fun W hW=> ?_⟩
  ·rw [(h1.kept (hW.block b h1.lt)).look ik_type t _ ht _ (hz W) k false,e2]; rfl
  ·rw [e1];exact conv_reads W W.heap.size A _ c v ((e3.below hW).more hW.size)
  ·rw [(h1.kept (hW.block b h1.lt)).look ik_type t _ ht _ (hz W) k true,e2,e1]; rfl
end
end
def mul256 (x:UInt32):UInt32:=x*256
end Go.Proofs.YtnelhjfjkkdoaaaGreatDoor