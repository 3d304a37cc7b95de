import Derived.Test.YtnelhjfjkkdoaaaGreatDoorJ23
import Derived.Maps.RangeWalk
import Derived.Deep.RegionHeld3
import Derived.Test.YtnelhjfjkkdoaaaGreatDoorJ01
import Derived.Lib.FrozenHead
set_option linter.unusedSimpArgs false
set_option linter.unusedVariables false
namespace Go.Proofs.YtnelhjfjkkdoaaaGreatDoor
open Go.RowKit Go.Instr
theorem tk {P : Program} {md : Region.Mode} {ops : Array Oper} {Q : Exit → Act → World → Prop} {S : World → Prop} {fuel : Nat} {listed : Array Bool} {a : Act} {w : World} {v : Value} {op : Op} {ty : TypeId} {pos : String} {af : Array Edge} {gd : Option (Nat × Bool)} (i s : Nat) (hi : ops[i]? = some ⟨some s,op,ty,pos,af,gd⟩)
  (h : wpAnyH P md ops Q S fuel (listed.setIfInBounds i true) (a.put (some s) v) w) (hs : Region.noSelect ops = true:=by kernel_rfl) (hf : Region.free md ops listed i = true:=by kernel_rfl) (hr : (Region.ready md ops listed).contains i = true:=by kernel_rfl)
  (hQ : ∀ c a w,Q (.panic c) (a.put (some s) v) w → Q (.panic c) a w:=by exact fun _ _ _ h=>h) (hy : YieldsIf P ops S ⟨some s,op,ty,pos,af,gd⟩ v a:=by first | (refine Or.inl ⟨by rfl, ?_⟩; intro w hSw; (try dsimp only at hSw); (try go_split_ands); go_simp; (first | done | with_reducible rfl)) | exact Or.inr ⟨by rfl,rfl⟩) (hS : S w:=by assumption) :
  wpAnyH P md ops Q S (fuel + 1) listed a w:=wpAnyH_take hi hs hf hr hQ hy hS h
section
variable {P : Program} {md : Region.Mode} {ops : Array Oper} {Q : Exit → Act → World → Prop} {S : World → Prop} {fuel : Nat} {listed : Array Bool} {a : Act} {w : World} {o p : Oper}
theorem rd1 (i : Nat) (ho : ops[i]? = some o) (h : ∀ K' : Act → World → Prop,Shut (∀ a w,S w → (S w → wpAnyH P md ops Q S fuel (listed.setIfInBounds i true) a w) → K' a w) → if Region.wanted o (yielded ops a.tmps) = true then Oper.wp P o a w K' Q else K' (a.put o.dst undef) w) (hr : Region.ready md ops listed = [i]:=by kernel_rfl) :
  wpAnyH P md ops Q S (fuel + 1) listed a w:=wpAnyH_ready hr (by simp) (AllReadyH.cons ho h AllReadyH.nil)
theorem rd2 (i j : Nat) (ho : ops[i]? = some o) (hp : ops[j]? = some p) (h : ∀ K' : Act → World → Prop,Shut (∀ a w,S w → (S w → wpAnyH P md ops Q S fuel (listed.setIfInBounds i true) a w) → K' a w) → if Region.wanted o (yielded ops a.tmps) = true then Oper.wp P o a w K' Q else K' (a.put o.dst undef) w)
  (h2 : ∀ K' : Act → World → Prop,Shut (∀ a w,S w → (S w → wpAnyH P md ops Q S fuel (listed.setIfInBounds j true) a w) → K' a w) → if Region.wanted p (yielded ops a.tmps) = true then Oper.wp P p a w K' Q else K' (a.put p.dst undef) w) (hr : Region.ready md ops listed = [i,j]:=by kernel_rfl) :
  wpAnyH P md ops Q S (fuel + 1) listed a w:=wpAnyH_ready hr (by simp) (AllReadyH.cons ho h (AllReadyH.cons hp h2 AllReadyH.nil))
end
def mkRow (w : World) (base : Nat) (v : Value) (l : List UInt8) : Prop :=
 ∃ g cap cur fz,v = .slice (some ⟨g,0,none⟩) l.length cap ∧ base ≤ g ∧ w.heap[g]? = some (.cells cur 5 fz) ∧ (∀ j,j < cur.size → ¬ (fz.1 ≤ j ∧ j < fz.2)) ∧ l.length ≤ cap ∧ cap ≤ maxLen ∧ cur.size = cap ∧ cur.toList.take l.length = bvals l
theorem mk_store (P : Program) (g o : Nat) (t : TypeId) (fz : Nat × Nat) : ∀ (vs : List Value) (i : Nat) (cur : Array Value) (w : World),w.heap[g]? = some (.cells cur t fz) → (∀ j,j < cur.size → ¬ (fz.1 ≤ j ∧ j < fz.2)) → o + i + vs.length ≤ cur.size → (∀ u ∈ vs,u.oneCell' = true) →
  (storeCells ⟨g,o,none⟩ vs i).run P w = .ok () (w.setRow g (cur.toList.take (o + i) ++ vs ++ cur.toList.drop (o + i + vs.length)).toArray)
 | [],i,cur,w,hg,_,_,_=>by
  simp only [storeCells,List.append_nil,List.length_nil,Nat.add_zero,List.take_append_drop,Array.toArray_toList]
  rw [setRow_self w g cur t fz hg]
  rfl
 | v :: rest,i,cur,w,hg,hfz,hl,h1=>by
  have hi : o + i < cur.size:=by simp at hl; omega
  have hadd : (⟨g,o,none⟩ : Addr).add i = ⟨g,o + i,none⟩:=by unfold Addr.add; split <;> simp_all
  have hcell : w.cell? ⟨g,o + i,none⟩ = some cur[o + i]:=by simp [World.cell?,hg,hi]
  have hfro : w.frozen? ⟨g,o + i,none⟩ = false:=by
   have:=hfz (o + i) hi
   obtain ⟨lo,hi'⟩:=fz
   simp only [World.frozen?,hg,Bool.and_eq_false_iff,decide_eq_false_iff_not]
   simp only at this
   omega
  have hst : (store ((⟨g,o,none⟩ : Addr).add i) v).run P w = .ok () (w.setRow g (cur.setIfInBounds (o + i) v)):=by
   rw [hadd,run_store P w _ v _ (h1 v (by simp)),hcell]
   simp [hfro,setCell_eq_setRow w g (o + i) cur t fz v hg]
  have ih:=mk_store P g o t fz rest (i + 1) (cur.setIfInBounds (o + i) v) (w.setRow g (cur.setIfInBounds (o + i) v)) (setRow_heap w g cur _ t _ hg) (by simpa using hfz) (by simp at hl ⊢; omega) (fun x hx=>h1 x (by simp [hx]))
  simp only [storeCells,Sem.run_bind,hst,Result.andThen_ok,ih,setRow_setRow]
  congr 3
  have e:=list_seg_step cur.toList (o + i) v rest (by simp at hl ⊢; omega)
  simpa [Array.toList_setIfInBounds,Nat.add_assoc] using e
theorem cells_str (s : List UInt8) : Lib.strCells ⟨s.toArray⟩ = bvals s:=by simp [Lib.strCells,bvals]
theorem mk_append (w : World) (base : Nat) (ty : TypeId) (i : TypeInfo) (hi : Tryz.prog.info? 5 = some i) (hz : i.zero = some (.int .u8 0)) (hsize : i.size = 1) (hby : i.bytes = 1) (v : Value) (l : List UInt8) (h : mkRow w base v l) (s : List UInt8) (hn : l.length + s.length ≤ 100000) (hbase : base ≤ w.heap.size) :
  ∃ v' w',(Builtin.append_ #[118,9] ty #[v,.string ⟨s.toArray⟩]).run Tryz.prog w = .ok v' w' ∧ mkRow w' base v' (l ++ s) ∧ w.grownBy w' v.ownBlock:=by
 obtain ⟨g,cap,cur,fz,rfl,hbg,hg,hfz,hnc,hcm,hcs,htake⟩:=h
 have hss : (ByteArray.mk s.toArray).size = s.length:=by simp [ByteArray.size]
 have hbl : (bvals s).length = s.length:=by simp [bvals]
 by_cases hroom : l.length + s.length ≤ cap
 ·have hf:=Lib.run_firstCells_string (P:=Tryz.prog) w 1 ⟨s.toArray⟩
  have hst:=mk_store Tryz.prog g l.length 5 fz (Lib.strCells ⟨s.toArray⟩) 0 cur w hg hfz (by rw [cells_str,hbl]; omega) (Lib.strCells_oneCell _)
  rw [hss] at hf
  simp only [Nat.add_zero] at hst
  refine ⟨.slice (some ⟨g,0,none⟩) (l.length + s.length) cap,w.setRow g (cur.toList.take l.length ++ Lib.strCells ⟨s.toArray⟩ ++ cur.toList.drop (l.length + (Lib.strCells ⟨s.toArray⟩).length)).toArray,by
   simp [Builtin.append_,run_underlying Tryz.underlying118,run_underlying Tryz.underlying9,sizeOf,typeInfo,hi,hsize,Builtin.lenOf,hss,hroom,hf,Addr.add_lit,hst], ?_, ?_⟩
  ·refine ⟨g,cap,_,fz,by rw [List.length_append],hbg,setRow_heap w g cur _ _ _ hg, ?_,by rw [List.length_append]; exact hroom,hcm, ?_, ?_⟩
   ·intro j hj
    refine hfz j ?_
    simp only [List.size_toArray,List.length_append,List.length_take,List.length_drop,Array.length_toList,cells_str,hbl] at hj
    omega
   ·simp only [List.size_toArray,List.length_append,List.length_take,List.length_drop,Array.length_toList,cells_str,hbl]
    omega
   ·rw [htake,cells_str]
    show List.take _ (bvals l ++ bvals s ++ _) = _
    rw [List.take_left' (by simp [bvals])]
    simp [bvals]
  ·exact ⟨rfl,rfl,rfl,by simp,fun k _ hk=>setRow_other w g k _ (fun e=>hk (by simp [Value.ownBlock,e]))⟩
 ·have holds : ∀ j u,(bvals l)[j]? = some u → w.cell? ((⟨g,0,none⟩ : Addr).add j) = some u:=fun j u hu=>by
   have ha : (⟨g,0,none⟩ : Addr).add j = ⟨g,j,none⟩:=by unfold Addr.add; split <;> simp_all
   rw [ha,cell_of_row w g j cur _ fz hg]
   rw [← htake,List.getElem?_take] at hu
   split at hu
   ·simpa using hu
   ·cases hu
  have hr:=Lib.run_append_grow_string (P:=Tryz.prog) w 118 9 ty 5 i (.int .u8 0) Tryz.underlying118 Tryz.underlying9 hi hz ⟨g,0,none⟩ l.length cap (bvals l) (by rw [hsize]; simp [bvals]) holds ⟨s.toArray⟩ (by rw [hss]; omega) (by rw [hss]; omega) (by rw [hby]; exact growslice_fits (by simp only [maxLen] at hcm; omega) (by rw [hss]; omega))
  have hge:=grownCap_ge w (l.length + s.length) cap 5
  have hcm2 : grownCap w (l.length + s.length) cap 5 ≤ maxLen:=grownCap_le_maxLen w (l.length + s.length) cap 5 (by simp only [maxLen]; omega)
  have hll : (bvals l).length = l.length:=by simp [bvals]
  rw [hss,cells_str] at hr
  refine ⟨_,_,hr,⟨w.heap.size,_,_,(0,0),by rw [List.length_append],hbase,heap_alloc_new w.drew _,fun j _ hc=>by omega,by rw [List.length_append]; exact hge,hcm2, ?_, ?_⟩,⟨rfl,rfl,rfl,by simp,fun k hk _=>heap_alloc_old w.drew _ hk⟩⟩
  ·have hz1 : (Value.int IntKind.u8 0).cells.size = 1:=rfl
   simp only [Array.size_append,List.size_toArray,size_zeroCells,hz1,hbl,hll]
   omega
  ·simp only [Array.toList_append,List.append_assoc]
   rw [← List.append_assoc,List.take_left' (by simp [bvals])]
   simp [bvals]
theorem reads_blk16 {w : World} {b e size n : Nat} {xs : Array Value} (h : Blk w b e xs) (hn : xs.size = n * size) : Reads w w.heap.size size (some ⟨b,0,none⟩) n xs.toList:=by
 refine ⟨by simpa using hn,fun _=>⟨_,rfl,h.lt,fun j u hu => ?_⟩⟩
 have hj : j < xs.size:=by have:=(List.getElem?_eq_some_iff.1 hu).1; simpa using this
 have:=h.cell j
 rw [show (⟨b,0,none⟩ : Addr).add j = ⟨b,j,none⟩ by unfold Addr.add; split <;> simp_all]
 rw [this]
 simpa using hu
end Go.Proofs.YtnelhjfjkkdoaaaGreatDoor
