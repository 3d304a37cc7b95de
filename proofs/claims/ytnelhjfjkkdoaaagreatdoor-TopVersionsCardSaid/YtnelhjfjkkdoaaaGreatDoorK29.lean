import Derived.Test.YtnelhjfjkkdoaaaGreatDoorK28
set_option linter.unusedSimpArgs false
set_option linter.unusedVariables false
namespace Go.Proofs.YtnelhjfjkkdoaaaGreatDoor
section
open Go.RowKit Go.Instr Go.ChangeMaps
def NdN (R:List (Nat × List UInt8)):Prop:=(R.map (·.1)).Nodup
theorem lookN_none {D:List (Nat × List UInt8)} {k:Nat} (h:k ∉ D.map (·.1)):lookN D k=none:=by
 induction D with
 |nil=>rfl
 |cons x D ih=>
  simp only [List.map_cons,List.mem_cons,not_or] at h;rw [lookN,if_neg h.1];exact ih h.2
theorem lookN_some {D:List (Nat × List UInt8)} {k:Nat} (h:k∈D.map (·.1)):∃ r,lookN D k=some r:=by
 induction D with
 |nil=>cases h
 |cons x D ih=>
  rw [lookN];by_cases e:k=x.1
  ·exact ⟨x.2,if_pos e⟩
  ·rw [if_neg e];rw [List.map_cons] at h;exact ih ((List.mem_cons.1 h).resolve_left e)
theorem delN_mem {D:List (Nat × List UInt8)} {k:Nat} {x:Nat × List UInt8} (h:x∈delN D k):x∈D:=by
 induction D with
 |nil=>cases h
 |cons y D ih=>
  rw [delN] at h
  split at h
  ·exact List.mem_cons_of_mem _ h
  ·rcases List.mem_cons.1 h with rfl|h
   ·exact List.mem_cons_self
   ·exact List.mem_cons_of_mem _ (ih h)
theorem delN_nd {D:List (Nat × List UInt8)} {k:Nat} (h:NdN D):NdN (delN D k):=by
 induction D with
 |nil=>exact h
 |cons y D ih=>
  unfold NdN at h ih ⊢;rw [List.map_cons,List.nodup_cons] at h;rw [delN]
  split
  ·exact h.2
  ·rw [List.map_cons,List.nodup_cons];refine ⟨fun hm=>h.1 ?_,ih h.2⟩;obtain ⟨z,hz,e⟩:=List.mem_map.1 hm;exact List.mem_map.2 ⟨z,delN_mem hz,e⟩
theorem lookN_delN {D:List (Nat × List UInt8)} (h:NdN D) (k s:Nat):lookN (delN D k) s=if s=k then none else lookN D s:=by
 induction D with
 |nil=>simp [delN,lookN]
 |cons y D ih=>
  unfold NdN at h ih;rw [List.map_cons,List.nodup_cons] at h;rw [delN];by_cases hk:k=y.1
  ·rw [if_pos hk,lookN];by_cases hs:s=k
   ·subst hs; rw [if_pos rfl]; exact lookN_none (by rw [hk]; exact h.1)
   ·rw [if_neg hs,if_neg (fun e=>hs (e.trans hk.symm))]
  ·rw [if_neg hk,lookN,lookN,ih h.2];by_cases hs:s=y.1
   ·rw [if_pos hs,if_pos hs,if_neg (fun e=>hk (e.symm.trans hs))]
   ·rw [if_neg hs,if_neg hs]
def pruneL (gone:Nat→Bool) (R:List (Nat × List UInt8)) (l:List Nat):List (Nat × List UInt8):=l.foldl (fun R n=>if gone n=true then delN R n else R) R
theorem pruneL_take (gone:Nat→Bool) (R:List (Nat × List UInt8)) (l:List Nat) (i:Nat) (h:i<l.length):pruneL gone R (l.take (i+1))=if gone l[i]=true then delN (pruneL gone R (l.take i)) l[i] else pruneL gone R (l.take i):=by
 unfold pruneL;rw [List.take_succ_eq_append_getElem h,List.foldl_append];rfl
theorem pruneL_spec (gone:Nat→Bool):∀ (l:List Nat) (R:List (Nat × List UInt8)),NdN R→NdN (pruneL gone R l)∧(∀ x∈pruneL gone R l,x∈R)∧∀ s,lookN (pruneL gone R l) s=if s∈l∧gone s=true then none else lookN R s
 | [],D,h=>⟨h,fun x hx=>hx,fun s=>by simp [pruneL]⟩
 |y::l,D,h=>by
  have e:pruneL gone D (y::l)=pruneL gone (if gone y=true then delN D y else D) l:=rfl;rw [e];by_cases hy:gone y=true
  ·rw [if_pos hy];obtain ⟨a,b,c⟩:=pruneL_spec gone l (delN D y) (delN_nd h);refine ⟨a,fun x hx=>delN_mem (b x hx),fun s=> ?_⟩;rw [c s,lookN_delN h];by_cases h1:s=y
   ·subst h1;rw [if_pos (show s=s from rfl),if_pos (show s∈s::l∧gone s=true from ⟨List.mem_cons_self,hy⟩)]
    split<;>rfl
   ·rw [if_neg h1];by_cases h2:s∈l∧gone s=true
    ·rw [if_pos h2,if_pos ⟨List.mem_cons_of_mem _ h2.1,h2.2⟩]
    ·rw [if_neg h2,if_neg (fun h3=>h2 ⟨(List.mem_cons.1 h3.1).resolve_left h1,h3.2⟩)]
  ·rw [if_neg hy];obtain ⟨a,b,c⟩:=pruneL_spec gone l D h;refine ⟨a,b,fun s=> ?_⟩;rw [c s];by_cases h2:s∈l∧gone s=true
   ·rw [if_pos h2,if_pos ⟨List.mem_cons_of_mem _ h2.1,h2.2⟩]
   ·rw [if_neg h2,if_neg (fun h3=>h2 ⟨(List.mem_cons.1 h3.1).resolve_left (fun e=>hy (by rw [←e]; exact h3.2)),h3.2⟩)]
def goneN (below last:Int) (n:Nat):Bool:=decide ((n:Int)<below) && !decide ((n:Int)=last)
def stayL (gone:Nat→Bool) (R:List (Nat × List UInt8)) (l:List Nat):List (List UInt8):=(l.filter fun n=> !gone n).map fun n=>(lookN R n).getD []
theorem stayL_take (gone:Nat→Bool) (R:List (Nat × List UInt8)) (l:List Nat) (i:Nat) (h:i<l.length):stayL gone R (l.take (i+1))=if gone l[i]=true then stayL gone R (l.take i) else stayL gone R (l.take i)++ [(lookN R l[i]).getD []]:=by
 unfold stayL;rw [List.take_succ_eq_append_getElem h,List.filter_append,List.map_append];by_cases hg:gone l[i]=true
 ·rw [if_pos hg]; simp [hg]
 ·rw [if_neg hg]
  have:gone l[i]=false:=by simpa using hg
  simp [this]
theorem stayL_mem {gone:Nat→Bool} {R:List (Nat × List UInt8)} {l:List Nat} {n:Nat} {r:List UInt8} (hn:n∈l) (hg:gone n=false) (hr:lookN R n=some r):r∈stayL gone R l:=by
 unfold stayL;exact List.mem_map.2 ⟨n,List.mem_filter.2 ⟨hn,by simp [hg]⟩,by rw [hr]; rfl⟩
def RM2 (w2 W:World) (rb:Nat) (R:List (Nat × List UInt8)):Prop:=∃ vs,MapIs W ik rb vs∧EntsN w2 R vs
theorem RM2.get {w2 W:World} {rb:Nat} {R:List (Nat × List UInt8)} (h:RM2 w2 W rb R) {vs0:List (Nat × Value)} (hm0:MapIs w2 ik rb vs0) (hg:w2.grownBy W (some rb)) {t:TypeId} (ht:Tryz.prog.underlying t=some (.map 3 118)) {n:Nat} {r:List UInt8} (hl:lookN R n=some r):
  ∃ A c,(lookup t (.map (some rb)) (.int .i64 (n:Int)) false).run Tryz.prog W= .ok (.slice A r.length c) W∧(convert 118 9 (.slice A r.length c)).run Tryz.prog W= .ok (.string ⟨r.toArray⟩) W:=by
 have hz:∀ W,(zeroValue 118).run Tryz.prog W= .ok (.slice none 0 0) W:=fun W=>by kernel_rfl
 obtain ⟨vs,h1,h2⟩:=h;rcases h2.look n 0 with ⟨e1,_⟩|⟨v,j,A,c,e1,e2,e3⟩
 ·rw [hl] at e1; cases e1
 ·rw [hl] at e1
  have:=Option.some.inj e1
  subst this;refine ⟨A,c,?_,conv_reads W _ A _ c r (e3.off_map hm0 hg).r⟩
  have:=h1.look ik_type t _ ht _ (hz W) n false
  simp only [ik] at this;rw [this,e2];rfl
theorem RM2.end_ {w2 W:World} {rb:Nat} {R:List (Nat × List UInt8)} (h:RM2 w2 W rb R) {vs0:List (Nat × Value)} (hm0:MapIs w2 ik rb vs0) (hg:w2.grownBy W (some rb)):RMap W rb R:=by
 obtain ⟨vs,h1,h2⟩:=h;exact ⟨vs,h1,h2.keep fun A n l hr=>hr.off_map hm0 hg⟩
end
end Go.Proofs.YtnelhjfjkkdoaaaGreatDoor