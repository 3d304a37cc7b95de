import Derived.Test.YtnelhjfjkkdoaaaGreatDoorK37
import Derived.Test.YtnelhjfjkkdoaaaGreatDoorK38
import Derived.Test.YtnelhjfjkkdoaaaGreatDoorK36
set_option linter.unusedSimpArgs false
set_option linter.unusedVariables false
namespace Go.Proofs.YtnelhjfjkkdoaaaGreatDoor
section
open Go.RowKit Go.Instr Go.ChangeShapes Go.WideShapes Go.ChangeAt Go.ChangeMaps Go.Joins Go.Deep
theorem open_flat {α:Type} {f:α→List Value} {k:Nat} (hk:0<k) (hf:∀ x,(f x).length=k) (Q:α→Prop) {W:World} {a:Addr} {n:Nat} (each:∀ i,i<n→∃ s:α,(∀ (j:Nat) (v:Value),(f s)[j]?=some v→W.cell? (a.add (i*k+j))=some v)∧Q s):
  ∃ L:List α,L.length=n∧Reads W W.heap.size k (some a) n (L.flatMap f)∧∀ x∈L,Q x:=by
 obtain ⟨L,hL,hc⟩:=list_of (fun i (s:α)=>(∀ (j:Nat) (v:Value),(f s)[j]?=some v→W.cell? (a.add (i*k+j))=some v)∧Q s) n each;refine ⟨L,hL,row_reads (by rw [flat_len f k hf,hL]) hk (fun j u hu=> ?_),fun x hx=>by
  obtain ⟨i,hi2,rfl⟩:=List.getElem_of_mem hx;exact (hc i _ (List.getElem?_eq_getElem hi2)).2⟩
 have hj:j<L.length*k:=by have:=(List.getElem?_eq_some_iff.1 hu).1; rwa [flat_len f k hf] at this
 have hjd:j / k<L.length:=Nat.div_lt_of_lt_mul (by rw [Nat.mul_comm]; exact hj);have hm:j % k<k:=Nat.mod_lt _ hk;have h1:=flat_at f k hf L (j / k) hjd (j % k) hm;have e:j / k*k+j % k=j:=by rw [Nat.mul_comm]; exact Nat.div_add_mod j k
 rw [e,hu] at h1;have h2:=(hc (j / k) _ (List.getElem?_eq_getElem hjd)).1 (j % k) u h1.symm
 rwa [e] at h2
theorem slice_of16 {H:Type} {enc:TypeId × Value→H} {P:Program} {w:World} {base:Nat} {spare:Nat→Bool} {held:Bool} {t e:TypeId} {fuel:Nat} {k:Value} {x:DataW H × List MemPlace} (ht:P.underlying t=some (.slice e))
  (h:DataW.trod enc P w base spare held fuel t [k]=some x):∃ A n c,k= .slice A n c:=by
 rcases open_slice ht h with ⟨e,_⟩|⟨a,len,cap,m,n,D,Pl,e,_⟩
 ·injection e with e _
  exact ⟨_,_,_,e⟩
 ·injection e with e _
  exact ⟨_,_,_,e⟩
structure CxAt (W:World) (x:Ch):Prop where
 r:Reads W W.heap.size 2 x.2.1 x.1.length (icells x.1)
 s:∀ y∈x.1,y.1.length≤9223372036854775807∧y.2.length≤9223372036854775807
 m:x.1.length≤9223372036854775807
theorem open_changes {H:Type} {enc:TypeId × Value→H} {W:World} {fuel:Nat} {A:Option Addr} {n c:Nat} {x:DataW H × List MemPlace}
  (h:DataW.trod enc Tryz.prog W 0 (fun _=>true) true fuel 22 [.slice A n c]=some x):
  ∃ L:List Ch,L.length=n∧n≤c∧ChAt W A L:=by
 obtain ⟨L,h1,h2,h3,h4,h5⟩:∃ L:List Ch,L.length=n∧Reads W W.heap.size 1 A n (L.flatMap ccell)∧n≤maxLen∧n≤c∧∀ x∈L,CxAt W x:=by
  rcases open_slice_fields Tryz.underlying22 Tryz.underlying32 (by kernel_rfl) (by kernel_rfl) h with ⟨e,_⟩|⟨a,len,cap,m,D,Pl,e,hb,hl,hcap,hm,_,hi⟩
  ·injection e with e _
   injection e with e1 e2 e3
   subst e1;subst e2;exact ⟨[],rfl,Reads.none_,by simp only [maxLen]; omega,Nat.zero_le _,fun x hx=>by cases hx⟩
  ·injection e with e _
   injection e with e1 e2 e3
   subst e1;subst e2;have hmn:n≤m:=by rw [hm]; simp only [if_true]; omega
   obtain ⟨L,h1,h2,h3⟩:=open_flat (f:=ccell) (k:=1) (by decide) ccell_len (fun x  :Ch=>CxAt W x) (W:=W) (a:=a) (n:=n) (fun i hin=>by
    obtain ⟨ys,k,_,_,hyl,hf⟩:=hi i (by omega);obtain ⟨v0,y0,c0,_,t0⟩:=hf 0 _ rfl;obtain ⟨A7,n7,m7,rfl⟩:=slice_of16 Tryz.underlying30 t0;obtain ⟨M,hM,HM,hm1,_,hm2⟩:=open_items t0;subst hM;refine ⟨(M,A7,m7),fun j v hv=> ?_,⟨HM,hm2,by simp only [maxLen] at hm1; omega⟩⟩
    ·match j,hv with
     |0,hv=>injection hv with hv; subst hv; exact c0
     |j+1,hv=>cases hv
    )
   exact ⟨L,h1,h2,by omega,by omega,h3⟩
 exact ⟨L,h1,h4,⟨by rw [h1]; exact h2,fun x hx=>(h5 x hx).r,fun x hx=>(h5 x hx).s,by simp only [maxLen] at h3; omega,fun x hx=>(h5 x hx).m⟩⟩
end
end Go.Proofs.YtnelhjfjkkdoaaaGreatDoor