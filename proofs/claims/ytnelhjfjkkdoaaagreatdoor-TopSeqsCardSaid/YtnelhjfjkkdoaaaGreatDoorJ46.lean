import Derived.Test.YtnelhjfjkkdoaaaGreatDoorJ44
import Derived.Test.YtnelhjfjkkdoaaaGreatDoorJ45
import Derived.Test.YtnelhjfjkkdoaaaGreatDoorJ35
set_option linter.unusedSimpArgs false
set_option linter.unusedVariables false
namespace Go.Proofs.YtnelhjfjkkdoaaaGreatDoor
section
open Go.RowKit Go.Instr Go.ChangeShapes Go.WideShapes Go.ChangeAt Go.ChangeMaps Go.Joins Go.Deep
theorem open_flat {α:Type} {f:α→List Value} {k:Nat} (hk:0<k) (hf:∀ x,(f x).length=k) (Q:α→Prop) {W:World} {a:Addr} {n:Nat} (each:∀ i,i<n→∃ s:α,(∀ (j:Nat) (v:Value),(f s)[j]?=some v→W.cell? (a.add (i*k+j))=some v)∧Q s):
  ∃ L:List α,L.length=n∧Reads W W.heap.size k (some a) n (L.flatMap f)∧∀ x∈L,Q x:=by
 obtain ⟨L,hL,hc⟩:=list_of (fun i (s:α)=>(∀ (j:Nat) (v:Value),(f s)[j]?=some v→W.cell? (a.add (i*k+j))=some v)∧Q s) n each;refine ⟨L,hL,row_reads (by rw [flat_len f k hf,hL]) hk (fun j u hu=> ?_),fun x hx=>by
  obtain ⟨i,hi2,rfl⟩:=List.getElem_of_mem hx;exact (hc i _ (List.getElem?_eq_getElem hi2)).2⟩
 have hj:j<L.length*k:=by have:=(List.getElem?_eq_some_iff.1 hu).1; rwa [flat_len f k hf] at this
 have hjd:j / k<L.length:=Nat.div_lt_of_lt_mul (by rw [Nat.mul_comm]; exact hj);have hm:j % k<k:=Nat.mod_lt _ hk;have h1:=flat_at f k hf L (j / k) hjd (j % k) hm;have e:j / k*k+j % k=j:=by rw [Nat.mul_comm]; exact Nat.div_add_mod j k
 rw [e,hu] at h1;have h2:=(hc (j / k) _ (List.getElem?_eq_getElem hjd)).1 (j % k) u h1.symm
 rwa [e] at h2
theorem slice_of16 {H:Type} {enc:TypeId × Value→H} {P:Program} {w:World} {base:Nat} {spare:Nat→Bool} {held:Bool} {t e:TypeId} {fuel:Nat} {k:Value} {x:DataW H × List MemPlace} (ht:P.underlying t=some (.slice e))
  (h:DataW.trod enc P w base spare held fuel t [k]=some x):∃ A n c,k= .slice A n c:=by
 rcases open_slice ht h with ⟨e,_⟩|⟨a,len,cap,m,n,D,Pl,e,_⟩
 ·injection e with e _
  exact ⟨_,_,_,e⟩
 ·injection e with e _
  exact ⟨_,_,_,e⟩
theorem text_le {s:ByteArray} (z:s.size≤maxLen):s.data.toList.length≤9223372036854775807:=by
 simp only [maxLen] at z; have e:s.data.toList.length=s.size:=Array.length_toList; omega
theorem open_accounts {H:Type} {enc:TypeId × Value→H} {W:World} {fuel:Nat} {A:Option Addr} {n c:Nat} {x:DataW H × List MemPlace}
  (h:DataW.trod enc Tryz.prog W 0 (fun _=>true) true fuel 55 [.slice A n c]=some x):
  ∃ L:List Ex.Ac,L.length=n∧Reads W W.heap.size 3 A n (acells L)∧n≤maxLen∧n≤c∧∀ x∈L,x.1.length≤9223372036854775807:=by
 rcases open_slice_fields Tryz.underlying55 Tryz.underlying62 (by kernel_rfl) (by kernel_rfl) h with ⟨e,_⟩|⟨a,len,cap,m,D,Pl,e,hb,hl,hcap,hm,_,hi⟩
 ·injection e with e _
  injection e with e1 e2 e3
  subst e1;subst e2;exact ⟨[],rfl,Reads.none_,by simp only [maxLen]; omega,Nat.zero_le _,fun x hx=>by cases hx⟩
 ·injection e with e _
  injection e with e1 e2 e3
  subst e1;subst e2;have hmn:n≤m:=by rw [hm]; simp only [if_true]; omega
  obtain ⟨L,h1,h2,h3⟩:=open_flat (f:=acell) (k:=3) (by decide) acell_len (fun x:Ex.Ac=>x.1.length≤9223372036854775807) (W:=W) (a:=a) (n:=n) (fun i hin=>by
   obtain ⟨ys,k,_,_,hyl,hf⟩:=hi i (by omega);obtain ⟨v0,y0,c0,_,t0⟩:=hf 0 _ rfl;obtain ⟨v1,y1,c1,_,t1⟩:=hf 1 _ rfl;obtain ⟨v2,y2,c2,_,t2⟩:=hf 2 _ rfl;obtain ⟨s0,e0,_,z0⟩:=DataW.trod_string Tryz.underlying9 t0;obtain ⟨s1,e1,_⟩:=DataW.trod_int Tryz.underlying3 t1;obtain ⟨s2,e2,_⟩:=DataW.trod_int Tryz.underlying3 t2;injection e0 with e0; injection e1 with e1; injection e2 with e2
   subst e0; subst e1; subst e2;refine ⟨(s0.data.toList,s1,s2),fun j v hv=> ?_,text_le z0⟩
   match j,hv with
   |0,hv=>injection hv with hv; subst hv; exact c0
   |1,hv=>injection hv with hv; subst hv; exact c1
   |2,hv=>injection hv with hv; subst hv; exact c2
   |j+3,hv=>cases hv)
  exact ⟨L,h1,h2,by omega,by omega,h3⟩
theorem open_members {H:Type} {enc:TypeId × Value→H} {W:World} {fuel:Nat} {A:Option Addr} {n c:Nat} {x:DataW H × List MemPlace}
  (h:DataW.trod enc Tryz.prog W 0 (fun _=>true) true fuel 56 [.slice A n c]=some x):
  ∃ L:List Pw.Mem,L.length=n∧Reads W W.heap.size 2 A n (mcells L)∧n≤maxLen∧n≤c∧∀ x∈L,x.1.length≤9223372036854775807:=by
 rcases open_slice_fields Tryz.underlying56 Tryz.underlying165 (by kernel_rfl) (by kernel_rfl) h with ⟨e,_⟩|⟨a,len,cap,m,D,Pl,e,hb,hl,hcap,hm,_,hi⟩
 ·injection e with e _
  injection e with e1 e2 e3
  subst e1;subst e2;exact ⟨[],rfl,Reads.none_,by simp only [maxLen]; omega,Nat.zero_le _,fun x hx=>by cases hx⟩
 ·injection e with e _
  injection e with e1 e2 e3
  subst e1;subst e2;have hmn:n≤m:=by rw [hm]; simp only [if_true]; omega
  obtain ⟨L,h1,h2,h3⟩:=open_flat (f:=mcell) (k:=2) (by decide) mcell_len (fun x:Pw.Mem=>x.1.length≤9223372036854775807) (W:=W) (a:=a) (n:=n) (fun i hin=>by
   obtain ⟨ys,k,_,_,hyl,hf⟩:=hi i (by omega);obtain ⟨v0,y0,c0,_,t0⟩:=hf 0 _ rfl;obtain ⟨v1,y1,c1,_,t1⟩:=hf 1 _ rfl;obtain ⟨s0,e0,_,z0⟩:=DataW.trod_string Tryz.underlying9 t0;obtain ⟨s1,e1,_⟩:=DataW.trod_int Tryz.underlying3 t1;injection e0 with e0; injection e1 with e1
   subst e0; subst e1;refine ⟨(s0.data.toList,s1),fun j v hv=> ?_,text_le z0⟩
   match j,hv with
   |0,hv=>injection hv with hv; subst hv; exact c0
   |1,hv=>injection hv with hv; subst hv; exact c1
   |j+2,hv=>cases hv)
  exact ⟨L,h1,h2,by omega,by omega,h3⟩
theorem open_txs {H:Type} {enc:TypeId × Value→H} {W:World} {fuel:Nat} {A:Option Addr} {n c:Nat} {x:DataW H × List MemPlace}
  (h:DataW.trod enc Tryz.prog W 0 (fun _=>true) true fuel 68 [.slice A n c]=some x):
  ∃ L:List TxM,L.length=n∧n≤c∧TxsAt W A L:=by
 obtain ⟨L,h1,h2,h3,h4,h5⟩:∃ L:List TxM,L.length=n∧Reads W W.heap.size 8 A n (xcells L)∧n≤maxLen∧n≤c∧∀ x∈L,OkT x.1∧Reads W W.heap.size 2 x.2.1 x.1.mem.length (mcells x.1.mem):=by
  rcases open_slice_fields Tryz.underlying68 Tryz.underlying80 (by kernel_rfl) (by kernel_rfl) h with ⟨e,_⟩|⟨a,len,cap,m,D,Pl,e,hb,hl,hcap,hm,_,hi⟩
  ·injection e with e _
   injection e with e1 e2 e3
   subst e1;subst e2;exact ⟨[],rfl,Reads.none_,by simp only [maxLen]; omega,Nat.zero_le _,fun x hx=>by cases hx⟩
  ·injection e with e _
   injection e with e1 e2 e3
   subst e1;subst e2;have hmn:n≤m:=by rw [hm]; simp only [if_true]; omega
   obtain ⟨L,h1,h2,h3⟩:=open_flat (f:=xcell) (k:=8) (by decide) xcell_len (fun x:TxM=>OkT x.1∧Reads W W.heap.size 2 x.2.1 x.1.mem.length (mcells x.1.mem)) (W:=W) (a:=a) (n:=n) (fun i hin=>by
    obtain ⟨ys,k,_,_,hyl,hf⟩:=hi i (by omega);obtain ⟨v0,y0,c0,_,t0⟩:=hf 0 _ rfl;obtain ⟨v1,y1,c1,_,t1⟩:=hf 1 _ rfl;obtain ⟨v2,y2,c2,_,t2⟩:=hf 2 _ rfl;obtain ⟨v3,y3,c3,_,t3⟩:=hf 3 _ rfl;obtain ⟨v4,y4,c4,_,t4⟩:=hf 4 _ rfl;obtain ⟨v5,y5,c5,_,t5⟩:=hf 5 _ rfl;obtain ⟨v6,y6,c6,_,t6⟩:=hf 6 _ rfl;obtain ⟨v7,y7,c7,_,t7⟩:=hf 7 _ rfl;obtain ⟨s0,e0,_⟩:=DataW.trod_int Tryz.underlying3 t0;obtain ⟨s1,e1,_,z1⟩:=DataW.trod_string Tryz.underlying9 t1;obtain ⟨s2,e2,_⟩:=DataW.trod_int Tryz.underlying3 t2;obtain ⟨s3,e3,_,z3⟩:=DataW.trod_string Tryz.underlying9 t3;obtain ⟨s4,e4,_⟩:=DataW.trod_int Tryz.underlying3 t4;obtain ⟨s5,e5,_,z5⟩:=DataW.trod_string Tryz.underlying9 t5;obtain ⟨s6,e6,_,z6⟩:=DataW.trod_string Tryz.underlying9 t6;injection e0 with e0; injection e1 with e1; injection e2 with e2; injection e3 with e3; injection e4 with e4; injection e5 with e5; injection e6 with e6
    subst e0; subst e1; subst e2; subst e3; subst e4; subst e5; subst e6;obtain ⟨A7,n7,m7,rfl⟩:=slice_of16 Tryz.underlying56 t7;obtain ⟨M,hM,HM,_,_,HMl⟩:=open_members t7;subst hM;refine ⟨(⟨s0,s1.data.toList,s2,s3.data.toList,s4,s5.data.toList,s6.data.toList,M⟩,A7,m7),fun j v hv=> ?_,⟨text_le z1,text_le z3,text_le z5,text_le z6,HMl⟩,HM⟩
    match j,hv with
    |0,hv=>injection hv with hv; subst hv; exact c0
    |1,hv=>injection hv with hv; subst hv; exact c1
    |2,hv=>injection hv with hv; subst hv; exact c2
    |3,hv=>injection hv with hv; subst hv; exact c3
    |4,hv=>injection hv with hv; subst hv; exact c4
    |5,hv=>injection hv with hv; subst hv; exact c5
    |6,hv=>injection hv with hv; subst hv; exact c6
    |7,hv=>injection hv with hv; subst hv; exact c7
    |j+8,hv=>cases hv)
   exact ⟨L,h1,h2,by omega,by omega,h3⟩
 refine ⟨L,h1,h4,⟨by rw [h1]; exact h2,fun p hp=>(h5 p hp).2,fun p hp=>(h5 p hp).1,by simp only [maxLen] at h3; omega⟩⟩
theorem open_blocksT {H:Type} {enc:TypeId × Value→H} {W:World} {fuel:Nat} {A:Option Addr} {n c:Nat} {x:DataW H × List MemPlace}
  (h:DataW.trod enc Tryz.prog W 0 (fun _=>true) true fuel 57 [.slice A n c]=some x):
  ∃ L:List BT,L.length=n∧n≤c∧BTAt W A L:=by
 obtain ⟨L,h1,h2,h3,h4,h5⟩:∃ L:List BT,L.length=n∧Reads W W.heap.size 2 A n (btcells L)∧n≤maxLen∧n≤c∧∀ x∈L,TxsAt W x.2.2.1 x.2.1:=by
  rcases open_slice_fields Tryz.underlying57 Tryz.underlying142 (by kernel_rfl) (by kernel_rfl) h with ⟨e,_⟩|⟨a,len,cap,m,D,Pl,e,hb,hl,hcap,hm,_,hi⟩
  ·injection e with e _
   injection e with e1 e2 e3
   subst e1;subst e2;exact ⟨[],rfl,Reads.none_,by simp only [maxLen]; omega,Nat.zero_le _,fun x hx=>by cases hx⟩
  ·injection e with e _
   injection e with e1 e2 e3
   subst e1;subst e2;have hmn:n≤m:=by rw [hm]; simp only [if_true]; omega
   obtain ⟨L,h1,h2,h3⟩:=open_flat (f:=btcell) (k:=2) (by decide) btcell_len (fun x  :BT=>TxsAt W x.2.2.1 x.2.1) (W:=W) (a:=a) (n:=n) (fun i hin=>by
    obtain ⟨ys,k,_,_,hyl,hf⟩:=hi i (by omega);obtain ⟨v0,y0,c0,_,t0⟩:=hf 0 _ rfl;obtain ⟨v1,y1,c1,_,t1⟩:=hf 1 _ rfl;obtain ⟨s0,e0,_⟩:=DataW.trod_int Tryz.underlying3 t0;injection e0 with e0
    subst e0;obtain ⟨A7,n7,m7,rfl⟩:=slice_of16 Tryz.underlying68 t1;obtain ⟨M,hM,_,HM⟩:=open_txs t1;subst hM;refine ⟨(s0,M,A7,m7),fun j v hv=> ?_,HM⟩
    match j,hv with
    |0,hv=>injection hv with hv; subst hv; exact c0
    |1,hv=>injection hv with hv; subst hv; exact c1
    |j+2,hv=>cases hv)
   exact ⟨L,h1,h2,by omega,by omega,h3⟩
 exact ⟨L,h1,h4,⟨by rw [h1]; exact h2,h5,by simp only [maxLen] at h3; omega⟩⟩
end
end Go.Proofs.YtnelhjfjkkdoaaaGreatDoor