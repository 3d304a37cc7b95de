import Derived.Test.YtdkiloganbhfkaaGreatDoorJ47
import Derived.Test.YtdkiloganbhfkaaGreatDoorJ30
set_option linter.unusedSimpArgs false
set_option linter.unusedVariables false
set_option maxRecDepth 100000
namespace Go.Proofs.YtdkiloganbhfkaaGreatDoor
section
open Go.RowKit Go.Instr Go.ChangeShapes Go.WideShapes Go.ChangeAt Go.ChangeMaps Go.Joins Go.Deep
theorem open_blocks {H:Type} {enc:TypeId × Value→H} {W:World} {fuel:Nat} {A:Option Addr} {n c:Nat} {x:DataW H × List MemPlace}
  (h:DataW.trod enc Tryz.prog W 0 (fun _=>true) true fuel 24 [.slice A n c]=some x):
  ∃ L:List BlkM,L.length=n∧n≤c∧BlksAt W A L:=by
 obtain ⟨L,h1,h2,h3,h4,h5⟩:∃ L:List BlkM,L.length=n∧Reads W W.heap.size 2 A n (wbcells L)∧n≤maxLen∧n≤c∧∀ x∈L,TxsAt W x.2.2.1 x.2.1:=by
  rcases open_slice_fields Tryz.underlying24 Tryz.underlying96 (by kernel_rfl) (by kernel_rfl) h with ⟨e,_⟩|⟨a,len,cap,m,D,Pl,e,hb,hl,hcap,hm,_,hi⟩
  ·injection e with e _
   injection e with e1 e2 e3
   subst e1;subst e2;exact ⟨[],rfl,Reads.none_,by simp only [maxLen]; omega,Nat.zero_le _,fun x hx=>by cases hx⟩
  ·injection e with e _
   injection e with e1 e2 e3
   subst e1;subst e2;have hmn:n≤m:=by rw [hm]; simp only [if_true]; omega
   obtain ⟨L,h1,h2,h3⟩:=open_flat (f:=wbcell) (k:=2) (by decide) wbcell_len (fun x:BlkM=>TxsAt W x.2.2.1 x.2.1) (W:=W) (a:=a) (n:=n) (fun i hin=>by
    obtain ⟨ys,k,_,_,hyl,hf⟩:=hi i (by omega);obtain ⟨v0,y0,c0,_,t0⟩:=hf 0 _ rfl;obtain ⟨v1,y1,c1,_,t1⟩:=hf 1 _ rfl;obtain ⟨s0,e0,_⟩:=DataW.trod_int Tryz.underlying3 t0;injection e0 with e0
    subst e0;obtain ⟨A7,n7,m7,rfl⟩:=slice_of16 Tryz.underlying42 t1;obtain ⟨M,hM,_,HM⟩:=open_txs t1;subst hM;refine ⟨(s0,M,A7,m7),fun j v hv=> ?_,HM⟩
    match j,hv with
    |0,hv=>injection hv with hv; subst hv; exact c0
    |1,hv=>injection hv with hv; subst hv; exact c1
    |j+2,hv=>cases hv)
   exact ⟨L,h1,h2,by omega,by omega,h3⟩
 exact ⟨L,h1,h4,⟨by rw [h1]; exact h2,h5,by simp only [maxLen] at h3; omega⟩⟩
structure World35At (W:World) (A:Option Addr) (l:List Ex.Ac) (B:Option Addr) (set:List Pw.Mem) (C:Option Addr) (bl:List BlkM) (D:Option Addr) (bad:List (List UInt8)):Prop where
 a:Reads W W.heap.size 3 A l.length (acells l)
 al:∀ x∈l,x.1.length≤9223372036854775807
 an:l.length≤9223372036854775807
 s:Reads W W.heap.size 2 B set.length (mcells set)
 sl:∀ x∈set,x.1.length≤9223372036854775807
 b:BlksAt W C bl
 d:Reads W W.heap.size 1 D bad.length (strv bad)
 dn:bad.length≤9223372036854775807
theorem open_world35 {H:Type} {enc:TypeId × Value→H} {W:World} {r:Reach} {b0:Nat} {v:Value} {d:DataW H} {p:List MemPlace} (hv:Value.okWide Tryz.prog W r b0 27 v) (h:DataW.Trod enc Tryz.prog W 0 (fun _=>true) true 27 v d p):
  ∃ (A:Option Addr) (l:List Ex.Ac) (c:Nat) (B:Option Addr) (set:List Pw.Mem) (d:Nat) (C:Option Addr) (bl:List BlkM) (e:Nat) (D:Option Addr) (bad:List (List UInt8)) (f:Nat),v= .agg #[.slice A l.length c,.slice B set.length d,.slice C bl.length e,.slice D bad.length f]∧World35At W A l B set C bl D bad:=by
 obtain ⟨k0,k1,k2,k3,y0,y1,y2,y3,n,rfl,_,_,t0,t1,t2,t3⟩:=open_agg4 Tryz.underlying27 (by kernel_rfl) (by kernel_rfl) hv h;obtain ⟨A,n0,c,rfl⟩:=slice_of16 Tryz.underlying22 t0;obtain ⟨B,n1,d,rfl⟩:=slice_of16 Tryz.underlying23 t1;obtain ⟨C,n2,e,rfl⟩:=slice_of16 Tryz.underlying24 t2;obtain ⟨D,n3,f,rfl⟩:=slice_of16 Tryz.underlying25 t3;obtain ⟨l,a1,a2,a3,_,a5⟩:=open_accounts t0;obtain ⟨s,b1,b2,_,_,b5⟩:=open_members t1;obtain ⟨bl,c1,_,c5⟩:=open_blocks t2;obtain ⟨t,d1,d2,d3,_⟩:=open_texts t3;subst a1;subst b1;subst c1;subst d1;simp only [maxLen] at a3 d3;exact ⟨A,l,c,B,s,d,C,bl,e,D,t,f,rfl,a2,a5,by omega,b2,b5,c5,d2,by omega⟩
theorem array2_35 {cs:Array Value} (h:cs.size=2):∃ a b,cs=#[a,b]:=by
 obtain ⟨l⟩:=cs
 match l,h with
 | [a,b],_=>exact ⟨a,b,rfl⟩
theorem open_i2 {H:Type} {enc:TypeId × Value→H} {W:World} {r:Reach} {base b0:Nat} {spare:Nat→Bool} {held:Bool} {v:Value} {d:DataW H} {p:List MemPlace} (hv:Value.okWide Tryz.prog W r b0 28 v) (h:DataW.Trod enc Tryz.prog W base spare held 28 v d p):
  ∃ y z:Int,v= .agg #[y,z]:=by
 have hform:∃ cs,v= .agg cs∧cs.size=Tryz.prog.cellsOf 28:=by
  have h:=hv;simp only [Value.okWide,Tryz.underlying28] at h;obtain ⟨cs,h1,h2,_⟩:=h;exact ⟨cs,h1,h2⟩
 obtain ⟨cs,rfl,hsz⟩:=hform;rw [show Tryz.prog.cellsOf 28=2 from by kernel_rfl] at hsz;obtain ⟨c0,c1,rfl⟩:=array2_35 hsz;obtain ⟨fuel,hf⟩:=h;obtain ⟨xs,m,_,_,_,hl,hx⟩:=DataW.trod_array Tryz.underlying28 hf;have k1:Tryz.prog.cellsOf 3=1:=by kernel_rfl
 have h0:=hx 0 (by omega);have h1:=hx 1 (by omega);rw [k1] at h0 h1;have g0:DataW.trod enc Tryz.prog W base spare held m 3 [c0]=some (xs[0]'(by omega)):=by
  rw [←List.getElem?_eq_getElem (by omega),←h0]; rfl
 have g1:DataW.trod enc Tryz.prog W base spare held m 3 [c1]=some (xs[1]'(by omega)):=by
  rw [←List.getElem?_eq_getElem (by omega),←h1]; rfl
 obtain ⟨s0,e0,_⟩:=DataW.trod_int Tryz.underlying3 g0;obtain ⟨s1,e1,_⟩:=DataW.trod_int Tryz.underlying3 g1;injection e0 with e0
 injection e1 with e1
 subst e0 e1;exact ⟨s0,s1,rfl⟩
end
end Go.Proofs.YtdkiloganbhfkaaGreatDoor