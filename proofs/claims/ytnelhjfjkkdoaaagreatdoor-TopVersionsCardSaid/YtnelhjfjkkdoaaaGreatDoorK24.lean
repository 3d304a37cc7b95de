import Derived.Test.YtnelhjfjkkdoaaaGreatDoorK22
set_option linter.unusedSimpArgs false
set_option linter.unusedVariables false
set_option maxHeartbeats 4000000
set_option maxRecDepth 100000
namespace Go.Proofs.YtnelhjfjkkdoaaaGreatDoor
section
open Go.RowKit Go.Instr
attribute [local go_sem] ba_get ByteArray.mk_append_mk
def LdrP (w:World) (lb g m c:Nat):Prop:=Blk w lb 190 #[.pointer (some ⟨g,0,none⟩),m,c]
theorem grown_cell1 {w:World} {lb i:Nat} {v:Value}:w.grownBy (w.setCell ⟨lb,i,none⟩ v) (some lb):=
 ⟨rfl,rfl,rfl,by simp [World.setCell],fun j hj hne=>Below.heap_setCell _ _ _ _ (fun e=>hne (by rw [e]))⟩
theorem ldr_wrong (w:World) (lb g m:Nat) (h:LdrP w lb g m 0) (e:Nat):
  Calls Tryz.prog 144 #[.pointer (some ⟨lb,0,none⟩),e] w fun e' w'=>e'= .returned (.pointer none)∧LdrP w' lb g m e∧w.grownBy w' (some lb):=by
 have HP:Hid (∀ w',LdrP w' lb g m e→w.grownBy w' (some lb)→(fun e' w'=>e'=Ending.returned (.pointer none)∧LdrP w' lb g m e∧w.grownBy w' (some lb)) (Ending.returned (.pointer none)) w'):=ι (fun w' h1 h2=>⟨rfl,h1,h2⟩);generalize (fun e' w'=>e'=Ending.returned (.pointer none)∧LdrP w' lb g m e∧w.grownBy w' (some lb))=P at HP ⊢;have c2:w.cell? ⟨lb,2,none⟩=some (.int .i64 0):=Blk.cell h 2;have f2:w.frozen? ⟨lb,2,none⟩=false:=Blk.frozen h 2;have HS:Hid (LdrP (w.setCell ⟨lb,2,none⟩ (.int .i64 (e:Int))) lb g m e):=ι (Blk.set_ h 2 _);clear h;go_enter Tryz.func144,Tryz.ntmps144
 go_wp2_with fail
 exact HP.out _ HS.out grown_cell1
theorem ldr_item (w:World) (lb g m long:Nat) (h:LdrP w lb g m 0) (hm:m≤100000) (hl:long≤100000):
  Calls Tryz.prog 145 #[.pointer (some ⟨lb,0,none⟩),long] w fun e' w'=>e'= .returned (.bool (decide ((Trie.itemLd long m).2=0)))∧LdrP w' lb g (Trie.itemLd long m).1 (Trie.itemLd long m).2∧w.grownBy w' (some lb):=by
 have HP:Hid (∀ r w',Trie.itemLd long m=r→LdrP w' lb g r.1 r.2→w.grownBy w' (some lb)→(fun e' w'=>e'=Ending.returned (.bool (decide ((Trie.itemLd long m).2=0)))∧LdrP w' lb g (Trie.itemLd long m).1 (Trie.itemLd long m).2∧w.grownBy w' (some lb)) (Ending.returned (.bool (decide (r.2=0)))) w'):=ι (fun r w' e h1 h2=>by rw [e]; exact ⟨rfl,h1,h2⟩);have HX:Hid (Trie.itemLd long m=if long=0∨long % 2=1 then (m,4) else if 1024<m+1 then (m+1,2) else (m+1,0)):=ι rfl;generalize (fun e' w'=>e'=Ending.returned (.bool (decide ((Trie.itemLd long m).2=0)))∧LdrP w' lb g (Trie.itemLd long m).1 (Trie.itemLd long m).2∧w.grownBy w' (some lb))=P at HP ⊢;have HL:=ι h;generalize Trie.itemLd long m=X at *;have c1:w.cell? ⟨lb,1,none⟩=some (.int .i64 (m:Int)):=Blk.cell h 1;have f1:w.frozen? ⟨lb,1,none⟩=false:=Blk.frozen h 1;by_cases h0:long=0
 ·have HE:Hid (X=(m,4)):=ι (by rw [HX.out,if_pos (.inl h0)]);subst h0;have HW:=ι (ldr_wrong w lb g m h 4);clear HX h c1 f1;go_enter Tryz.func145,Tryz.ntmps145
  go_wp2_with fail
  refine HW.out.mono ?_;rintro e w1 ⟨rfl,h1,h2⟩;have H1:=ι (And.intro h1 h2);clear h1 h2;go_wp2_with fail
  exact HP.out (m,4) _ HE.out H1.out.1 H1.out.2
 ·have hl0:((long:Int)==0)=false:=by simp; exact h0
  by_cases ho:long % 2=1
  ·have hrem:(long:Int) % 2=1:=by omega
   have htm:Int.tmod (long:Int) 2=1:=by rw [Int.tmod_eq_emod_of_nonneg (by omega)]; exact hrem
   have HE:Hid (X=(m,4)):=ι (by rw [HX.out,if_pos (.inr ho)]);have HW:=ι (ldr_wrong w lb g m h 4);clear HX h c1 f1;go_enter Tryz.func145,Tryz.ntmps145
   go_wp2_with fail
   refine HW.out.mono ?_;rintro e w1 ⟨rfl,h1,h2⟩;have H1:=ι (And.intro h1 h2);clear h1 h2;go_wp2_with fail
   exact HP.out (m,4) _ HE.out H1.out.1 H1.out.2
  ·have hrem:(long:Int) % 2=0:=by omega
   have htm:Int.tmod (long:Int) 2=0:=by rw [Int.tmod_eq_emod_of_nonneg (by omega)]; exact hrem
   have hm1:wrap64 ((m:Int)+1)=((m+1:Nat):Int):=IntWalk.wrap64_in _ (by constructor<;>omega);have HS:Hid (LdrP (w.setCell ⟨lb,1,none⟩ (.int .i64 ((m+1:Nat):Int))) lb g (m+1) 0):=ι (Blk.set_ h 1 _);have HG:Hid (w.grownBy (w.setCell ⟨lb,1,none⟩ (.int .i64 ((m+1:Nat):Int))) (some lb)):=ι grown_cell1;rw [if_neg (by simp only [not_or]; exact ⟨h0,ho⟩)] at HX;clear h;go_enter Tryz.func145,Tryz.ntmps145
   go_upto_region 5 with fail
   rw [show (m:Int)+1=((m+1:Nat):Int) from by simp];have HW:=ι (ldr_wrong _ lb g (m+1) HS.out 2);have hmm:m+1≤100001:=by omega
   clear hm1 c1 f1 HL hm hrem htm ho h0;generalize w.setCell ⟨lb,1,none⟩ (.int .i64 ((m+1:Nat):Int))=W1 at *;generalize m+1=mm at *;have c1:W1.cell? ⟨lb,1,none⟩=some (.int .i64 (mm:Int)):=Blk.cell HS.out 1;by_cases hg:1024<mm
   ·rw [if_pos hg] at HX;have hgI:(1024:Int)<mm:=by omega
    go_wp2_with fail
    refine HW.out.mono ?_;rintro e w1 ⟨rfl,h1,h2⟩;have H1:=ι (And.intro h1 h2);clear h1 h2 c1;go_wp2_with fail
    exact HP.out (mm,2) _ HX.out H1.out.1 (HG.out.trans H1.out.2)
   ·rw [if_neg hg] at HX;have hgI:((1024:Int)<mm)=False:=by simp; omega
    go_wp2_with fail
    exact HP.out (mm,0) _ HX.out HS.out HG.out
end
section
open Go.RowKit Go.Instr Go.ChangeMaps
attribute [local go_sem] ba_get ByteArray.mk_append_mk
theorem LdrP.below {w w':World} {lb g m c:Nat} (h:LdrP w lb g m c) (hb:Below w.heap.size w w'):LdrP w' lb g m c:=Blk.below h hb (Blk.lt h)
structure Ld0 (w00 w wr:World) (lb g nb:Nat) (n:Nd) (m c:Nat):Prop where
 ld:LdrP wr lb g m c
 b0:Below w00.heap.size w00 wr
 l0:w00.heap.size≤lb
 nd:Blk wr nb 133 (nodeV n.1 n.2.1 n.2.2.1 n.2.2.2).toArray
 gr:w.grownBy wr (some lb)
structure Ld1 (w00 w wr:World) (lb g nb kb:Nat) (n:Nd) (ts:List Trie.T) (ps:List Value) (m c:Nat):Prop extends Ld0 w00 w wr lb g nb n m c where
 kd:Blk wr kb 134 ps.toArray
 k0:w.heap.size≤kb
 k00:w00.heap.size≤kb
 pl:ps.length=16
 kn:∀ j,j<16→KnotP wr (ts.getD j .nil) (ps.getD j undef)
section
variable {w00 w wr w':World} {lb g nb kb:Nat} {n:Nd} {m c m' c':Nat} {ts:List Trie.T} {ps:List Value}
theorem Ld0.call (h:Ld0 w00 w wr lb g nb n m c) (hg:wr.grownBy w' (some lb)) (hl:LdrP w' lb g m' c'):Ld0 w00 w w' lb g nb n m' c':=
 ⟨hl,h.b0.grown hg h.b0.size (fun k e=>by injection e with e; subst e; exact h.l0),h.l0,h.nd.grown hg (fun e=>Blk.ne_ h.nd h.ld (by decide) (by injection e)),h.gr.trans hg⟩
theorem Ld1.call (h:Ld1 w00 w wr lb g nb kb n ts ps m c) (hg:wr.grownBy w' (some lb)) (hl:LdrP w' lb g m' c'):Ld1 w00 w w' lb g nb kb n ts ps m' c':=
 {h.toLd0.call hg hl with kd:=h.kd.grown hg (fun e=>Blk.ne_ h.kd h.ld (by decide) (by injection e)),k0:=h.k0,k00:=h.k00,pl:=h.pl,kn:=fun j hj=>(h.kn j hj).grown hg (fun cs hc=>Blk.ne_ hc h.ld (by decide) rfl)}
theorem Ld1.below (h:Ld1 w00 w wr lb g nb kb n ts ps m c) (hb:Below wr.heap.size wr w'):Ld1 w00 w w' lb g nb kb n ts ps m c:=h.call (grown_of_low _ hb) (h.ld.below hb)
theorem getD_set_self {α:Type} {l:List α} {i:Nat} {x d:α} (h:i<l.length):(l.set i x).getD i d=x:=by
 rw [List.getD_eq_getElem?_getD,List.getElem?_set_self h]; rfl
theorem getD_set_ne {α:Type} {l:List α} {i j:Nat} {x d:α} (h:i≠j):(l.set i x).getD j d=l.getD j d:=by
 rw [List.getD_eq_getElem?_getD,List.getElem?_set_ne h,List.getD_eq_getElem?_getD]
theorem getD_snoc {α:Type} {l:List α} {j:Nat} {x d:α}:(l++ [x]).getD j d=if j=l.length then x else l.getD j d:=by
 simp only [List.getD_eq_getElem?_getD]
 split
 ·rename_i h; subst h; simp
 ·rename_i h;by_cases hj:j<l.length
  ·rw [List.getElem?_append_left hj]
  ·rw [List.getElem?_eq_none (by simp; omega),List.getElem?_eq_none (by omega)]
theorem Ld1.put (h:Ld1 w00 w wr lb g nb kb n ts ps m c) (t:Trie.T) (x:Value) (hx:KnotP wr t x) (hi:ts.length<16):Ld1 w00 w (wr.setCell ⟨kb,ts.length,none⟩ x) lb g nb kb n (ts++ [t]) (ps.set ts.length x) m c:=by
 have hg:wr.grownBy (wr.setCell ⟨kb,ts.length,none⟩ x) (some kb):=grown_cell1;have hk:∀ cs,¬Blk wr kb 136 cs:=fun cs hc=>Blk.ne_ hc h.kd (by decide) rfl;have hlt:=h.kd.lt;refine ⟨⟨Blk.grown h.ld hg (fun e=>Blk.ne_ h.kd h.ld (by decide) (by injection e with e; exact e.symm)),?_,h.l0,h.nd.grown hg (fun e=>Blk.ne_ h.nd h.kd (by decide) (by injection e)),h.gr.andThen hg (fun j e=>by injection e with e; subst e; exact .inl h.k0)⟩,?_,h.k0,h.k00,by rw [List.length_set]; exact h.pl,fun j hj=> ?_⟩
 ·exact h.b0.grown hg h.b0.size (fun k e=>by
   injection e with e
   subst e;exact h.k00)
 ·have:=h.kd.set_ ts.length x
  rwa [List.setIfInBounds_toArray] at this
 ·rw [getD_snoc]
  split
  ·rename_i e;subst e;rw [getD_set_self (by rw [h.pl]; exact hj)];exact hx.grown hg hk
  ·rename_i e;rw [getD_set_ne (fun e2=>e e2.symm)];exact (h.kn j hj).grown hg hk
end
theorem kidsLd_skip (f:List UInt8→List UInt8→Nat→Nat→Trie.Ld) (K:List (List UInt8)) (at_:Nat→List UInt8) (ts:List Trie.T) (i m c m0 c0:Nat) (hi:i<16) (hs:K.getD i []= []) (h:Trie.kidsLd f K at_ 16 m0 c0=(ts++(Trie.kidsLd f K at_ (16 - i) m c).1,(Trie.kidsLd f K at_ (16 - i) m c).2)):
  Trie.kidsLd f K at_ 16 m0 c0=(ts++ [.nil]++(Trie.kidsLd f K at_ (16 - (i+1)) m c).1,(Trie.kidsLd f K at_ (16 - (i+1)) m c).2):=by
 rw [h,show 16 - i=(15 - i)+1 by omega,show 16 - (i+1)=15 - i by omega];simp only [Trie.kidsLd];rw [show 15 - (15 - i)=i by omega,if_pos hs];simp
theorem kidsLd_step (f:List UInt8→List UInt8→Nat→Nat→Trie.Ld) (K:List (List UInt8)) (at_:Nat→List UInt8) (ts:List Trie.T) (i m c m0 c0:Nat) (hi:i<16) (hs:K.getD i []≠ []) (h:Trie.kidsLd f K at_ 16 m0 c0=(ts++(Trie.kidsLd f K at_ (16 - i) m c).1,(Trie.kidsLd f K at_ (16 - i) m c).2)):
  Trie.kidsLd f K at_ 16 m0 c0=(ts++ [(f (K.getD i []) (at_ i) m c).1]++(Trie.kidsLd f K at_ (16 - (i+1)) (f (K.getD i []) (at_ i) m c).2.1 (f (K.getD i []) (at_ i) m c).2.2).1,(Trie.kidsLd f K at_ (16 - (i+1)) (f (K.getD i []) (at_ i) m c).2.1 (f (K.getD i []) (at_ i) m c).2.2).2):=by
 rw [h,show 16 - i=(15 - i)+1 by omega,show 16 - (i+1)=15 - i by omega];simp only [Trie.kidsLd];rw [show 15 - (15 - i)=i by omega,if_neg hs];simp
def LoadEnd (W:World) (lb g:Nat) (r:Trie.Ld) (e:Ending) (w':World):Prop:=∃ x,e= .returned x∧KnotP w' r.1 x∧LdrP w' lb g r.2.1 r.2.2∧W.grownBy w' (some lb)∧(r.2.2=0→r.2.1≤1024)
theorem z_19 {P:Prop} (h:P:=by
 go_wp2_with fail
 refine HC.out.mono ?_;intro e w4 hw4;obtain ⟨xk,rfl,hk4,h4,hm4⟩:=CE.out e w4 hw4;obtain ⟨xq,rfl⟩:∃ xq,xk= .pointer xq:=by
  rcases hk4.form with ⟨_,h⟩|⟨b2,_,_,h,_⟩
  ·exact ⟨_,h⟩
  ·exact ⟨_,h⟩
 have L4:=ι (And.intro hk4 (And.intro h4 hm4));have kc:w4.cell? ⟨kb,i,none⟩=some (ps.getD i undef):=by
  have:=h4.kd.cell i
  rw [this,List.getElem?_toArray,List.getElem?_eq_getElem (by rw [h4.pl]; exact hi),List.getD_eq_getElem?_getD,List.getElem?_eq_getElem (by rw [h4.pl]; exact hi)];rfl
 have kf:w4.frozen? ⟨kb,i,none⟩=false:=h4.kd.frozen i;clear hw4 hk4 h4 hm4 n0 n1;go_wp2_with fail
 refine Handed.intro (16 - (i+1)) ?_ (hJ1 _ _ _ (fun Φ hΦ=>hΦ (i+1) (r.2.1) (r.2.2) (ts++ [r.1]) (ps.set i (.pointer xq)) ?_))
 ·have:=HI.out.1; omega
 ·refine ⟨by have:=HI.out.1; omega,by rw [List.length_append,HI.out.2.1]; rfl,L4.out.2.2,?_,HI.out.2.2⟩
  have:=L4.out.2.1.put r.1 (.pointer xq) L4.out.1 (by rw [HI.out.2.1]; exact hi)
  rwa [HI.out.2.1] at this):P:=h
theorem load_loop (w00 w w1:World) (lb g nb kb:Nat) (kd:Nat) (p v:List UInt8) (K:List (List UInt8)) (hK:K.length=16) (hp:p.length≤100000) (pl:List UInt8) (hpl:pl.length≤100000) (F:List UInt8→List UInt8→Nat→Nat→Trie.Ld)
  (IH:∀ W i m c,i<16→K.getD i []≠ []→LdrP W lb g m c→Below w00.heap.size w00 W→(c=0→m≤1024)→Calls Tryz.prog 109 #[.pointer (some ⟨lb,0,none⟩),.string ⟨(K.getD i []).toArray⟩,.string ⟨(Trie.kidAt (kd,p,v,K) pl i).toArray⟩,.bool (decide (kd=2))] W (LoadEnd W lb g (F (K.getD i []) (Trie.kidAt (kd,p,v,K) pl i) m c)))
  (m0:Nat) (hm0:m0≤1024) (H0:Ld1 w00 w w1 lb g nb kb (kd,p,v,K) [] (List.replicate 16 (.pointer none)) m0 0)
  (Q:Exit→Act→World→Prop)
  (hQ:∀ ⦃s1 s2 s3 s4 s5 s6 s7 s8 s0 s9 a0 a2 a3 a4 a5 a6 a7 a8 a9 b1 b3 b4 b5 b6 b7 b8 b9 c0 c1 c2 c3 c4 c5 c6 c7 c8 c9 d0 d1 d2 d3 d4 d5 d6 d7 d8 d9 e0 e6 e7 e8 e9 f0 f1 f2 f3 f4 f5 f6 f7 f8 f9 g0 g1 g2 g3 g4 g5 g6 g7 g8 g9 h0 h7 h8 h9 i0 i1 i2 i3 i4 i5 i6 i7 i8 i9 j0 j1 j2 j3 j4 j5 j6 j7 j8 j9 k2 k3 k4 k5 k6 k7 k8 k9 l0 l1 l2 l3 l4 l5 l6 l7 l8 l9 m1:Value⦄ (w2:World) ts ps m c,Trie.kidsLd F K (Trie.kidAt (kd,p,v,K) pl) 16 m0 0=(ts,m,c)→Ld1 w00 w w2 lb g nb kb (kd,p,v,K) ts ps m c→(c=0→m≤1024)→Q (.exit 0) {tmps:=#[.pointer (some ⟨lb,0,none⟩),s1,s2,s3,s4,s5,s6,s7,s8,.pointer (some ⟨nb,0,none⟩),s0,s9,a0,.pointer (some ⟨kb,0,none⟩),a2,a3,a4,a5,a6,a7,a8,a9,b1,b3,b4,b5,b6,b7,b8,b9,c0,c1,c2,c3,c4,c5,c6,c7,c8,c9,d0,d1,d2,d3,d4,d5,d6,d7,d8,d9,e0,e6,e7,e8,e9,f0,f1,f2,f3,f4,f5,f6,f7,f8,f9,g0,g1,g2,g3,g4,g5,g6,g7,g8,g9,h0,h7,h8,h9,i0,i1,i2,i3,i4,i5,i6,i7,i8,i9,j0,j1,j2,j3,j4,j5,j6,j7,j8,j9,k2,k3,k4,k5,k6,k7,k8,k9,l0,l1,l2,l3,l4,l5,l6,l7,l8,l9,m1],defers:= []} w2)
  (s1 s3 s4 s5 s6 s7 s8 s0 s9 a0 a2 a3 a4 a5 a6 a7 a8 a9 b1 b3 b4 b5 b6 b7 b8 b9 c0 c1 c2 c3 c4 c5 c6 c7 c8 c9 d0 d1 d2 d3 d4 d5 d6 d7 d8 d9 e0 e6 e7 e8 e9 f0 f1 f2 f3 f4 f5 f6 f7 f8 f9 g0 g1 g2 g3 g4 g5 g6 g7 g8 g9 h0 h7 h8 h9 i0 i3 i4 i5 i6 i7 i8 i9 j0 j1 j2 j3 j4 j5 j6 j7 j8 j9 k2 k3 k4 k5 k6 k7 k8 k9 l0 l1 l2 l3 l4 l5 l6 l7 l8 l9 m1:Value):
  Code.wp Tryz.prog (.loop (loopAt Tryz.f109 0)) Q {tmps:=#[.pointer (some ⟨lb,0,none⟩),s1,.string ⟨pl.toArray⟩,s3,s4,s5,s6,s7,s8,.pointer (some ⟨nb,0,none⟩),s0,s9,a0,.pointer (some ⟨kb,0,none⟩),a2,a3,a4,a5,a6,a7,a8,a9,b1,b3,b4,b5,b6,b7,b8,b9,c0,c1,c2,c3,c4,c5,c6,c7,c8,c9,d0,d1,d2,d3,d4,d5,d6,d7,d8,d9,e0,e6,e7,e8,e9,f0,f1,f2,f3,f4,f5,f6,f7,f8,f9,g0,g1,g2,g3,g4,g5,g6,g7,g8,g9,h0,h7,h8,h9,i0,.agg (strv K).toArray,.int .i64 0,i3,i4,i5,i6,i7,i8,i9,j0,j1,j2,j3,j4,j5,j6,j7,j8,j9,k2,k3,k4,k5,k6,k7,k8,k9,l0,l1,l2,l3,l4,l5,l6,l7,l8,l9,m1],defers:= []} w1:=by
 have HQ:=ι hQ;have HIH:=ι IH;have HS:=ι H0;clear hQ IH H0;refine wp_loop_ghost_k (fun k a wr=>∀ Φ:Act→Prop,(∀ ⦃s1 s3 s4 s5 s6 s7 s8 s0 s9 a0 a2 a3 a4 a5 a6 a7 a8 a9 b1 b3 b4 b5 b6 b7 b8 b9 c0 c1 c2 c3 c4 c5 c6 c7 c8 c9 d0 d1 d2 d3 d4 d5 d6 d7 d8 d9 e0 e6 e7 e8 e9 f0 f1 f2 f3 f4 f5 f6 f7 f8 f9 g0 g1 g2 g3 g4 g5 g6 g7 g8 g9 h0 h7 h8 h9 i0 i3 i4 i5 i6 i7 i8 i9 j0 j1 j2 j3 j4 j5 j6 j7 j8 j9 k2 k3 k4 k5 k6 k7 k8 k9 l0 l1 l2 l3 l4 l5 l6 l7 l8 l9 m1:Value⦄ (i m c:Nat) (ts:List Trie.T) (ps:List Value),(i+k=16∧ts.length=i∧(c=0→m≤1024)∧Ld1 w00 w wr lb g nb kb (kd,p,v,K) ts ps m c∧Trie.kidsLd F K (Trie.kidAt (kd,p,v,K) pl) 16 m0 0=(ts++(Trie.kidsLd F K (Trie.kidAt (kd,p,v,K) pl) (16 - i) m c).1,(Trie.kidsLd F K (Trie.kidAt (kd,p,v,K) pl) (16 - i) m c).2))→Φ {tmps:=#[.pointer (some ⟨lb,0,none⟩),s1,.string ⟨pl.toArray⟩,s3,s4,s5,s6,s7,s8,.pointer (some ⟨nb,0,none⟩),s0,s9,a0,.pointer (some ⟨kb,0,none⟩),a2,a3,a4,a5,a6,a7,a8,a9,b1,b3,b4,b5,b6,b7,b8,b9,c0,c1,c2,c3,c4,c5,c6,c7,c8,c9,d0,d1,d2,d3,d4,d5,d6,d7,d8,d9,e0,e6,e7,e8,e9,f0,f1,f2,f3,f4,f5,f6,f7,f8,f9,g0,g1,g2,g3,g4,g5,g6,g7,g8,g9,h0,h7,h8,h9,i0,.agg (strv K).toArray,.int .i64 (i:Int),i3,i4,i5,i6,i7,i8,i9,j0,j1,j2,j3,j4,j5,j6,j7,j8,j9,k2,k3,k4,k5,k6,k7,k8,k9,l0,l1,l2,l3,l4,l5,l6,l7,l8,l9,m1],defers:= []})→Φ a) (16) ?_ ?_
 ·refine fun Φ hΦ=>hΦ (0) (m0) (0) ([]) ((List.replicate 16 (.pointer none))) ?_;exact ⟨rfl,rfl,fun _=>hm0,HS.out,by simp⟩
 ·intro k1 a1 wr1 hI1 J1 K1 hJ1 hK1;refine hI1 (fun a=>Code.wp _ _ _ a _) ?_;clear hI1 a1;iterate 112 (intro _)
  intro i m c ts ps hrel
  show Code.wp _ _ _ _ _;clear HS
  conv=>arg 2; whnf
  obtain ⟨h1,h2,h3,h4,h5⟩:=hrel;by_cases hi:i<16
  ·have hi1:(i:Int)<16:=by omega
   have hix:(0:Int)≤i:=by omega
   have HX:=fun w=>run_index_k K hK i hi w;by_cases hs:K.getD i []= []
   ·have h6:=kidsLd_skip F K _ ts i m c m0 0 hi hs h5;rw [hs] at HX;have HI:=ι (And.intro h1 (And.intro h2 (And.intro h3 (And.intro h4 h6))));clear h1 h2 h3 h4 h5 h6 hs;go_wp2
    refine Handed.intro (16 - (i+1)) ?_ (hJ1 _ _ _ (fun Φ hΦ=>hΦ (i+1) (m) (c) (ts++ [.nil]) (ps) ?_))
    ·have:=HI.out.1; omega
    ·refine ⟨by have:=HI.out.1; omega,by rw [List.length_append,HI.out.2.1]; rfl,HI.out.2.2.1,?_,HI.out.2.2.2.2⟩;have h:=HI.out.2.2.2.1;refine {h.toLd0 with kd:=h.kd,k0:=h.k0,k00:=h.k00,pl:=h.pl,kn:=fun j hj=> ?_};rw [getD_snoc]
     split
     ·rename_i e
      have:=h.kn j hj
      rwa [List.getD_eq_getElem?_getD,List.getElem?_eq_none (by omega)] at this
     ·exact h.kn j hj
   ·have h6:=kidsLd_step F K _ ts i m c m0 0 hi hs h5;have cv:=conv1 wr1 (i:Int) hix (by omega);rw [show UInt8.ofNat ((i:Int)).toNat=UInt8.ofNat i by congr 1] at cv;have hsum:pl.length+1≤9223372036854775807:=by omega
    have hsum2:pl.length+p.length≤9223372036854775807:=by omega
    have L3:Hid (Ld1 w00 w (wr1.alloc (.cells #[.int .u8 (i:Int)] 5)) lb g nb kb (kd,p,v,K) ts ps m c):=ι (h4.below ((Below.refl _ _).alloc (Nat.le_refl _) _));have HC:=ι (HIH.out (wr1.alloc (.cells #[.int .u8 (i:Int)] 5)) i m c hi hs L3.out.ld L3.out.b0 h3);have hkA:Trie.kidAt (kd,p,v,K) pl i=if kd=2 then pl++p else pl++ [UInt8.ofNat i]:=rfl;have HI:=ι (And.intro h1 (And.intro h2 h6));have n0:(wr1.alloc (.cells #[.int .u8 (i:Int)] 5)).cell? ⟨nb,0,none⟩=some (.int .i64 (kd:Int)):=L3.out.nd.cell 0;have n1:(wr1.alloc (.cells #[.int .u8 (i:Int)] 5)).cell? ⟨nb,1,none⟩=some (p:Value):=L3.out.nd.cell 1;clear h1 h2 h3 h4 h5 h6;generalize Trie.kidAt (kd,p,v,K) pl i=at_ at *;generalize hsi:K.getD i []=s at *;clear hsi;have ne1:(s.toArray=#[])=False:=by simp [hs]
    have ne2:s.isEmpty=false:=by simp [hs]
    have CE:Hid (∀ e w',LoadEnd (wr1.alloc (.cells #[.int .u8 (i:Int)] 5)) lb g (F s at_ m c) e w'→∃ x,e= .returned x∧KnotP w' (F s at_ m c).1 x∧Ld1 w00 w w' lb g nb kb (kd,p,v,K) ts ps (F s at_ m c).2.1 (F s at_ m c).2.2∧((F s at_ m c).2.2=0→(F s at_ m c).2.1≤1024)):=ι (fun e w' ⟨x,e1,e2,e3,e4,e5⟩=>⟨x,e1,e2,L3.out.call e4 e3,e5⟩);generalize F s at_ m c=r at *;clear hs;by_cases hk2:kd=2
    ·subst hk2;rw [if_pos rfl] at hkA;subst hkA;exact z_19
    ·have hkI:((kd:Int)==2)=false:=by simp; omega
     rw [if_neg hk2] at hkA;subst hkA;rw [decide_eq_false hk2] at HC;clear hk2;exact z_19
  ·obtain rfl:i=16:=by omega
   have e:Trie.kidsLd F K (Trie.kidAt (kd,p,v,K) pl) 16 m0 0=(ts,m,c):=by rw [h5]; simp [Trie.kidsLd]
   have HE:=ι (And.intro e (And.intro h4 h3));clear h1 h2 h3 h4 h5 e hi;go_wp2
   exact HQ.out _ _ _ _ _ HE.out.1 HE.out.2.1 HE.out.2.2
end
namespace Trie
structure OkLd (pl:List UInt8) (t:T):Prop where
 nn:t≠ .nil
 wf:wf t
 all:∀ q,Nib.fit q=true→look t q≠ []→(pl++q).length≤16∧(pl++q).length % 2=0∧pl++q≠ []∧(look t q).length≤32
theorem OkLd.small {pl:List UInt8} {t:T} (h:OkLd pl t):small t:=fun q hq hl=>by
 have:=h.all q hq hl
 rw [List.length_append] at this;exact ⟨by omega,this.2.2.2⟩
theorem OkLd.good {t:T} (h:OkLd [] t):Good t:=⟨h.wf,h.small,fun q hq hl=>⟨(h.all q hq hl).2.1,(h.all q hq hl).2.2.1⟩⟩
theorem kidsLd_code {F:List UInt8→List UInt8→Nat→Nat→Ld} {K:List (List UInt8)} {at_:Nat→List UInt8} (h0:∀ s p m c,c≠0→(F s p m c).2.2≠0):∀ n m c,(kidsLd F K at_ n m c).2.2=0→c=0
 |0,m,c,h=>h
 |n+1,m,c,h=>by
  simp only [kidsLd] at h
  split at h
  ·exact kidsLd_code h0 n m c h
  ·have:=kidsLd_code h0 n _ _ h
   exact Decidable.byContradiction fun hc=>h0 _ _ _ _ hc this
theorem kidsLd_ok {F:List UInt8→List UInt8→Nat→Nat→Ld} {K:List (List UInt8)} {at_:Nat→List UInt8} (G:Nat→T→Prop) (h0:∀ s p m c,c≠0→(F s p m c).2.2≠0)
  (hF:∀ i m,i<16→K.getD i []≠ []→m≤1024→(F (K.getD i []) (at_ i) m 0).2.2=0→G i (F (K.getD i []) (at_ i) m 0).1∧(F (K.getD i []) (at_ i) m 0).2.1=m+count (F (K.getD i []) (at_ i) m 0).1∧(F (K.getD i []) (at_ i) m 0).2.1≤1024):
  ∀ n m,n≤16→m≤1024→(kidsLd F K at_ n m 0).2.2=0→(kidsLd F K at_ n m 0).1.length=n∧
   (∀ j,j<n→(K.getD (16 - n+j) []= []→(kidsLd F K at_ n m 0).1.getD j .nil= .nil)∧(K.getD (16 - n+j) []≠ []→G (16 - n+j) ((kidsLd F K at_ n m 0).1.getD j .nil)))∧
   (kidsLd F K at_ n m 0).2.1=m+((kidsLd F K at_ n m 0).1.map count).sum∧(kidsLd F K at_ n m 0).2.1≤1024
 |0,m,_,hm,h=>⟨rfl,fun j hj=>by omega,by simp [kidsLd],hm⟩
 |n+1,m,hn,hm,h=>by
  simp only [kidsLd] at h ⊢;by_cases hs:K.getD (15 - n) []= []
  ·rw [if_pos hs] at h ⊢;obtain ⟨a1,a2,a3,a4⟩:=kidsLd_ok G h0 hF n m (by omega) hm h;refine ⟨by rw [List.length_cons,a1],fun j hj=> ?_,?_,a4⟩
   ·cases j with
    |zero=>
     rw [show 16 - (n+1)+0=15 - n by omega];exact ⟨fun _=>rfl,fun h=>absurd hs h⟩
    |succ j=>
     rw [show 16 - (n+1)+(j+1)=16 - n+j by omega,List.getD_cons_succ];exact a2 j (by omega)
   ·rw [a3,List.map_cons,List.sum_cons]; simp [count]
  ·rw [if_neg hs] at h ⊢;have hc:=kidsLd_code h0 n _ _ h;obtain ⟨g1,g2,g3⟩:=hF (15 - n) m (by omega) hs hm hc;rw [hc] at h ⊢;obtain ⟨a1,a2,a3,a4⟩:=kidsLd_ok G h0 hF n _ (by omega) g3 h;refine ⟨by rw [List.length_cons,a1],fun j hj=> ?_,?_,a4⟩
   ·cases j with
    |zero=>
     rw [show 16 - (n+1)+0=15 - n by omega];exact ⟨fun h=>absurd h hs,fun _=>g1⟩
    |succ j=>
     rw [show 16 - (n+1)+(j+1)=16 - n+j by omega,List.getD_cons_succ];exact a2 j (by omega)
   ·rw [a3,List.map_cons,List.sum_cons,g2]; omega
theorem sum_getD (ts:List T) (h:ts.length=16):(ts.map count).sum=((List.finRange 16).map fun i=>count (ts.getD i.val .nil)).sum:=by
 congr 1
 refine List.ext_getElem (by simp [h]) fun i h1 h2=> ?_;rw [List.length_map] at h1;simp [List.getElem?_eq_getElem h1]
theorem loadW_code (D:List KV):∀ f s p b m c,c≠0→(loadW D f s p b m c).2.2≠0
 |0,s,p,b,m,c,h=>by simp [loadW]
 |f+1,s,p,b,m,c,h=>by
  unfold loadW;rw [if_pos h];exact h
end Trie
namespace Trie
def KidOk (n:Nd) (pl:List UInt8) (i:Nat) (t:T):Prop:=OkLd (kidAt n pl i) t∧sumT t=n.2.2.2.getD i []∧(n.1=2→isBranch t=true)
theorem sums_of {n:Nd} {pl:List UInt8} {ts:List T} (hK:n.2.2.2.length=16) (hG:∀ i,i<16→(n.2.2.2.getD i []= []→ts.getD i .nil= .nil)∧(n.2.2.2.getD i []≠ []→KidOk n pl i (ts.getD i .nil))) {t:T} (hk:∀ i:Fin 16,kidsT t i=ts.getD i.val .nil):sumsT t=n.2.2.2:=by
 refine List.ext_getElem (by rw [sumsT_length,hK]) fun i h1 h2=> ?_;have hi:i<16:=by rw [sumsT_length] at h1; exact h1
 have e1:=sumsT_at t ⟨i,hi⟩;rw [hk] at e1;simp only [List.getD_eq_getElem?_getD,List.getElem?_eq_getElem h1,Option.getD_some] at e1;rw [e1];have e2:n.2.2.2[i]=n.2.2.2.getD i []:=by rw [List.getD_eq_getElem?_getD,List.getElem?_eq_getElem h2]; rfl
 rw [e2];simp only [←List.getD_eq_getElem?_getD];by_cases h:n.2.2.2.getD i []= []
 ·rw [(hG i hi).1 h,h]; rfl
 ·exact ((hG i hi).2 h).2.1
theorem rep_getD (n i:Nat):(List.replicate n ([]:List UInt8)).getD i []= []:=by
 rw [List.getD_eq_getElem?_getD,List.getElem?_replicate]
 split<;>rfl
theorem itemLd_ok {long m:Nat} (h:(itemLd long m).2=0):long≠0∧long % 2=0∧(itemLd long m).1=m+1∧m+1≤1024:=by
 unfold itemLd at h ⊢
 split at h
 ·cases h
 ·rename_i h1;rw [if_neg h1]
  split at h
  ·cases h
  ·rename_i h2;rw [if_neg h2];simp only [not_or] at h1;exact ⟨h1.1,by omega,rfl,by omega⟩
theorem mkT_ok {n:Nd} {ts:List T} {pl:List UInt8} {below:Bool} {m:Nat} (hts:ts.length=16) (hK:n.2.2.2.length=16) (hf:fineD n=true) (ho:oddLd n pl below=false) (hm:(manyLd n pl m).2=0)
  (hG:∀ i,i<16→(n.2.2.2.getD i []= []→ts.getD i .nil= .nil)∧(n.2.2.2.getD i []≠ []→KidOk n pl i (ts.getD i .nil))):
  OkLd pl (mkT n ts)∧textT (mkT n ts)=textD n∧(below=true→isBranch (mkT n ts)=true)∧(manyLd n pl m).1+(ts.map count).sum=m+count (mkT n ts)∧kindT (mkT n ts)=n.1∧pathT (mkT n ts)=n.2.1∧valT (mkT n ts)=n.2.2.1∧(∀ i:Fin 16,kidsT (mkT n ts) i=ts.getD i.val .nil):=by
 obtain ⟨k,p,v,K⟩:=n;unfold fineD at hf;simp only at hf hK hG;have hsum:=sum_getD ts hts;unfold oddLd at ho;simp only [Bool.or_eq_false_iff,decide_eq_false_iff_not] at ho;obtain ⟨⟨o1,o2⟩,o3⟩:=ho;unfold manyLd at hm ⊢;simp only at hm ⊢;obtain ⟨hk,hfit,hpl,hvl,_⟩:=fineN_parts hf;rcases hk with rfl|rfl|rfl
 ·have hT:mkT (1,p,v,K) ts= .leaf p v:=by simp [mkT]
  unfold fineN at hf;simp [pathOk] at hf
  obtain ⟨⟨⟨f1,f2⟩,f3⟩,f4⟩:=hf;have hv:v≠ []:=f3;rw [if_neg hv] at hm ⊢;obtain ⟨i1,i2,i3,i4⟩:=itemLd_ok hm;have hkids:∀ i:Fin 16,kidsT (.leaf p v) i=ts.getD i.val .nil:=fun i=>by
   rw [(hG i.val i.isLt).1 (by rw [show K=List.replicate 16 [] from f1]; exact rep_getD 16 i.val)];rfl
  rw [hT];have hs:=sums_of (n:=(1,p,v,K)) (pl:=pl) hK hG hkids;refine ⟨⟨by simp,⟨hfit,hv⟩,fun q hq hl=> ?_⟩,?_,?_,?_,rfl,rfl,rfl,hkids⟩
  ·simp only [look] at hl ⊢
   split at hl
   ·rename_i e;subst e;rw [if_pos rfl,List.length_append];exact ⟨by omega,i2,fun e=>i1 (by rw [←List.length_append,e]; rfl),hvl⟩
   ·exact absurd rfl hl
  ·unfold textT textD; rw [hs]; rfl
  ·intro hb; subst hb; simp at o1
  ·rw [i3,hsum];simp only [←hkids];simp only [kidsT,noKids,count,sum_zero]
 ·have hT:mkT (2,p,v,K) ts= .ext p (ts.getD 0 .nil):=by simp [mkT]
  unfold fineN at hf;simp [pathOk] at hf
  obtain ⟨⟨⟨f1,f2⟩,f3⟩,f4⟩:=hf;have hv:v= []:=f4;rw [if_pos hv];have h32:K.getD 0 []≠ []:=fun e=>by
   rw [List.getD_eq_getElem?_getD] at e;simp [sumsOk,e] at f2
  obtain ⟨g1,g2,g3⟩:=(hG 0 (by omega)).2 h32;have hkids:∀ i:Fin 16,kidsT (.ext p (ts.getD 0 .nil)) i=ts.getD i.val .nil:=fun i=>by
   simp only [kidsT]
   split
   ·rename_i e; rw [e]; rfl
   ·rename_i e;have hi:i.val≠0:=fun h=>e (Fin.ext h);refine ((hG i.val i.isLt).1 ?_).symm;rw [f1];obtain ⟨j,hj⟩:∃ j,i.val=j+1:=⟨i.val - 1,by omega⟩
    rw [hj,List.getD_cons_succ];exact rep_getD 15 j
  rw [hT];have hs:=sums_of (n:=(2,p,v,K)) (pl:=pl) hK hG hkids;have hat:kidAt (2,p,v,K) pl 0=pl++p:=by simp [kidAt]
  rw [hat] at g1;have hpne:p≠ []:=fun e=>by subst e; simp at f3
  refine ⟨⟨by simp,⟨hfit,hpne,g3 rfl,g1.wf⟩,fun q hq hl=> ?_⟩,?_,?_,?_,rfl,rfl,hv.symm,hkids⟩
  ·obtain ⟨e1,e2⟩:=look_ext_some hl;have e3:look (.ext p (ts.getD 0 .nil)) q=look (ts.getD 0 .nil) (q.drop p.length):=by rw [e1,look_ext]; simp
   have:=g1.all (q.drop p.length) (fit_drop _ hq) e2
   rw [List.append_assoc,←e1] at this;rw [e3];exact this
  ·unfold textT textD; rw [hs]
   show nodeText 2 p [] K=nodeText 2 p v K;rw [hv]
  ·intro hb; subst hb; simp at o1
  ·rw [hsum];simp only [←hkids]
   have:=count_eq (t:= .ext p (ts.getD 0 .nil)) (by simp) ⟨hfit,hpne,g3 rfl,g1.wf⟩
   unfold belowT at this;rw [List.take_of_length_le (by simp)] at this;rw [this];simp [valT]
 ·have hT:mkT (3,p,v,K) ts= .branch v (fun i=>ts.getD i.val .nil):=by simp [mkT]
  unfold fineN at hf;simp at hf
  obtain ⟨⟨⟨f1,f2⟩,f3⟩,f4⟩:=hf;have hp:p= []:=f1;subst hp;have hkids:∀ i:Fin 16,kidsT (.branch v (fun i=>ts.getD i.val .nil)) i=ts.getD i.val .nil:=fun i=>rfl;rw [hT];have hs:=sums_of (n:=(3,[],v,K)) (pl:=pl) hK hG hkids;have hwf:wf (.branch v (fun i=>ts.getD i.val .nil)):=by
   refine ⟨fun i=> ?_,?_⟩
   ·by_cases h:K.getD i.val []= []
    ·simp only [(hG i.val i.isLt).1 h]; trivial
    ·exact ((hG i.val i.isLt).2 h).1.wf
   ·have hl:=kidsW_length (.branch v (fun i=>ts.getD i.val .nil));rw [hs] at hl;simp only at hl;have hm2:many (kidsT (.branch v (fun i=>ts.getD i.val .nil)))=many (fun i:Fin 16=>ts.getD i.val .nil):=rfl;rw [←hm2,←hl];exact f3
  refine ⟨⟨by simp,hwf,fun q hq hl=> ?_⟩,?_,?_,?_,rfl,rfl,rfl,hkids⟩
  ·cases q with
   |nil=>
    have hv:v≠ []:=hl;rw [if_neg hv] at hm;obtain ⟨i1,i2,_,_⟩:=itemLd_ok hm;simp only [List.length_nil,Nat.add_zero] at i1 i2 o2;rw [List.append_nil];exact ⟨by omega,i2,fun e=>i1 (by rw [e]; rfl),hvl⟩
   |cons b r=>
    obtain ⟨hb,hr⟩:=fit_cons'.1 hq;have hl2:look (ts.getD (ix b).val .nil) r≠ []:=hl;have hKi:K.getD (ix b).val []≠ []:=fun e=>by
     rw [(hG _ (ix b).isLt).1 e] at hl2;exact hl2 rfl
    have g:=((hG _ (ix b).isLt).2 hKi).1;have hat:kidAt (3,[],v,K) pl (ix b).val=pl++ [b]:=by
     have:UInt8.ofNat (ix b).val=b:=by
      apply UInt8.toNat_inj.1
      have h15:b.toNat≤15:=by rw [UInt8.le_iff_toNat_le] at hb; exact hb
      simp [ix]
      omega
     simp [kidAt,this]
    rw [hat] at g
    have:=g.all r hr hl2
    rw [List.append_assoc] at this;exact this
  ·unfold textT textD; rw [hs]; rfl
  ·intro _; rfl
  ·rw [hsum]
   show _=m+((if v= [] then 0 else 1)+_)
   split
   ·simp
   ·rename_i hv;rw [if_neg hv] at hm;rw [(itemLd_ok hm).2.2.1]
    show m+1+((List.finRange 16).map fun i=>count (ts.getD i.val .nil)).sum=m+(1+((List.finRange 16).map fun i=>count (ts.getD i.val .nil)).sum)
    omega
theorem nodeOf_ok {D:List KV} {sum:List UInt8} (hT:∀ k s,lookB D k=some s→shaW (1::s)=k) (h:(nodeOf D sum).2=0):(nodeOf D sum).1.2.2.2.length=16∧fineD (nodeOf D sum).1=true∧shaW (1::textD (nodeOf D sum).1)=sum∧lookB D sum=some (textD (nodeOf D sum).1):=by
 unfold nodeOf at h ⊢;cases hl:lookB D sum with
 |none=>rw [hl] at h; cases h
 |some s=>
  rw [hl] at h;simp only at h ⊢;obtain ⟨h1,h2,h3⟩:=decN_ok (s:=s) (n:=(decN s).1) (by rw [←h]);exact ⟨h1,h2,by rw [h3]; exact hT _ _ hl,by rw [h3]⟩
theorem manyLd_le {n:Nd} {pl:List UInt8} {m:Nat} (hm:m≤1024) (h:(manyLd n pl m).2=0):(manyLd n pl m).1≤1024:=by
 unfold manyLd at h ⊢
 split
 ·exact hm
 ·rename_i hv;rw [if_neg hv] at h
  have:=itemLd_ok h
  omega
theorem loadW_ok {D:List KV} (hT:∀ k s,lookB D k=some s→shaW (1::s)=k):∀ f sum pl below m c,m≤1024→(loadW D f sum pl below m c).2.2=0→
  c=0∧OkLd pl (loadW D f sum pl below m c).1∧sumT (loadW D f sum pl below m c).1=sum∧(below=true→isBranch (loadW D f sum pl below m c).1=true)∧(loadW D f sum pl below m c).2.1=m+count (loadW D f sum pl below m c).1∧(loadW D f sum pl below m c).2.1≤1024
 |0,sum,pl,below,m,c,_,h=>by simp [loadW] at h
 |f+1,sum,pl,below,m,c,hm,h=>by
  have hc:c=0:=Decidable.byContradiction fun hc=>loadW_code D _ _ _ _ _ _ hc h;subst hc;unfold loadW at h ⊢;rw [if_neg (by simp)] at h ⊢;by_cases h1:(nodeOf D sum).2=0;rotate_left
  ·rw [if_pos h1] at h; exact absurd h h1
  rw [if_neg (by simp [h1])] at h ⊢;obtain ⟨n1,n2,n3,n4⟩:=nodeOf_ok hT h1;generalize (nodeOf D sum).1=n at *;cases h2:oddLd n pl below with
  |true=>rw [h2] at h; rw [if_pos rfl] at h; cases h
  |false=>
  rw [h2] at h;rw [if_neg (by simp)] at h ⊢;by_cases h3:(manyLd n pl m).2=0;rotate_left
  ·rw [if_pos h3] at h; exact absurd h h3
  rw [if_neg (by simp [h3])] at h ⊢;have hm1:(manyLd n pl m).1≤1024:=by
   unfold manyLd at h3 ⊢
   split
   ·exact hm
   ·rename_i hv;rw [if_neg hv] at h3
    have:=itemLd_ok h3
    omega
  have key:=kidsLd_ok (F:=fun s p m c=>loadW D f s p (decide (n.1=2)) m c) (K:=n.2.2.2) (at_:=kidAt n pl) (KidOk n pl) (fun s p m c hc=>loadW_code D f _ _ _ _ _ hc)
   (fun i m' hi hne hm' hz=>by
    obtain ⟨_,a1,a2,a3,a4,a5⟩:=loadW_ok hT f (n.2.2.2.getD i []) (kidAt n pl i) (decide (n.1=2)) m' 0 hm' hz;exact ⟨⟨a1,a2,fun e=>a3 (decide_eq_true e)⟩,a4,a5⟩) 16 (manyLd n pl m).1 (by omega) hm1
  unfold endLd at h ⊢;generalize kidsLd (fun s p m c=>loadW D f s p (decide (n.1=2)) m c) n.2.2.2 (kidAt n pl) 16 (manyLd n pl m).1 0=r at *;by_cases h4:r.2.2=0;rotate_left
  ·rw [if_neg h4] at h; exact absurd h h4
  rw [if_pos h4];obtain ⟨k1,k2,k3,k4⟩:=key h4;obtain ⟨m1,m2,m3,m4,_⟩:=mkT_ok (n:=n) (ts:=r.1) (pl:=pl) (below:=below) (m:=m) k1 n1 n2 h2 h3 (fun i hi=>by
   have:=k2 i hi
   rwa [show 16 - 16+i=i by omega] at this)
  refine ⟨rfl,m1,?_,m3,?_,k4⟩
  ·rw [←sum_text m1.nn,m2,n3]
  ·show r.2.1=_;rw [k3,m4]
theorem kidAt_len {n:Nd} {pl:List UInt8} {below:Bool} {i:Nat} (hf:fineD n=true) (ho:oddLd n pl below=false) (hne:n.2.2.2.getD i []≠ []):pl.length<(kidAt n pl i).length∧(kidAt n pl i).length≤16:=by
 obtain ⟨k,p,v,K⟩:=n;unfold fineD at hf;simp only at hf hne;unfold oddLd at ho;simp only [Bool.or_eq_false_iff,decide_eq_false_iff_not] at ho;obtain ⟨⟨_,o2⟩,o3⟩:=ho;have hz:K≠zeroK:=fun e=>hne (by rw [e]; exact rep_getD 16 i);obtain ⟨hk,_⟩:=fineN_parts hf;unfold kidAt;simp only
 rcases hk with rfl|rfl|rfl
 ·unfold fineN at hf;simp [pathOk] at hf
  exact absurd hf.1.1.1 hz
 ·unfold fineN at hf;simp [pathOk] at hf
  have:=hf.1.2.2.1
  rw [if_pos rfl,List.length_append];omega
 ·unfold fineN at hf;simp at hf
  have hp:p= []:=hf.1.1.1;subst hp;simp [hz] at o3
  rw [if_neg (by omega),List.length_append];simp
  omega
theorem kidsLd_mk {D:List KV} (hT:∀ k s,lookB D k=some s→shaW (1::s)=k) {f:Nat} {n:Nd} {pl:List UInt8} {below:Bool} {m:Nat} (hm:m≤1024) (hK:n.2.2.2.length=16) (hf:fineD n=true) (ho:oddLd n pl below=false) (h3:(manyLd n pl m).2=0) {ts:List T} {m':Nat}
  (h:kidsLd (fun s p m c=>loadW D f s p (decide (n.1=2)) m c) n.2.2.2 (kidAt n pl) 16 (manyLd n pl m).1 0=(ts,m',0)):
  OkLd pl (mkT n ts)∧kindT (mkT n ts)=n.1∧pathT (mkT n ts)=n.2.1∧valT (mkT n ts)=n.2.2.1∧(∀ i:Fin 16,kidsT (mkT n ts) i=ts.getD i.val .nil)∧(∀ i:Fin 16,kidsT (mkT n ts) i= .nil→n.2.2.2.getD i.val []= [])∧count (mkT n ts)≤1024:=by
 have key:=kidsLd_ok (F:=fun s p m c=>loadW D f s p (decide (n.1=2)) m c) (K:=n.2.2.2) (at_:=kidAt n pl) (KidOk n pl) (fun s p m c hc=>loadW_code D f _ _ _ _ _ hc)
  (fun i m' hi hne hm' hz=>by
   obtain ⟨_,a1,a2,a3,a4,a5⟩:=loadW_ok hT f (n.2.2.2.getD i []) (kidAt n pl i) (decide (n.1=2)) m' 0 hm' hz;exact ⟨⟨a1,a2,fun e=>a3 (decide_eq_true e)⟩,a4,a5⟩) 16 (manyLd n pl m).1 (by omega) (manyLd_le hm h3)
 rw [h] at key;obtain ⟨k1,k2,k3,k4⟩:=key rfl;simp only at k1 k2 k3 k4;have k2':∀ i,i<16→(n.2.2.2.getD i []= []→ts.getD i .nil= .nil)∧(n.2.2.2.getD i []≠ []→KidOk n pl i (ts.getD i .nil)):=fun i hi=>by
  have:=k2 i hi
  rwa [show 16 - 16+i=i by omega] at this
 obtain ⟨m1,m2,m3,m4,m5,m6,m7,m8⟩:=mkT_ok (n:=n) (ts:=ts) (pl:=pl) (below:=below) (m:=m) k1 hK hf ho h3 k2';refine ⟨m1,m5,m6,m7,m8,fun i hn=> ?_,by omega⟩;refine Decidable.byContradiction fun hne=> ?_;rw [m8] at hn;exact ((k2' i.val i.isLt).2 hne).1.nn hn
end Trie
section
open Go.RowKit Go.Instr
theorem led_int_cell {w:World} {B:Nat} {A:Option Addr} {l:List Nat} (h:Reads w B 1 A l.length (ints l)) {i:Nat} (hi:i<l.length):
  ∃ ad off,A=some ⟨ad,off,none⟩∧ad<B∧∀ w',Below B w w'→w'.cell? ⟨ad,off+i,none⟩=some (.int .i64 (l[i]:Int)):=by
 obtain ⟨ad,off,rfl,hbl,hcell⟩:=h.form (by omega) (by omega);refine ⟨ad,off,rfl,hbl,fun w' hb=> ?_⟩;have q:=hcell i (by rw [ints_length]; exact hi);simp only [ints,List.getElem_map] at q;exact (hb.cell (p:=⟨ad,off+i,none⟩) hbl).trans q
end
end Go.Proofs.YtnelhjfjkkdoaaaGreatDoor