import Derived.Test.YtnelhjfjkkdoaaaGreatDoorK14
set_option linter.unusedSimpArgs false
set_option linter.unusedVariables false
set_option maxHeartbeats 4000000
set_option maxRecDepth 100000
namespace Go.Proofs.YtnelhjfjkkdoaaaGreatDoor
section
open Go.RowKit Go.Instr
attribute [local go_sem] ba_get ByteArray.mk_append_mk
attribute [local go_sem ↓] Go.wp_at_zero Go.wp_at_succ
theorem del_leaf (p v:List UInt8) (q:List UInt8) (g:Nat) (ps:List Value) (hps:ps.length=16) (w:World) (hbk:Blk w g 136 (knotC (.leaf p v) ps).toArray):
  Calls Tryz.prog 58 #[.pointer (some ⟨g,0,none⟩),q] w (KnotEnd w .nil):=by
 have HP:Hid (∀ w',w=w'→KnotEnd w .nil (.returned (.pointer none)) w'):=ι (fun w' h=>by subst h; exact ⟨_,rfl,.nil,Below.refl _ _⟩);have c0:w.cell? ⟨g,0,none⟩=some (.int .i64 1):=(KnotAt.of (Trie.sumsT_length _) hps hbk).node.c0;generalize KnotEnd w .nil=P at HP ⊢;clear hbk hps;go_enter Tryz.func58,Tryz.ntmps58
 go_wp2
 exact HP.out _ rfl
theorem del_below (p q:List UInt8) (s n:Trie.T) (hp:p.length≤q.length) (hq:q.length≤1000) (hns:s≠ .nil) (hnn:n≠ .nil)
  (hw:Trie.wf (Trie.joined p n)) (hs:Trie.small (Trie.joined p n)) (hc:Trie.count n≤1000000)
  (g:Nat) (ps:List Value) (hps:ps.length=16) (w:World) (hT:Tbl w)
  (hbk:Blk w g 136 (knotC (.ext p s) ps).toArray) (hk0:KnotP w s (ps.getD 0 undef))
  (IH:∀ (x:Value) (W:World),Tbl W→KnotP W s x→Calls Tryz.prog 58 #[x,.string ⟨(q.drop p.length).toArray⟩] W (KnotEnd W n)):
  Calls Tryz.prog 58 #[.pointer (some ⟨g,0,none⟩),q] w (KnotEnd w (Trie.joined p n)):=by
 have HP:Hid (∀ x w',KnotP w' (Trie.joined p n) x→Below w.heap.size w w'→KnotEnd w (Trie.joined p n) (.returned x) w'):=ι (fun x w' h1 h2=>⟨x,rfl,h1,h2⟩);have HJ:Hid (∀ (x:Value) (W:World),Below w.heap.size w W→KnotP W n x→Calls Tryz.prog 100 #[p,x] W (KnotEnd W (Trie.joined p n))):=
  ι (fun x W h1 h2=>trie_joined p n hnn hw hs hc x W (hT.next h1) h2)
 obtain ⟨b2,hy⟩:=hk0.ptr hns;rw [hy] at hk0;have HTl:=run_drop q p.length hp;have hpI:(p.length:Int)≤q.length:=by omega
 have HIH:Hid (∀ W,Below w.heap.size w W→Calls Tryz.prog 58 #[.pointer (some ⟨b2,0,none⟩),.string ⟨(q.drop p.length).toArray⟩] W (KnotEnd W n)):=
  ι (fun W h=>IH _ W (hT.next h) (hk0.next h))
 have HLt:=ι hbk.lt;have HNN:=ι hnn;obtain ⟨⟨c0,c1,c2,_,_⟩,kr,_,_,_,_⟩:=KnotAt.of (Trie.sumsT_length _) hps hbk;rename_i j1 j2 j4 j5 j6 j7
 replace c0:w.cell? ⟨g,0,none⟩=some (.int .i64 2):=c0
 replace c1:w.cell? ⟨g,1,none⟩=some (p:Value):=c1
 have c19:w.cell? ⟨g,19,none⟩=some (.pointer (some ⟨b2,0,none⟩)):=by
  rw [←hy];exact kr 0 _ (by rw [List.getD_eq_getElem?_getD,List.getElem?_eq_getElem (show 0<ps.length by omega)]; rfl)
 generalize q.drop p.length=qd at *;generalize KnotEnd w (Trie.joined p n)=P at HP ⊢;clear hw hs hT hbk hps hy hk0 IH hc hns hnn j1 j2 j4 j5 j6 j7 c2 kr;go_enter Tryz.func58,Tryz.ntmps58
 go_upto_region 4 with fail
 go_region_held3 (fun w'=>w'.cell? ⟨g,1,none⟩=some (p:Value)∧w'.cell? ⟨g,19,none⟩=some (.pointer (some ⟨b2,0,none⟩))) (first|go_keep|(constructor<;>assumption)) (first|(go_at_call 58; refine (HIH.out _ (by first|exact Below.refl _ _|exact (Below.refl _ _).drew)).mono ?_; rintro e w3 ⟨x,rfl,hk,hb⟩; obtain ⟨b3,rfl⟩:=hk.ptr HNN.out; have hb3:Below w.heap.size w w3:=(by first|exact hb|exact hb.start); clear hb; have d1:=(hb3.cell (p:=⟨g,1,none⟩) HLt.out).trans c1; have d2:=(hb3.cell (p:=⟨g,19,none⟩) HLt.out).trans c19)|(go_at_call 100; refine (HJ.out _ _ (by first|exact hb3|exact hb3.drew) (by first|exact hk|exact hk.next (Below.refl _ _).drew)).mono ?_; rintro e w4 ⟨x4,rfl,hk4,hb⟩; have hb4:Below w3.heap.size w3 w4:=(by first|exact hb|exact hb.start); clear hb; have d3:=(hb4.cell (p:=⟨g,1,none⟩) (Nat.lt_of_lt_of_le HLt.out hb3.size)).trans d1; have d4:=(hb4.cell (p:=⟨g,19,none⟩) (Nat.lt_of_lt_of_le HLt.out hb3.size)).trans d2))
 go_wp2
 exact HP.out _ _ hk4 (hb3.nxt hb4)
theorem held_alloc {w:World} {g o1 o2:Nat} {u:Value} {cs:List Value} (h1:w.cell? ⟨g,o1,none⟩=some u) (h2:w.rangeAt g o2 cs) (hg:g<w.heap.size) (ob:Obj):(w.alloc ob).drew.cell? ⟨g,o1,none⟩=some u∧(w.alloc ob).drew.rangeAt g o2 cs:=by
 have hb:Below w.heap.size w (w.alloc ob).drew:=((Below.refl _ _).alloc (Nat.le_refl _) _).drew;exact ⟨(hb.cell (p:=⟨g,o1,none⟩) hg).trans h1,rangeAt_below h2 hb hg⟩
theorem there_new (w:World) (cs:Array Value) (T:TypeId) (n:Nat) (h:n≤cs.size):(w.alloc (.cells cs T)).drew.there w.heap.size 0 n:=fun j hj=>by
 have hb:Blk (w.alloc (.cells cs T)).drew w.heap.size T cs:=(Blk.new w T cs).drew;rw [Nat.zero_add];refine ⟨?_,hb.frozen j⟩;rw [hb.cell,Array.getElem?_eq_getElem (by omega)]; rfl
theorem held_setCells {w:World} {g o1 o2 g2:Nat} {u:Value} {cs vs:List Value} (h:w.cell? ⟨g,o1,none⟩=some u∧w.rangeAt g o2 cs) (hg:g≠g2):(w.setCells g2 0 vs).cell? ⟨g,o1,none⟩=some u∧(w.setCells g2 0 vs).rangeAt g o2 cs:=by
 have h1:w.rangeAt g o1 [u]:=fun j v hv=>by
  rcases j with _|j
  ·simp at hv; subst hv; exact h.1
  ·simp at hv
 refine ⟨?_,World.rangeAt_setCells_apart h.2 _ _ _ (.inl hg)⟩
 have:=World.rangeAt_setCells_apart h1 g2 0 vs (.inl hg) 0 u rfl
 exact this
theorem Blk.setCells {g:Nat} {t:TypeId}:∀ (vs A B R:List Value) (w:World),B.length=vs.length→Blk w g t (A++(B++R)).toArray→Blk (w.setCells g A.length vs) g t (A++(vs++R)).toArray
 | [],A,B,R,w,h,hb=>by
  have:B= []:=List.eq_nil_of_length_eq_zero h
  subst this;exact hb
 |v::r,A,[],R,w,h,hb=>by simp at h
 |v::r,A,b::B,R,w,h,hb=>by
  have h1:=hb.set_ A.length v;rw [List.setIfInBounds_toArray,List.set_append_right _ _ (Nat.le_refl _),Nat.sub_self] at h1;simp only [List.cons_append,List.set_cons_zero] at h1;have h2:=Blk.setCells r (A++ [v]) B R (w.setCell ⟨g,A.length,none⟩ v) (by simpa using h) (by simpa using h1);rw [List.length_append] at h2;simpa [World.setCells] using h2
theorem below_setCells {B g:Nat} {a:World} (hg:B≤g):∀ (vs:List Value) (o:Nat) (w:World),Below B a w→Below B a (w.setCells g o vs)
 | [],_,_,h=>h
 |v::r,o,w,h=>below_setCells hg r (o+1) _ (h.setCell (p:=⟨g,o,none⟩) hg v)
theorem KnotP.setAll {t:Trie.T} {x:Value} {g:Nat}:∀ (vs:List Value) (o:Nat) (w:World) {cs:Array Value},KnotP w t x→Blk w g 134 cs→KnotP (w.setCells g o vs) t x
 | [],_,_,_,h,_=>h
 |v::r,o,w,_,h,hg=>KnotP.setAll r (o+1) _ (h.setKids hg o v) (hg.set_ o v)
theorem KidsIn.copied {w:World} {ks:Fin 16→Trie.T} {ps:List Value} (hps:ps.length=16) (hk:∀ i:Fin 16,KnotP w (ks i) (ps.getD i.val undef)):
  KidsIn w w.heap.size ks ((w.alloc (.cells #[.pointer none,.pointer none,.pointer none,.pointer none,.pointer none,.pointer none,.pointer none,.pointer none,.pointer none,.pointer none,.pointer none,.pointer none,.pointer none,.pointer none,.pointer none,.pointer none] 134)).drew.setCells w.heap.size 0 ps):=by
 have hb:Below w.heap.size w (w.alloc (.cells #[.pointer none,.pointer none,.pointer none,.pointer none,.pointer none,.pointer none,.pointer none,.pointer none,.pointer none,.pointer none,.pointer none,.pointer none,.pointer none,.pointer none,.pointer none,.pointer none] 134)).drew:=by go_grown
 have h0:Blk (w.alloc (.cells #[.pointer none,.pointer none,.pointer none,.pointer none,.pointer none,.pointer none,.pointer none,.pointer none,.pointer none,.pointer none,.pointer none,.pointer none,.pointer none,.pointer none,.pointer none,.pointer none] 134)).drew w.heap.size 134 (List.replicate 16 (.pointer none)).toArray:=(Blk.new _ _ _).drew;refine ⟨ps,hps,?_,fun i=>KnotP.setAll ps 0 _ ((hk i).next hb) h0,below_setCells (Nat.le_refl _) _ _ _ hb⟩
 have:=Blk.setCells ps [] (List.replicate 16 (.pointer none)) [] _ (by simp [hps]) (by simpa using h0)
 simpa using this
namespace Trie
def manyTo (kids:Fin 16→T) (i:Nat):List (Fin 16):=((List.finRange 16).take i).filter fun j=> !isNil (kids j)
def lastTo (kids:Fin 16→T) (i:Nat):Nat:=((manyTo kids i).getLast?.getD 0).val
theorem manyTo_succ (kids:Fin 16→T) (i:Fin 16):manyTo kids (i.val+1)=manyTo kids i.val++if isNil (kids i) then [] else [i]:=by
 unfold manyTo;rw [take_finRange,List.filter_append];cases h:isNil (kids i)<;>simp [h]
theorem manyTo_all (kids:Fin 16→T):(manyTo kids 16).length=many kids∧lastTo kids 16=(lastKid kids).val:=by
 unfold lastTo manyTo many lastKid;rw [List.take_of_length_le (by simp)];exact ⟨rfl,rfl⟩
theorem manyTo_le (kids:Fin 16→T) (i:Nat):(manyTo kids i).length≤16:=by
 unfold manyTo
 have:=List.length_filter_le (fun j=> !isNil (kids j)) ((List.finRange 16).take i)
 rw [List.length_take,List.length_finRange] at this;omega
end Trie
theorem del_loop (ks:Fin 16→Trie.T) (ps:List Value) (hps:ps.length=16) (w w0:World) (hk:∀ i:Fin 16,KnotP w (ks i) (ps.getD i.val undef)) (v1:ByteArray) (gk:Nat)
  (Q:Exit→Act→World→Prop)
  (hQ:∀ ⦃s0 s1 s2 s3 s4 s9 s5 s6 s7 s8 a0 a2 a3 a4 a5 a6 a7 a8 a9 b0 b1 b2 b3 b4 b5 b6 b7 b8 b9 c0 c1 c2 c3 c4 c5 c6 c7 c8 c9 d0 d1 d2 d3 d4 d5 d6 d7 d8 d9 e0 e3 e4 e5 e6 e7 e8 e9 f0 f1 f2 f3 f4 f5 f6 f7 f8 f9 g0 g1 g2 g3 g4 g5 g6 g7 g8 g9 h0 h4 h5 h6 h7 h8 h9 i0 i1 i2 i3 i4 i5 i6 i7 i8 i9 j0 j1:Value⦄ (m l:Nat),m=Trie.many ks→l=(Trie.lastKid ks).val→Q (.exit 1) {tmps:=#[s0,s1,s2,s3,s4,.string v1,.pointer (some ⟨gk,0,none⟩),.int .i64 (m:Int),.int .i64 (l:Int),s9,s5,s6,s7,s8,a0,a2,a3,a4,a5,a6,a7,a8,a9,b0,b1,b2,b3,b4,b5,b6,b7,b8,b9,c0,c1,c2,c3,c4,c5,c6,c7,c8,c9,d0,d1,d2,d3,d4,d5,d6,d7,d8,d9,e0,e3,e4,e5,e6,e7,e8,e9,f0,f1,f2,f3,f4,f5,f6,f7,f8,f9,g0,g1,g2,g3,g4,g5,g6,g7,g8,g9,h0,h4,h5,h6,h7,h8,h9,i0,i1,i2,i3,i4,i5,i6,i7,i8,i9,j0,j1],defers:= []} w0)
  (s0 s1 s2 s3 s4 s9 s5 s6 s7 s8 a0 a2 a3 a4 a5 a6 a7 a8 a9 b0 b1 b2 b3 b4 b5 b6 b7 b8 b9 c0 c1 c2 c3 c4 c5 c6 c7 c8 c9 d0 d1 d2 d3 d4 d5 d6 d7 d8 d9 e0 e3 e4 e5 e6 e7 e8 e9 f0 f1 f2 f3 f4 f7 f8 f9 g0 g1 g2 g3 g4 g5 g6 g7 g8 g9 h0 h4 h5 h6 h7 h8 h9 i0 i1 i2 i3 i4 i5 i6 i7 i8 i9 j0 j1:Value):
  Code.wp Tryz.prog (.loop (loopAt Tryz.f58 0)) Q {tmps:=#[s0,s1,s2,s3,s4,.string v1,.pointer (some ⟨gk,0,none⟩),.int .i64 0,.int .i64 0,s9,s5,s6,s7,s8,a0,a2,a3,a4,a5,a6,a7,a8,a9,b0,b1,b2,b3,b4,b5,b6,b7,b8,b9,c0,c1,c2,c3,c4,c5,c6,c7,c8,c9,d0,d1,d2,d3,d4,d5,d6,d7,d8,d9,e0,e3,e4,e5,e6,e7,e8,e9,f0,f1,f2,f3,f4,.agg ps.toArray,.int .i64 0,f7,f8,f9,g0,g1,g2,g3,g4,g5,g6,g7,g8,g9,h0,h4,h5,h6,h7,h8,h9,i0,i1,i2,i3,i4,i5,i6,i7,i8,i9,j0,j1],defers:= []} w0:=by
 have HQ:=ι hQ;clear hQ;have Hk:=ι hk;clear hk;refine wp_loop_ghost_k (fun k a wr=>∀ Φ:Act→Prop,(∀ ⦃s0 s1 s2 s3 s4 s9 s5 s6 s7 s8 a0 a2 a3 a4 a5 a6 a7 a8 a9 b0 b1 b2 b3 b4 b5 b6 b7 b8 b9 c0 c1 c2 c3 c4 c5 c6 c7 c8 c9 d0 d1 d2 d3 d4 d5 d6 d7 d8 d9 e0 e3 e4 e5 e6 e7 e8 e9 f0 f1 f2 f3 f4 f7 f8 f9 g0 g1 g2 g3 g4 g5 g6 g7 g8 g9 h0 h4 h5 h6 h7 h8 h9 i0 i1 i2 i3 i4 i5 i6 i7 i8 i9 j0 j1:Value⦄ (i m l:Nat),(i+k=16∧m=(Trie.manyTo ks i).length∧l=Trie.lastTo ks i∧wr=w0)→Φ {tmps:=#[s0,s1,s2,s3,s4,.string v1,.pointer (some ⟨gk,0,none⟩),.int .i64 (m:Int),.int .i64 (l:Int),s9,s5,s6,s7,s8,a0,a2,a3,a4,a5,a6,a7,a8,a9,b0,b1,b2,b3,b4,b5,b6,b7,b8,b9,c0,c1,c2,c3,c4,c5,c6,c7,c8,c9,d0,d1,d2,d3,d4,d5,d6,d7,d8,d9,e0,e3,e4,e5,e6,e7,e8,e9,f0,f1,f2,f3,f4,.agg ps.toArray,.int .i64 (i:Int),f7,f8,f9,g0,g1,g2,g3,g4,g5,g6,g7,g8,g9,h0,h4,h5,h6,h7,h8,h9,i0,i1,i2,i3,i4,i5,i6,i7,i8,i9,j0,j1],defers:= []})→Φ a) (16) ?_ ?_
 ·refine fun Φ hΦ=>hΦ (0) (0) (0) ?_;exact ⟨rfl,rfl,rfl,rfl⟩
 ·intro k1 a1 wr1 hI1 J1 K1 hJ1 hK1;refine hI1 (fun a=>Code.wp _ _ _ a _) ?_;clear hI1 a1;iterate 94 (intro _)
  intro i m l hrel
  show Code.wp _ _ _ _ _
  conv=>arg 2; whnf
  obtain ⟨h1,h2,h3,rfl⟩:=hrel;by_cases hi:i<16
  ·have hi1:(i:Int)<16:=by omega
   have HKn:=Hk.out ⟨i,hi⟩;have HX:=fun w=>run_index_p ps hps i hi HKn.one w;have hm16:m≤16:=by rw [h2]; exact Trie.manyTo_le _ _
   have HS:=ι (Trie.manyTo_succ ks ⟨i,hi⟩);have HI:=ι (And.intro h1 (And.intro h2 h3));rcases HKn.form with ⟨e1,e2⟩|⟨b,qs,hnn,e2,_,_,_⟩
   ·rw [show (ps.getD (⟨i,hi⟩:Fin 16).val undef)=ps.getD i undef from rfl] at e2;rw [e2] at HX;have HS2:Hid (Trie.manyTo ks (i+1)=Trie.manyTo ks i):=ι (by have:=HS.out; rw [e1] at this; simpa [Trie.isNil] using this);clear HKn e1 e2 h1 h2 h3;go_wp2
    refine Handed.intro (16 - (i+1)) ?_ (hJ1 _ _ _ (fun Φ hΦ=>hΦ (i+1) (m) (l) ?_))
    ·have:=HI.out.1; omega
    ·exact ⟨by have:=HI.out.1; omega,by rw [HS2.out]; exact HI.out.2.1,by unfold Trie.lastTo; rw [HS2.out]; exact HI.out.2.2,rfl⟩
   ·rw [show (ps.getD (⟨i,hi⟩:Fin 16).val undef)=ps.getD i undef from rfl] at e2;rw [e2] at HX;have HS2:Hid (Trie.manyTo ks (i+1)=Trie.manyTo ks i++ [⟨i,hi⟩]):=ι (by
     have:=HS.out
     rwa [show Trie.isNil (ks ⟨i,hi⟩)=false by cases h:ks ⟨i,hi⟩<;>simp_all [Trie.isNil]] at this)
    clear HKn hnn e2 h1 h2 h3;go_wp2
    refine Handed.intro (16 - (i+1)) ?_ (hJ1 _ _ _ (fun Φ hΦ=>hΦ (i+1) (m+1) (i) ?_))
    ·have:=HI.out.1; omega
    ·exact ⟨by have:=HI.out.1; omega,by rw [HS2.out,List.length_append,←HI.out.2.1]; rfl,by unfold Trie.lastTo; rw [HS2.out]; simp,rfl⟩
  ·have e16:i=16:=by omega
   subst e16;have O:=ι (And.intro h2 h3);clear h2 h3 h1;go_wp2
   exact HQ.out _ _ (O.out.1.trans (Trie.manyTo_all ks).1) (O.out.2.trans (Trie.manyTo_all ks).2)
end
end Go.Proofs.YtnelhjfjkkdoaaaGreatDoor