import Derived.Test.YtnelhjfjkkdoaaaGreatDoorK31
import Derived.Test.YtnelhjfjkkdoaaaGreatDoorK26
set_option linter.unusedSimpArgs false
set_option linter.unusedVariables false
set_option maxHeartbeats 4000000
set_option maxRecDepth 100000
namespace Go.Proofs.YtnelhjfjkkdoaaaGreatDoor
section
open Go.RowKit Go.Instr
attribute [local go_sem] ba_get ByteArray.mk_append_mk
def sums1 (l:List (List UInt8)):List (List UInt8):=l.map fun s=>shaW (1::s)
def oddAt (l:List (List UInt8)) (i:Nat) (k:Nat):Bool:=decide ((sums1 l).getD i []=(sums1 l).getD k []) && !decide (l.getD i []=l.getD k [])
def oddTo (l:List (List UInt8)) (i k:Nat):Bool:=(List.range k).any fun j=>oddAt l i j
def unlikeTo (l:List (List UInt8)) (n:Nat):Bool:=(List.range n).any fun i=>oddTo l i i
def unlikeW (l:List (List UInt8)):Bool:=unlikeTo l l.length
theorem oddTo_succ (l:List (List UInt8)) (i k:Nat):oddTo l i (k+1)=(oddTo l i k||oddAt l i k):=by simp [oddTo,List.range_succ]
theorem unlikeTo_succ (l:List (List UInt8)) (n:Nat):unlikeTo l (n+1)=(unlikeTo l n||oddTo l n n):=by simp [unlikeTo,List.range_succ]
theorem oddTo_mono {l:List (List UInt8)} {i k m:Nat} (h:oddTo l i k=true) (hm:k≤m):oddTo l i m=true:=by
 unfold oddTo at h ⊢;rw [List.any_eq_true] at h ⊢;obtain ⟨x,hx,h⟩:=h;exact ⟨x,by rw [List.mem_range] at hx ⊢; omega,h⟩
theorem unlikeTo_mono {l:List (List UInt8)} {k m:Nat} (h:unlikeTo l k=true) (hm:k≤m):unlikeTo l m=true:=by
 unfold unlikeTo at h ⊢;rw [List.any_eq_true] at h ⊢;obtain ⟨x,hx,h⟩:=h;exact ⟨x,by rw [List.mem_range] at hx ⊢; omega,h⟩
theorem sums1_at {l:List (List UInt8)} {i:Nat} (h:i<l.length):(sums1 l).getD i []=shaW (1::l[i]):=by
 unfold sums1;rw [List.getD_eq_getElem?_getD,List.getElem?_map,List.getElem?_eq_getElem h,Option.map_some,Option.getD_some]
theorem getD_at {l:List (List UInt8)} {i:Nat} (h:i<l.length):l.getD i []=l[i]:=by
 rw [List.getD_eq_getElem?_getD,List.getElem?_eq_getElem h]; rfl
theorem unlikeW_of {l:List (List UInt8)} {x y:List UInt8} (hx:x∈l) (hy:y∈l) (hne:x≠y) (hs:shaW (1::x)=shaW (1::y)):unlikeW l=true:=by
 obtain ⟨i,hi,rfl⟩:=List.getElem_of_mem hx;obtain ⟨j,hj,rfl⟩:=List.getElem_of_mem hy;have key:∀ i j (hi:i<l.length) (hj:j<l.length),l[i]≠l[j]→shaW (1::l[i])=shaW (1::l[j])→j<i→unlikeW l=true:=by
  intro i j hi hj hne hs hlt;unfold unlikeW unlikeTo;rw [List.any_eq_true];refine ⟨i,List.mem_range.2 hi,?_⟩;unfold oddTo;rw [List.any_eq_true];refine ⟨j,List.mem_range.2 hlt,?_⟩;unfold oddAt;rw [sums1_at hi,sums1_at hj,getD_at hi,getD_at hj,decide_eq_true hs,decide_eq_false hne];rfl
 rcases Nat.lt_trichotomy i j with h|h|h
 ·exact key j i hj hi (Ne.symm hne) hs.symm h
 ·subst h; exact absurd rfl hne
 ·exact key i j hi hj hne hs h
end
namespace Trie
open Nib
theorem kidsLd_back {F:List UInt8→List UInt8→Nat→Nat→Ld} {K:List (List UInt8)} {at_:Nat→List UInt8} (ts:Nat→T) (hn:∀ i,i<16→(K.getD i []= []↔ts i= .nil))
  (hF:∀ i m,i<16→ts i≠ .nil→m+count (ts i)≤1024→F (K.getD i []) (at_ i) m 0=(ts i,m+count (ts i),0)):
  ∀ n m,n≤16→m+((List.range n).map fun j=>count (ts (16 - n+j))).sum≤1024→
   kidsLd F K at_ n m 0=((List.range n).map fun j=>ts (16 - n+j),m+((List.range n).map fun j=>count (ts (16 - n+j))).sum,0)
 |0,m,_,_=>rfl
 |n+1,m,hle,hm=>by
  have e1:∀ j,16 - (n+1)+(j+1)=16 - n+j:=fun j=>by omega
  rw [List.range_succ_eq_map,List.map_cons,List.map_cons,List.map_map,List.map_map] at *;simp only [Function.comp_def,Nat.succ_eq_add_one,e1,List.sum_cons,Nat.add_zero] at hm ⊢;rw [show 16 - (n+1)=15 - n by omega] at hm ⊢;simp only [kidsLd];by_cases hz:K.getD (15 - n) []= []
  ·have h0:=(hn _ (by omega)).1 hz;rw [h0] at hm ⊢;simp only [count,Nat.zero_add] at hm ⊢;rw [if_pos hz,kidsLd_back ts hn hF n m (by omega) hm]
  ·have h0:ts (15 - n)≠ .nil:=fun e=>hz ((hn _ (by omega)).2 e);rw [if_neg hz,hF _ _ (by omega) h0 (by omega)];simp only
   rw [kidsLd_back ts hn hF n _ (by omega) (by omega),Nat.add_assoc]
theorem range_fin {α:Type} (f:Nat→α):(List.range 16).map f=(List.finRange 16).map fun i=>f i.val:=by
 refine List.ext_getElem (by simp) fun i h1 h2=> ?_;simp
theorem OkLd.kid {pl v:List UInt8} {kids:Fin 16→T} (h:OkLd pl (.branch v kids)) (i:Fin 16) (hi:kids i≠ .nil):OkLd (pl++ [UInt8.ofNat i.val]) (kids i):=by
 refine ⟨hi,h.wf.1 i,fun q hq hl=> ?_⟩;obtain ⟨e1,e2⟩:=ix_of i
 have:=h.all (UInt8.ofNat i.val::q) (fit_cons'.2 ⟨e2,hq⟩) (by simp only [look,e1]; exact hl)
 simp only [look,e1] at this;rw [List.append_assoc];exact this
theorem OkLd.below {pl p:List UInt8} {t:T} (h:OkLd pl (.ext p t)):OkLd (pl++p) t:=by
 have hw:=h.wf;refine ⟨fun e=>(by have:=hw.2.2.1; rw [e] at this; cases this),hw.2.2.2,fun q hq hl=> ?_⟩
 have:=h.all (p++q) (fit_append.2 ⟨hw.1,hq⟩) (by rw [look_ext]; exact hl)
 rw [look_ext] at this;rw [List.append_assoc];exact this
theorem OkLd.has {pl:List UInt8} {t:T} (h:OkLd pl t):∃ q,fit q=true∧look t q≠ []:=look_some t h.wf (by cases hi:isNil t with|false=>rfl|true=>exact absurd (isNil_iff.1 hi) h.nn)
theorem OkLd.short {pl:List UInt8} {t:T} (h:OkLd pl t):pl.length≤16:=by
 obtain ⟨q,h1,h2⟩:=h.has
 have:=(h.all q h1 h2).1
 rw [List.length_append] at this;omega
theorem OkLd.odd {pl:List UInt8} {t:T} {below:Bool} (h:OkLd pl t) (hb:below=true→isBranch t=true):oddLd (nd t) pl below=false:=by
 unfold oddLd nd;simp only [Bool.or_eq_false_iff,Bool.and_eq_false_imp,decide_eq_false_iff_not,Bool.not_eq_false',decide_eq_true_eq];cases t with
 |nil=>exact absurd rfl h.nn
 |leaf p v=>
  refine ⟨⟨fun e=> ?_,?_⟩,?_⟩
  ·have:=hb e; cases this
  ·have:=(h.all p h.wf.1 (by simp [look]; exact h.wf.2)).1
   rw [List.length_append] at this;simp only [pathT]; omega
  ·intro e; simp [kindT] at e
 |ext p t=>
  refine ⟨⟨fun e=> ?_,?_⟩,?_⟩
  ·have:=hb e; cases this
  ·have:=h.below.short
   rw [List.length_append] at this;simp only [pathT]; omega
  ·intro e; simp [kindT] at e
 |branch v kids=>
  refine ⟨⟨fun e=>rfl,?_⟩,fun e=> ?_⟩
  ·have:=h.short; simp [pathT]; omega
  ·simp only [kindT,pathT,List.length_nil,Nat.add_zero] at e ⊢;intro h16;have h2:=h.wf.2;have hkid:∃ i,kids i≠ .nil:=by
    by_cases hex:∃ i,kids i≠ .nil
    ·exact hex
    ·exfalso
     have h0:many kids=0:=by
      unfold many;rw [List.length_eq_zero_iff,List.filter_eq_nil_iff];intro i _
      have:kids i= .nil:=Classical.byContradiction fun hc=>hex ⟨i,hc⟩
      rw [this]; simp [isNil]
     rw [h0] at h2
     split at h2<;>omega
   obtain ⟨i,hi⟩:=hkid
   have:=(h.kid i hi).short
   rw [List.length_append,List.length_singleton] at this;omega
theorem OkLd.many {pl:List UInt8} {t:T} {m:Nat} (h:OkLd pl t) (hm:m+count t≤1024):manyLd (nd t) pl m=(m+(if (valT t).isEmpty then 0 else 1),0):=by
 have hc:=count_eq h.nn h.wf;unfold manyLd nd;simp only
 by_cases hv:valT t= []
 ·rw [if_pos hv,hv]; rfl
 ·have he:(valT t).isEmpty=false:=by simp [hv]
  rw [he] at hc ⊢;rw [if_neg hv];simp only [Bool.false_eq_true,if_false] at hc ⊢;have hl:(pl.length+(pathT t).length) % 2=0∧pl.length+(pathT t).length≠0:=by
   cases t with
   |nil=>exact absurd rfl hv
   |leaf p v=>
    have:=h.all p h.wf.1 (by simp [look]; exact h.wf.2)
    simp only [pathT,←List.length_append];exact ⟨this.2.1,fun e=>this.2.2.1 (List.length_eq_zero_iff.1 e)⟩
   |ext p t=>exact absurd rfl hv
   |branch v kids=>
    have:=h.all [] rfl hv
    rw [List.append_nil] at this;simp only [pathT,List.length_nil,Nat.add_zero];exact ⟨this.2.1,fun e=>this.2.2.1 (List.length_eq_zero_iff.1 e)⟩
  unfold itemLd;rw [if_neg (by omega),if_neg (by omega)]
theorem nodeOf_back {D:List KV} {pl:List UInt8} {t:T} (h:OkLd pl t) (hl:lookB D (sumT t)=some (textT t)):nodeOf D (sumT t)=(nd t,0):=by
 unfold nodeOf;rw [hl];exact decN_text h.nn h.wf h.small
theorem mkT_back {t:T} (hn:t≠ .nil):mkT (nd t) ((List.range 16).map fun j=>if hj:j<16 then kidsT t ⟨j,hj⟩ else .nil)=t:=by
 have hg:∀ i:Fin 16,((List.range 16).map fun j=>if hj:j<16 then kidsT t ⟨j,hj⟩ else .nil).getD i.val .nil=kidsT t i:=fun i=>by
  rw [List.getD_eq_getElem?_getD,List.getElem?_map,List.getElem?_range i.isLt];simp
 generalize ((List.range 16).map fun j=>if hj:j<16 then kidsT t ⟨j,hj⟩ else .nil)=ts at *;cases t with
 |nil=>exact absurd rfl hn
 |leaf p v=>simp [mkT,nd,kindT,pathT,valT]
 |ext p t=>
  have:=hg 0
  simp [mkT,nd,kindT,pathT,valT]
  exact this
 |branch v kids=>
  have e:mkT (nd (.branch v kids)) ts= .branch v fun i=>ts.getD i.val .nil:=by simp [mkT,nd,kindT,valT]
  rw [e]
  congr 1
  funext i
  exact hg i
theorem kidAt_nd {pl:List UInt8} {t:T} (i:Fin 16) (h:kidsT t i≠ .nil) (hok:OkLd pl t):OkLd (kidAt (nd t) pl i.val) (kidsT t i)∧((kindT t=2)→isBranch (kidsT t i)=true)∧pl.length<(kidAt (nd t) pl i.val).length:=by
 cases t with
 |nil=>exact absurd rfl h
 |leaf p v=>exact absurd rfl h
 |ext p t=>
  simp only [kidsT] at h ⊢;by_cases hi:i=0
  ·rw [if_pos hi] at h ⊢;have e:kidAt (nd (.ext p t)) pl i.val=pl++p:=by simp [kidAt,nd,kindT,pathT]
   rw [e,List.length_append]
   have:=List.length_pos_iff.2 hok.wf.2.1
   exact ⟨hok.below,fun _=>hok.wf.2.2.1,by omega⟩
  ·rw [if_neg hi] at h; exact absurd rfl h
 |branch v kids=>
  have e:kidAt (nd (.branch v kids)) pl i.val=pl++ [UInt8.ofNat i.val]:=by simp [kidAt,nd,kindT]
  rw [e,List.length_append];exact ⟨hok.kid i h,fun e=>by simp [kindT] at e,by simp⟩
theorem knots_kid {t k:T} (i:Fin 16) (h:k∈knots (kidsT t i)):k∈knots t:=by
 cases t with
 |nil=>cases h
 |leaf p v=>cases h
 |ext p t=>
  simp only [kidsT] at h;by_cases hi:i=0
  ·rw [if_pos hi] at h; exact List.mem_cons_of_mem _ h
  ·rw [if_neg hi] at h; cases h
 |branch v kids=>
  simp only [knots];exact List.mem_cons_of_mem _ (List.mem_flatMap.2 ⟨i,List.mem_finRange _,h⟩)
theorem knots_self {t:T} (h:t≠ .nil):t∈knots t:=by
 cases t with
 |nil=>exact absurd rfl h
 |leaf p v=>simp [knots]
 |ext p t=>simp [knots]
 |branch v kids=>simp [knots]
theorem loadW_back {D:List KV}:∀ f t pl below m,OkLd pl t→(∀ k∈knots t,lookB D (sumT k)=some (textT k))→(below=true→isBranch t=true)→17≤f+pl.length→m+count t≤1024→
  loadW D f (sumT t) pl below m 0=(t,m+count t,0)
 |0,t,pl,below,m,hok,_,_,hf,_=>by have:=hok.short; omega
 |f+1,t,pl,below,m,hok,hD,hb,hf,hm=>by
  have hno:=nodeOf_back hok (hD t (knots_self hok.nn));unfold loadW;rw [if_neg (by simp),hno];simp only
  rw [if_neg (by simp),hok.odd hb,if_neg (by simp),hok.many hm,if_neg (by simp)];have hc:=count_eq hok.nn hok.wf;have hsum:((List.range 16).map fun j=>count (if hj:j<16 then kidsT t ⟨j,hj⟩ else .nil)).sum=belowT t 16:=by
   rw [range_fin];unfold belowT;rw [List.take_of_length_le (by simp)]
   congr 1
  have hk:=kidsLd_back (F:=fun s p m c=>loadW D f s p (decide ((nd t).1=2)) m c) (K:=(nd t).2.2.2) (at_:=kidAt (nd t) pl) (fun j=>if hj:j<16 then kidsT t ⟨j,hj⟩ else .nil)
   (fun i hi=>by
    rw [dif_pos hi]
    have:=sumsT_at t ⟨i,hi⟩
    simp only at this
    show (sumsT t).getD i []= []↔_;rw [this];exact sumT_empty)
   (fun i m' hi hne hm'=>by
    rw [dif_pos hi] at hne hm' ⊢;obtain ⟨k1,k2,k3⟩:=kidAt_nd ⟨i,hi⟩ hne hok;have e:(nd t).2.2.2.getD i []=sumT (kidsT t ⟨i,hi⟩):=sumsT_at t ⟨i,hi⟩;simp only [e];exact loadW_back f _ _ _ m' k1 (fun k hk=>hD k (knots_kid ⟨i,hi⟩ hk)) (fun h=>k2 (of_decide_eq_true h)) (by simp only at k3; omega) hm')
   16 (m+(if (valT t).isEmpty then 0 else 1)) (by omega) (by
    simp only [Nat.sub_self,Nat.zero_add];rw [hsum]; omega)
  simp only [Nat.sub_self,Nat.zero_add] at hk;rw [hsum] at hk;rw [hk];unfold endLd;rw [if_pos rfl];simp only
  rw [mkT_back hok.nn];have e:m+(if (valT t).isEmpty then 0 else 1)+belowT t 16=m+count t:=by omega
  rw [e]
theorem Good.okLd {t:T} (h:Good t) (hn:t≠ .nil):OkLd [] t:=by
 obtain ⟨h1,h2,h3⟩:=h;refine ⟨hn,h1,fun q hq hl=> ?_⟩;have a:=h2 q hq hl;have b:=h3 q hq hl;exact ⟨a.1,b.1,b.2,a.2⟩
end Trie
theorem lookB_putB (D:List Trie.KV) (k v q:List UInt8):lookB (putB D k v) q=if q=k then some v else lookB D q:=by
 induction D with
 |nil=>simp [putB,lookB]
 |cons x D ih=>
  simp only [putB];by_cases h:k=x.1
  ·rw [if_pos h];simp only [lookB];by_cases h2:q=k
   ·rw [if_pos h2,if_pos h2]
   ·rw [if_neg h2,if_neg h2,if_neg (fun e=>h2 (e.trans h.symm))]
  ·rw [if_neg h];simp only [lookB,ih];by_cases h2:q=x.1
   ·rw [if_pos h2,if_pos h2,if_neg (fun e=>h (e.symm.trans h2))]
   ·rw [if_neg h2,if_neg h2]
theorem Trie.knots_nn (t:Trie.T):∀ k∈Trie.knots t,k≠ .nil:=by
 induction t with
 |nil=>intro k h; cases h
 |leaf p v=>intro k h; rw [Trie.knots,List.mem_singleton] at h; subst h; simp
 |ext p t ih=>
  intro k h;rcases List.mem_cons.1 h with rfl|h
  ·simp
  ·exact ih k h
 |branch v kids ih=>
  intro k h;rcases List.mem_cons.1 h with rfl|h
  ·simp
  ·obtain ⟨i,_,h⟩:=List.mem_flatMap.1 h;exact ih i k h
theorem putS_look (D:List Trie.KV) (x:List UInt8):∃ key,shaW (1::x)=key∧putS D x=if (lookB D key).isSome then D else putB D key x:=⟨_,rfl,rfl⟩
theorem putS_from {D:List Trie.KV} {x k s:List UInt8} (h:lookB (putS D x) k=some s):lookB D k=some s∨(shaW (1::x)=k∧s=x):=by
 obtain ⟨key,hk,e⟩:=putS_look D x;rw [hk];rw [e] at h;clear e hk;by_cases h1:(lookB D key).isSome=true
 ·rw [if_pos h1] at h; exact .inl h
 ·rw [if_neg h1,lookB_putB] at h;by_cases h2:k=key
  ·rw [if_pos h2] at h;exact .inr ⟨h2.symm,(Option.some.inj h).symm⟩
  ·rw [if_neg h2] at h; exact .inl h
theorem saveD_true {D:List Trie.KV} {l:List (List UInt8)} (hD:∀ k s,lookB D k=some s→shaW (1::s)=k):∀ k s,lookB (saveD D l) k=some s→shaW (1::s)=k:=by
 induction l generalizing D with
 |nil=>exact hD
 |cons x l ih=>
  refine ih (D:=putS D x) fun k s h=> ?_;rcases putS_from h with h|⟨h1,h2⟩
  ·exact hD k s h
  ·rw [h2]; exact h1
theorem putS_old {D:List Trie.KV} {x k s:List UInt8} (h:lookB D k=some s):lookB (putS D x) k=some s:=by
 obtain ⟨key,hk,e⟩:=putS_look D x;rw [e];clear e hk;by_cases h1:(lookB D key).isSome=true
 ·rw [if_pos h1]; exact h
 ·rw [if_neg h1,lookB_putB,if_neg]
  ·exact h
  ·rintro rfl;rw [h] at h1;exact h1 rfl
theorem saveD_old {l:List (List UInt8)} {D:List Trie.KV} {k s:List UInt8} (h:lookB D k=some s):lookB (saveD D l) k=some s:=by
 induction l generalizing D with
 |nil=>exact h
 |cons x l ih=>exact ih (D:=putS D x) (putS_old h)
theorem putB_mem {D:List Trie.KV} {k v:List UInt8} {x:Trie.KV} (h:x∈putB D k v):x=(k,v)∨x∈D:=by
 induction D with
 |nil=>simp [putB] at h; exact .inl h
 |cons y D ih=>
  simp only [putB] at h;by_cases h1:k=y.1
  ·rw [if_pos h1] at h;rcases List.mem_cons.1 h with h|h
   ·exact .inl h
   ·exact .inr (List.mem_cons_of_mem _ h)
  ·rw [if_neg h1] at h;rcases List.mem_cons.1 h with h|h
   ·exact .inr (by rw [h]; exact List.mem_cons_self ..)
   ·rcases ih h with h|h
    ·exact .inl h
    ·exact .inr (List.mem_cons_of_mem _ h)
theorem putS_mem {D:List Trie.KV} {y:List UInt8} {x:Trie.KV} (h:x∈putS D y):x.2=y∨x∈D:=by
 obtain ⟨key,hk,e⟩:=putS_look D y;rw [e] at h;clear e hk;by_cases h1:(lookB D key).isSome=true
 ·rw [if_pos h1] at h; exact .inr h
 ·rw [if_neg h1] at h;rcases putB_mem h with h|h
  ·exact .inl (by rw [h])
  ·exact .inr h
theorem saveD_mem {l:List (List UInt8)} {D:List Trie.KV} {x:Trie.KV} (h:x∈saveD D l):x∈D∨x.2∈l:=by
 induction l generalizing D with
 |nil=>exact .inl h
 |cons y l ih=>
  rcases ih (D:=putS D y) h with h|h
  ·rcases putS_mem h with h|h
   ·exact .inr (by rw [h]; exact List.mem_cons_self ..)
   ·exact .inl h
  ·exact .inr (List.mem_cons_of_mem _ h)
theorem putS_has (D:List Trie.KV) (x:List UInt8):∃ s,lookB (putS D x) (shaW (1::x))=some s:=by
 obtain ⟨key,hk,e⟩:=putS_look D x;rw [hk,e];clear e hk;by_cases h1:(lookB D key).isSome=true
 ·rw [if_pos h1]; exact Option.isSome_iff_exists.1 h1
 ·rw [if_neg h1];exact ⟨x,by rw [lookB_putB,if_pos rfl]⟩
theorem saveD_has {l:List (List UInt8)} {D:List Trie.KV} {x:List UInt8} (h:x∈l):(lookB (saveD D l) (shaW (1::x))).isSome=true:=by
 induction l generalizing D with
 |nil=>cases h
 |cons y l ih=>
  rcases List.mem_cons.1 h with rfl|h
  ·obtain ⟨s,hs⟩:=putS_has D x
   have:lookB (saveD (putS D x) l) (shaW (1::x))=some s:=saveD_old hs
   show (lookB (saveD (putS D x) l) _).isSome=true;rw [this]; rfl
  ·exact ih (D:=putS D y) h
theorem load_back {D:List Trie.KV} {l:List (List UInt8)} {X:Trie.T} (hX:Trie.Good X) (hc:Trie.count X≤1024) (hT:∀ k s,lookB D k=some s→shaW (1::s)=k)
  (hl:∀ x∈toldW allW X,x∈l) (hD:∀ k s,lookB D k=some s→s∈l) (hH:∀ x∈toldW allW X,(lookB D (shaW (1::x))).isSome=true):
  unlikeW l=true∨loadR D (Trie.sumT X)=(X,0):=by
 by_cases hu:unlikeW l=true
 ·exact .inl hu
 ·refine .inr ?_;unfold loadR;by_cases hn:X= .nil
  ·subst hn; rfl
  ·rw [if_neg (fun e=>hn (Trie.sumT_empty.1 e))];have hback:=Trie.loadW_back (D:=D) 17 X [] false 0 (hX.okLd hn) (fun k hk=> ?_) (fun h=>by cases h) (by simp) (by omega)
   ·rw [hback]
   ·have hm:Trie.textT k∈toldW allW X:=by rw [Trie.told_knots]; exact List.mem_map.2 ⟨k,hk,rfl⟩
    have hkn:k≠ .nil:=by
     rintro rfl;exact Trie.knots_nn X _ hk rfl
    rw [←Trie.sum_text hkn];obtain ⟨s,hs⟩:=Option.isSome_iff_exists.1 (hH _ hm);rw [hs]
    congr 1
    refine Decidable.byContradiction fun hne=>hu ?_;exact unlikeW_of (hD _ _ hs) (hl _ hm) hne (hT _ _ hs)
section
open Go.RowKit Go.Instr
attribute [local go_sem] ba_get ByteArray.mk_append_mk
theorem sums1_take (l:List (List UInt8)) (i:Nat) (h:i<l.length):sums1 (l.take (i+1))=sums1 (l.take i)++ [shaW (1::l[i])]:=by
 unfold sums1;rw [List.take_succ_eq_append_getElem h,List.map_append];rfl
theorem sums1_len (l:List (List UInt8)):(sums1 l).length=l.length:=by unfold sums1; rw [List.length_map]
theorem oddAt_eq {l:List (List UInt8)} {i k:Nat} (hi:i<l.length) (hk:k<l.length):oddAt l i k=(((sums1 l)[i]'(by rw [sums1_len]; exact hi)==(sums1 l)[k]'(by rw [sums1_len]; exact hk)) && !(l[i]==l[k])):=by
 unfold oddAt;rw [getD_at hi,getD_at hk,getD_at (l:=sums1 l) (by rw [sums1_len]; exact hi),getD_at (l:=sums1 l) (by rw [sums1_len]; exact hk)]
 congr 1
 ·generalize (sums1 l)[i]'(by rw [sums1_len]; exact hi)=a;generalize (sums1 l)[k]'(by rw [sums1_len]; exact hk)=b;by_cases h:a=b<;>simp [h]
 ·generalize l[i]=a;generalize l[k]=b;by_cases h:a=b<;>simp [h]
theorem ref04_Unlike (w:World) (l:List (List UInt8)) (A:Option Addr) (c:Nat) (HR:Reads w w.heap.size 1 A l.length (strv l)) (hn:l.length≤200000) (hs:∀ x∈l,x.length≤900000):
  Calls Tryz.prog 22 #[.int .i64 1,.slice A l.length c] w (Ret w (.bool (unlikeW l))):=by
 have HP:Hid (∀ b w',unlikeW l=b→Below w.heap.size w w'→Ret w (.bool (unlikeW l)) (.returned (.bool b)) w'):=ι (fun b w' e h=>⟨by rw [e],h⟩);generalize Ret w (.bool (unlikeW l))=P at HP ⊢;have HRR:=ι HR;have HS:=ι hs;have HL:=ι hn;clear HR hs hn;go_enter Tryz.func22,Tryz.ntmps22
 go_wp2_with fail
 refine wp_loop_ghost_k (fun k a wr=>∀ Φ:Act→Prop,(∀ ⦃s2 s3 s4 s7 s8 s9 a0 a4 a5 a6 a7 a8 a9 b0 b1 b2 b3 b4 b5 b6 b7 b8 b9 c0 c1 c4 c5 c6 c7 c8 c9 d0 d1 d2 d3 d4 d5 d6 d7 d8 d9 e0 e3 e4 e5 e6 e7 e8 e9 f0 f1:Value⦄ (i n c2:Nat) (O:Option Addr),(i+k=l.length∧n=i∧wr.ownsRow w.heap.size 9 1 (.slice O n c2) n (strv (sums1 (l.take i)))∧Below w.heap.size w wr)→Φ {tmps:=#[.int .i64 1,.slice A l.length c,s2,s3,s4,.slice O n c2,.int .i64 (i:Int),s7,s8,s9,a0,a4,a5,a6,a7,a8,a9,b0,b1,b2,b3,b4,b5,b6,b7,b8,b9,c0,c1,c4,c5,c6,c7,c8,c9,d0,d1,d2,d3,d4,d5,d6,d7,d8,d9,e0,e3,e4,e5,e6,e7,e8,e9,f0,f1],defers:= []})→Φ a) (l.length) ?_ ?_
 ·refine fun Φ hΦ=>hΦ (0) (0) (0) (none) ?_;exact ⟨by omega,rfl,World.ownsRow_nil _ _ _ _,Below.refl _ _⟩
 ·intro k1 a1 wr1 hI1 J1 K1 hJ1 hK1;refine hI1 (fun a=>Code.wp _ _ _ a _) ?_;clear hI1 a1;intro s0 s1 s2 s3 s4 s5 s6 s7 s8 s9 a0 a4 a5 a6 a7 a8 a9 b0 b1 b2 b3 b4 b5 b6 b7 b8 b9 c0 c1 c4 c5 c6 c7 c8 c9 d0 d1 d2 d3 d4 d5 d6 d7 d8 d9 e0 e3 e4 e5 e6 e7 i n c2 O hrel
  show Code.wp _ _ _ _ _;obtain ⟨h1,rfl,own,hb⟩:=hrel;by_cases hi:n<l.length
  ·obtain ⟨ad,off,rfl,hbl,hcell⟩:=few_cell HRR.out hi;have q0:=hcell _ hb;have HSn:Hid (strv (sums1 (l.take (n+1)))=strv (sums1 (l.take n))++ [.string ⟨(shaW (1::l[n])).toArray⟩]):=ι (by rw [sums1_take l n hi]; simp [strv]);have hxl:=HS.out _ (List.getElem_mem hi);have hi1:(n:Int)<l.length:=by omega
   have hi0:(0:Int)≤n:=by omega
   have hl:=HL.out;have hn3:n≤200000:=by omega
   have HI:=ι h1;have OW:=ι (And.intro own hb);clear hcell h1 own hb;generalize l[n]=x at *;have HTag:Hid (∀ W,Calls Tryz.prog 65 #[.int .i64 1,x] W fun e w'=>e= .returned (.string ⟨(shaW (1::x)).toArray⟩)∧Below W.heap.size W w'):=ι (fun W=>ref04_Tagged W 1 (by omega) x (by omega));generalize shaW (1::x)=s at *;have hone:∀ u∈ [Value.string ⟨s.toArray⟩],u.oneCell'=true:=by intro u hu; rw [List.mem_singleton] at hu; subst hu; rfl
   generalize strv (sums1 (l.take n))=SV at *;go_wp2_with fail
   refine (HTag.out _).mono ?_;rintro e w2 ⟨rfl,hb2⟩;have OW2:=ι (And.intro (own_below OW.out.1 hb2) (OW.out.2.nxt hb2));clear hb2 q0;go_wp2_with (at_builtin; refine wpList_append_new w2 9 [s] rfl _ _ 26 rfl w.heap.size 1 16 _ info_str Tryz.underlying26 rfl (by decide) (.slice O n c2) n SV rfl OW2.out.1 1 1 rfl rfl hone (by simp only [maxLen]; omega) (by omega) w.heap.size w OW2.out.2 (Nat.le_refl _) OW2.out.2.size ?_; intro v3 w3 own3 hb3 hg3 _ _; obtain ⟨A3,c3,rfl,_,_,_⟩:=own_form own3; have O3:=ι (And.intro own3 hb3); clear own3 hb3 hg3)
   refine Handed.intro (l.length - (n+1)) ?_ (hJ1 _ _ _ (fun Φ hΦ=>hΦ (n+1) (n+1) (c3) (A3) ?_))
   ·have:=HI.out; omega
   ·refine ⟨by have:=HI.out; omega,rfl,?_,O3.out.2⟩;rw [HSn.out];exact O3.out.1
  ·have hi2:((n:Int)<l.length)=False:=by simp; omega
   obtain rfl:n=l.length:=by omega
   rw [List.take_of_length_le (Nat.le_refl _)] at own;have RS:=ι (Reads.of_own own);have HB:=ι hb;clear own hb h1 hi;go_wp2_with fail
   refine wp_loop_ghost_k (fun k a wr=>∀ Φ:Act→Prop,(∀ ⦃s2 s3 s4 s6 s8 s9 a0 a4 a5 a6 a7 a8 a9 b0 b1 b2 b3 b4 b5 b6 b7 b8 b9 c0 c1 c4 c5 c6 c7 c8 c9 d0 d1 d2 d3 d4 d5 d6 d7 d8 d9 e0 e3 e4 e5 e6 e7 e8 e9 f0 f1:Value⦄ (i:Nat),(i+k=l.length∧unlikeTo l i=false∧Below wr1.heap.size wr1 wr)→Φ {tmps:=#[.int .i64 1,.slice A l.length c,s2,s3,s4,.slice O l.length c2,s6,.int .i64 (i:Int),s8,s9,a0,a4,a5,a6,a7,a8,a9,b0,b1,b2,b3,b4,b5,b6,b7,b8,b9,c0,c1,c4,c5,c6,c7,c8,c9,d0,d1,d2,d3,d4,d5,d6,d7,d8,d9,e0,e3,e4,e5,e6,e7,e8,e9,f0,f1],defers:= []})→Φ a) (l.length) ?_ ?_
   ·refine fun Φ hΦ=>hΦ (0) ?_;exact ⟨by omega,rfl,Below.refl _ _⟩
   ·intro k2 a2 wr2 hI2 J2 K2 hJ2 hK2;refine hI2 (fun a=>Code.wp _ _ _ a _) ?_;clear hI2 a2;intro s0 s1 s2 s3 s4 s5 s6 s7 s8 s9 a0 a4 a5 a6 a7 a8 a9 b0 b1 b2 b3 b4 b5 b6 b7 b8 b9 c0 c1 c4 c5 c6 c7 c8 c9 d0 d1 d2 d3 d4 d5 d6 d7 d8 d9 e0 e3 e4 e5 e6 e7 i hrel
    show Code.wp _ _ _ _ _;obtain ⟨h1,h2,hb⟩:=hrel;by_cases hi:i<l.length
    ·have hi1:(i:Int)<l.length:=by omega
     have hi0:(0:Int)≤i:=by omega
     have hl:=HL.out;have HI:=ι (And.intro h1 (And.intro h2 hb));clear h1 h2 hb;go_wp2_with fail
     refine wp_loop_ghost_k (fun k a wr=>∀ Φ:Act→Prop,(∀ ⦃s2 s3 s4 s6 s9 a0 a4 a5 a6 a7 a8 a9 b0 b1 b2 b3 b4 b5 b6 b7 b8 b9 c0 c1 c4 c5 c6 c7 c8 c9 d0 d1 d2 d3 d4 d5 d6 d7 d8 d9 e0 e3 e4 e5 e6 e7 e8 e9 f0 f1:Value⦄ (j:Nat),(j+k=i∧oddTo l i j=false∧Below wr1.heap.size wr1 wr)→Φ {tmps:=#[.int .i64 1,.slice A l.length c,s2,s3,s4,.slice O l.length c2,s6,.int .i64 (i:Int),.int .i64 (j:Int),s9,a0,a4,a5,a6,a7,a8,a9,b0,b1,b2,b3,b4,b5,b6,b7,b8,b9,c0,c1,c4,c5,c6,c7,c8,c9,d0,d1,d2,d3,d4,d5,d6,d7,d8,d9,e0,e3,e4,e5,e6,e7,e8,e9,f0,f1],defers:= []})→Φ a) (i) ?_ ?_
     ·refine fun Φ hΦ=>hΦ (0) ?_;exact ⟨by omega,rfl,HI.out.2.2⟩
     ·intro k3 a3 wr3 hI3 J3 K3 hJ3 hK3;refine hI3 (fun a=>Code.wp _ _ _ a _) ?_;clear hI3 a3;iterate 50 (intro _)
      intro j hrel
      show Code.wp _ _ _ _ _;obtain ⟨g1,g2,gb⟩:=hrel;by_cases hj:j<i
      ·have hjl:j<l.length:=by omega
       have hsl:=sums1_len l;have hj1:(j:Int)<i:=by omega
       have hj2:(j:Int)<l.length:=by omega
       have hj0:(0:Int)≤j:=by omega
       obtain ⟨ad,off,rfl,hbl,hcell⟩:=few_cell HRR.out hi;obtain ⟨ad',off',hA',_,hcell'⟩:=few_cell HRR.out hjl;injection hA' with hA'
       injection hA' with ha1 ha2
       subst ha1 ha2;have RS2:=RS.out;rw [←hsl] at RS2;obtain ⟨bd,bff,rfl,hbb,scell⟩:=few_cell RS2 (i:=i) (by rw [sums1_len]; exact hi);obtain ⟨bd',bff',hB',_,scell'⟩:=few_cell RS2 (i:=j) (by rw [sums1_len]; exact hjl);injection hB' with hB'
       injection hB' with hb1 hb2
       subst hb1 hb2;have GB:=ι gb;have q1:=hcell _ (HB.out.nxt gb);have q2:=hcell' _ (HB.out.nxt gb);have q3:=scell _ gb;have q4:=scell' _ gb;have hodd:=oddAt_eq hi hjl;have hos:=oddTo_succ l i j;rw [g2,Bool.false_or,hodd] at hos;have HJ:=ι g1;have HO:=ι hos;clear hodd hos g1 g2 gb hcell hcell' scell scell' RS2;generalize (sums1 l)[i]'(by rw [sums1_len]; exact hi)=si at *;generalize (sums1 l)[j]'(by rw [sums1_len]; exact hjl)=sj at *;generalize l[i]=li at *;generalize l[j]=lj at *;cases e1:(si==sj) with
       |false=>
        rw [e1,Bool.false_and] at HO;clear q1 q2;go_wp2_with fail
        go_quiet (fail)
        go_wp2_with fail
        refine Handed.intro (i - (j+1)) ?_ (hJ3 _ _ _ (fun Φ hΦ=>hΦ (j+1) ?_))
        ·have:=HJ.out; omega
        ·exact ⟨by have:=HJ.out; omega,HO.out,below_drewN GB.out _⟩
       |true=>
        rw [e1,Bool.true_and] at HO;cases e2:(li==lj) with
        |true=>
         rw [e2] at HO;go_wp2_with fail
         go_quiet (fail)
         go_wp2_with fail
         refine Handed.intro (i - (j+1)) ?_ (hJ3 _ _ _ (fun Φ hΦ=>hΦ (j+1) ?_))
         ·have:=HJ.out; omega
         ·exact ⟨by have:=HJ.out; omega,HO.out,below_drewN GB.out _⟩
        |false=>
         rw [e2] at HO;go_wp2_with fail
         go_quiet (fail)
         go_wp2_with fail
         refine HP.out true _ ?_ (below_drewN (HB.out.nxt GB.out) _);have a1:=oddTo_mono (m:=i) HO.out (by omega);have a2:unlikeTo l (i+1)=true:=by rw [unlikeTo_succ,a1,Bool.or_true]
         exact unlikeTo_mono a2 (by omega)
      ·have hj1:((j:Int)<i)=False:=by simp; omega
       obtain rfl:j=i:=by omega
       have HG:=ι (And.intro g2 gb);clear g1 g2 gb hj;go_wp2_with fail
       refine Handed.intro (l.length - (j+1)) ?_ (hJ2 _ _ _ (fun Φ hΦ=>hΦ (j+1) ?_))
       ·have:=HI.out.1; omega
       ·exact ⟨by have:=HI.out.1; omega,by rw [unlikeTo_succ,HI.out.2.1,HG.out.1]; rfl,HG.out.2⟩
    ·have hi1:((i:Int)<l.length)=False:=by simp; omega
     obtain rfl:i=l.length:=by omega
     have HE:=ι (And.intro h2 hb);clear h1 h2 hb hi;go_wp2_with fail
     exact HP.out false _ HE.out.1 (HB.out.nxt HE.out.2)
end
end Go.Proofs.YtnelhjfjkkdoaaaGreatDoor