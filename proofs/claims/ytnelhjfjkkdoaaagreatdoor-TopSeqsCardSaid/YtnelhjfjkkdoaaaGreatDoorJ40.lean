import Derived.Test.YtnelhjfjkkdoaaaGreatDoorJ39
import Derived.Test.YtnelhjfjkkdoaaaGreatDoorJ38
set_option linter.unusedSimpArgs false
set_option linter.unusedVariables false
namespace Go.Proofs.YtnelhjfjkkdoaaaGreatDoor
section
open Go.RowKit Go.Instr
attribute [local go_sem] ba_get ByteArray.mk_append_mk
def sums1 (l:List (List UInt8)):List (List UInt8):=l.map fun s=>shaW (1::s)
def oddAt (l:List (List UInt8)) (i:Nat) (k:Nat):Bool:=decide ((sums1 l).getD i []=(sums1 l).getD k []) && !decide (l.getD i []=l.getD k [])
def oddTo (l:List (List UInt8)) (i k:Nat):Bool:=(List.range k).any fun j=>oddAt l i j
def unlikeTo (l:List (List UInt8)) (n:Nat):Bool:=(List.range n).any fun i=>oddTo l i i
def unlikeW (l:List (List UInt8)):Bool:=unlikeTo l l.length
theorem sums1_at {l:List (List UInt8)} {i:Nat} (h:i<l.length):(sums1 l).getD i []=shaW (1::l[i]):=by
 unfold sums1;rw [List.getD_eq_getElem?_getD,List.getElem?_map,List.getElem?_eq_getElem h,Option.map_some,Option.getD_some]
theorem getD_at {l:List (List UInt8)} {i:Nat} (h:i<l.length):l.getD i []=l[i]:=by
 rw [List.getD_eq_getElem?_getD,List.getElem?_eq_getElem h]; rfl
theorem unlikeW_of {l:List (List UInt8)} {x y:List UInt8} (hx:x∈l) (hy:y∈l) (hne:x≠y) (hs:shaW (1::x)=shaW (1::y)):unlikeW l=true:=by
 obtain ⟨i,hi,rfl⟩:=List.getElem_of_mem hx;obtain ⟨j,hj,rfl⟩:=List.getElem_of_mem hy;have key:∀ i j (hi:i<l.length) (hj:j<l.length),l[i]≠l[j]→shaW (1::l[i])=shaW (1::l[j])→j<i→unlikeW l=true:=by
  intro i j hi hj hne hs hlt;unfold unlikeW unlikeTo;rw [List.any_eq_true];refine ⟨i,List.mem_range.2 hi,?_⟩;unfold oddTo;rw [List.any_eq_true];refine ⟨j,List.mem_range.2 hlt,?_⟩;unfold oddAt;rw [sums1_at hi,sums1_at hj,getD_at hi,getD_at hj,decide_eq_true hs,decide_eq_false hne];rfl
 rcases Nat.lt_trichotomy i j with h|h|h
 ·exact key j i hj hi (Ne.symm hne) hs.symm h
 ·subst h; exact absurd rfl hne
 ·exact key i j hi hj hne hs h
end
namespace Trie
open Nib
theorem kidsLd_back {F:List UInt8→List UInt8→Nat→Nat→Ld} {K:List (List UInt8)} {at_:Nat→List UInt8} (ts:Nat→T) (hn:∀ i,i<16→(K.getD i []= []↔ts i= .nil))
  (hF:∀ i m,i<16→ts i≠ .nil→m+count (ts i)≤1024→F (K.getD i []) (at_ i) m 0=(ts i,m+count (ts i),0)):
  ∀ n m,n≤16→m+((List.range n).map fun j=>count (ts (16 - n+j))).sum≤1024→
   kidsLd F K at_ n m 0=((List.range n).map fun j=>ts (16 - n+j),m+((List.range n).map fun j=>count (ts (16 - n+j))).sum,0)
 |0,m,_,_=>rfl
 |n+1,m,hle,hm=>by
  have e1:∀ j,16 - (n+1)+(j+1)=16 - n+j:=fun j=>by omega
  rw [List.range_succ_eq_map,List.map_cons,List.map_cons,List.map_map,List.map_map] at *;simp only [Function.comp_def,Nat.succ_eq_add_one,e1,List.sum_cons,Nat.add_zero] at hm ⊢;rw [show 16 - (n+1)=15 - n by omega] at hm ⊢;simp only [kidsLd];by_cases hz:K.getD (15 - n) []= []
  ·have h0:=(hn _ (by omega)).1 hz;rw [h0] at hm ⊢;simp only [count,Nat.zero_add] at hm ⊢;rw [if_pos hz,kidsLd_back ts hn hF n m (by omega) hm]
  ·have h0:ts (15 - n)≠ .nil:=fun e=>hz ((hn _ (by omega)).2 e);rw [if_neg hz,hF _ _ (by omega) h0 (by omega)];simp only
   rw [kidsLd_back ts hn hF n _ (by omega) (by omega),Nat.add_assoc]
theorem range_fin {α:Type} (f:Nat→α):(List.range 16).map f=(List.finRange 16).map fun i=>f i.val:=by
 refine List.ext_getElem (by simp) fun i h1 h2=> ?_;simp
theorem OkLd.kid {pl v:List UInt8} {kids:Fin 16→T} (h:OkLd pl (.branch v kids)) (i:Fin 16) (hi:kids i≠ .nil):OkLd (pl++ [UInt8.ofNat i.val]) (kids i):=by
 refine ⟨hi,h.wf.1 i,fun q hq hl=> ?_⟩;obtain ⟨e1,e2⟩:=ix_of i
 have:=h.all (UInt8.ofNat i.val::q) (fit_cons'.2 ⟨e2,hq⟩) (by simp only [look,e1]; exact hl)
 simp only [look,e1] at this;rw [List.append_assoc];exact this
theorem OkLd.below {pl p:List UInt8} {t:T} (h:OkLd pl (.ext p t)):OkLd (pl++p) t:=by
 have hw:=h.wf;refine ⟨fun e=>(by have:=hw.2.2.1; rw [e] at this; cases this),hw.2.2.2,fun q hq hl=> ?_⟩
 have:=h.all (p++q) (fit_append.2 ⟨hw.1,hq⟩) (by rw [look_ext]; exact hl)
 rw [look_ext] at this;rw [List.append_assoc];exact this
theorem OkLd.has {pl:List UInt8} {t:T} (h:OkLd pl t):∃ q,fit q=true∧look t q≠ []:=look_some t h.wf (by cases hi:isNil t with|false=>rfl|true=>exact absurd (isNil_iff.1 hi) h.nn)
theorem OkLd.short {pl:List UInt8} {t:T} (h:OkLd pl t):pl.length≤16:=by
 obtain ⟨q,h1,h2⟩:=h.has
 have:=(h.all q h1 h2).1
 rw [List.length_append] at this;omega
theorem OkLd.odd {pl:List UInt8} {t:T} {below:Bool} (h:OkLd pl t) (hb:below=true→isBranch t=true):oddLd (nd t) pl below=false:=by
 unfold oddLd nd;simp only [Bool.or_eq_false_iff,Bool.and_eq_false_imp,decide_eq_false_iff_not,Bool.not_eq_false',decide_eq_true_eq];cases t with
 |nil=>exact absurd rfl h.nn
 |leaf p v=>
  refine ⟨⟨fun e=> ?_,?_⟩,?_⟩
  ·have:=hb e; cases this
  ·have:=(h.all p h.wf.1 (by simp [look]; exact h.wf.2)).1
   rw [List.length_append] at this;simp only [pathT]; omega
  ·intro e; simp [kindT] at e
 |ext p t=>
  refine ⟨⟨fun e=> ?_,?_⟩,?_⟩
  ·have:=hb e; cases this
  ·have:=h.below.short
   rw [List.length_append] at this;simp only [pathT]; omega
  ·intro e; simp [kindT] at e
 |branch v kids=>
  refine ⟨⟨fun e=>rfl,?_⟩,fun e=> ?_⟩
  ·have:=h.short; simp [pathT]; omega
  ·simp only [kindT,pathT,List.length_nil,Nat.add_zero] at e ⊢;intro h16;have h2:=h.wf.2;have hkid:∃ i,kids i≠ .nil:=by
    by_cases hex:∃ i,kids i≠ .nil
    ·exact hex
    ·exfalso
     have h0:many kids=0:=by
      unfold many;rw [List.length_eq_zero_iff,List.filter_eq_nil_iff];intro i _
      have:kids i= .nil:=Classical.byContradiction fun hc=>hex ⟨i,hc⟩
      rw [this]; simp [isNil]
     rw [h0] at h2
     split at h2<;>omega
   obtain ⟨i,hi⟩:=hkid
   have:=(h.kid i hi).short
   rw [List.length_append,List.length_singleton] at this;omega
theorem OkLd.many {pl:List UInt8} {t:T} {m:Nat} (h:OkLd pl t) (hm:m+count t≤1024):manyLd (nd t) pl m=(m+(if (valT t).isEmpty then 0 else 1),0):=by
 have hc:=count_eq h.nn h.wf;unfold manyLd nd;simp only
 by_cases hv:valT t= []
 ·rw [if_pos hv,hv]; rfl
 ·have he:(valT t).isEmpty=false:=by simp [hv]
  rw [he] at hc ⊢;rw [if_neg hv];simp only [Bool.false_eq_true,if_false] at hc ⊢;have hl:(pl.length+(pathT t).length) % 2=0∧pl.length+(pathT t).length≠0:=by
   cases t with
   |nil=>exact absurd rfl hv
   |leaf p v=>
    have:=h.all p h.wf.1 (by simp [look]; exact h.wf.2)
    simp only [pathT,←List.length_append];exact ⟨this.2.1,fun e=>this.2.2.1 (List.length_eq_zero_iff.1 e)⟩
   |ext p t=>exact absurd rfl hv
   |branch v kids=>
    have:=h.all [] rfl hv
    rw [List.append_nil] at this;simp only [pathT,List.length_nil,Nat.add_zero];exact ⟨this.2.1,fun e=>this.2.2.1 (List.length_eq_zero_iff.1 e)⟩
  unfold itemLd;rw [if_neg (by omega),if_neg (by omega)]
theorem nodeOf_back {D:List KV} {pl:List UInt8} {t:T} (h:OkLd pl t) (hl:lookB D (sumT t)=some (textT t)):nodeOf D (sumT t)=(nd t,0):=by
 unfold nodeOf;rw [hl];exact decN_text h.nn h.wf h.small
theorem mkT_back {t:T} (hn:t≠ .nil):mkT (nd t) ((List.range 16).map fun j=>if hj:j<16 then kidsT t ⟨j,hj⟩ else .nil)=t:=by
 have hg:∀ i:Fin 16,((List.range 16).map fun j=>if hj:j<16 then kidsT t ⟨j,hj⟩ else .nil).getD i.val .nil=kidsT t i:=fun i=>by
  rw [List.getD_eq_getElem?_getD,List.getElem?_map,List.getElem?_range i.isLt];simp
 generalize ((List.range 16).map fun j=>if hj:j<16 then kidsT t ⟨j,hj⟩ else .nil)=ts at *;cases t with
 |nil=>exact absurd rfl hn
 |leaf p v=>simp [mkT,nd,kindT,pathT,valT]
 |ext p t=>
  have:=hg 0
  simp [mkT,nd,kindT,pathT,valT]
  exact this
 |branch v kids=>
  have e:mkT (nd (.branch v kids)) ts= .branch v fun i=>ts.getD i.val .nil:=by simp [mkT,nd,kindT,valT]
  rw [e]
  congr 1
  funext i
  exact hg i
theorem kidAt_nd {pl:List UInt8} {t:T} (i:Fin 16) (h:kidsT t i≠ .nil) (hok:OkLd pl t):OkLd (kidAt (nd t) pl i.val) (kidsT t i)∧((kindT t=2)→isBranch (kidsT t i)=true)∧pl.length<(kidAt (nd t) pl i.val).length:=by
 cases t with
 |nil=>exact absurd rfl h
 |leaf p v=>exact absurd rfl h
 |ext p t=>
  simp only [kidsT] at h ⊢;by_cases hi:i=0
  ·rw [if_pos hi] at h ⊢;have e:kidAt (nd (.ext p t)) pl i.val=pl++p:=by simp [kidAt,nd,kindT,pathT]
   rw [e,List.length_append]
   have:=List.length_pos_iff.2 hok.wf.2.1
   exact ⟨hok.below,fun _=>hok.wf.2.2.1,by omega⟩
  ·rw [if_neg hi] at h; exact absurd rfl h
 |branch v kids=>
  have e:kidAt (nd (.branch v kids)) pl i.val=pl++ [UInt8.ofNat i.val]:=by simp [kidAt,nd,kindT]
  rw [e,List.length_append];exact ⟨hok.kid i h,fun e=>by simp [kindT] at e,by simp⟩
theorem knots_kid {t k:T} (i:Fin 16) (h:k∈knots (kidsT t i)):k∈knots t:=by
 cases t with
 |nil=>cases h
 |leaf p v=>cases h
 |ext p t=>
  simp only [kidsT] at h;by_cases hi:i=0
  ·rw [if_pos hi] at h; exact List.mem_cons_of_mem _ h
  ·rw [if_neg hi] at h; cases h
 |branch v kids=>
  simp only [knots];exact List.mem_cons_of_mem _ (List.mem_flatMap.2 ⟨i,List.mem_finRange _,h⟩)
theorem knots_self {t:T} (h:t≠ .nil):t∈knots t:=by
 cases t with
 |nil=>exact absurd rfl h
 |leaf p v=>simp [knots]
 |ext p t=>simp [knots]
 |branch v kids=>simp [knots]
theorem loadW_back {D:List KV}:∀ f t pl below m,OkLd pl t→(∀ k∈knots t,lookB D (sumT k)=some (textT k))→(below=true→isBranch t=true)→17≤f+pl.length→m+count t≤1024→
  loadW D f (sumT t) pl below m 0=(t,m+count t,0)
 |0,t,pl,below,m,hok,_,_,hf,_=>by have:=hok.short; omega
 |f+1,t,pl,below,m,hok,hD,hb,hf,hm=>by
  have hno:=nodeOf_back hok (hD t (knots_self hok.nn));unfold loadW;rw [if_neg (by simp),hno];simp only
  rw [if_neg (by simp),hok.odd hb,if_neg (by simp),hok.many hm,if_neg (by simp)];have hc:=count_eq hok.nn hok.wf;have hsum:((List.range 16).map fun j=>count (if hj:j<16 then kidsT t ⟨j,hj⟩ else .nil)).sum=belowT t 16:=by
   rw [range_fin];unfold belowT;rw [List.take_of_length_le (by simp)]
   congr 1
  have hk:=kidsLd_back (F:=fun s p m c=>loadW D f s p (decide ((nd t).1=2)) m c) (K:=(nd t).2.2.2) (at_:=kidAt (nd t) pl) (fun j=>if hj:j<16 then kidsT t ⟨j,hj⟩ else .nil)
   (fun i hi=>by
    rw [dif_pos hi]
    have:=sumsT_at t ⟨i,hi⟩
    simp only at this
    show (sumsT t).getD i []= []↔_;rw [this];exact sumT_empty)
   (fun i m' hi hne hm'=>by
    rw [dif_pos hi] at hne hm' ⊢;obtain ⟨k1,k2,k3⟩:=kidAt_nd ⟨i,hi⟩ hne hok;have e:(nd t).2.2.2.getD i []=sumT (kidsT t ⟨i,hi⟩):=sumsT_at t ⟨i,hi⟩;simp only [e];exact loadW_back f _ _ _ m' k1 (fun k hk=>hD k (knots_kid ⟨i,hi⟩ hk)) (fun h=>k2 (of_decide_eq_true h)) (by simp only at k3; omega) hm')
   16 (m+(if (valT t).isEmpty then 0 else 1)) (by omega) (by
    simp only [Nat.sub_self,Nat.zero_add];rw [hsum]; omega)
  simp only [Nat.sub_self,Nat.zero_add] at hk;rw [hsum] at hk;rw [hk];unfold endLd;rw [if_pos rfl];simp only
  rw [mkT_back hok.nn];have e:m+(if (valT t).isEmpty then 0 else 1)+belowT t 16=m+count t:=by omega
  rw [e]
theorem Good.okLd {t:T} (h:Good t) (hn:t≠ .nil):OkLd [] t:=by
 obtain ⟨h1,h2,h3⟩:=h;refine ⟨hn,h1,fun q hq hl=> ?_⟩;have a:=h2 q hq hl;have b:=h3 q hq hl;exact ⟨a.1,b.1,b.2,a.2⟩
end Trie
theorem lookB_putB (D:List Trie.KV) (k v q:List UInt8):lookB (putB D k v) q=if q=k then some v else lookB D q:=by
 induction D with
 |nil=>simp [putB,lookB]
 |cons x D ih=>
  simp only [putB];by_cases h:k=x.1
  ·rw [if_pos h];simp only [lookB];by_cases h2:q=k
   ·rw [if_pos h2,if_pos h2]
   ·rw [if_neg h2,if_neg h2,if_neg (fun e=>h2 (e.trans h.symm))]
  ·rw [if_neg h];simp only [lookB,ih];by_cases h2:q=x.1
   ·rw [if_pos h2,if_pos h2,if_neg (fun e=>h (e.symm.trans h2))]
   ·rw [if_neg h2,if_neg h2]
theorem Trie.knots_nn (t:Trie.T):∀ k∈Trie.knots t,k≠ .nil:=by
 induction t with
 |nil=>intro k h; cases h
 |leaf p v=>intro k h; rw [Trie.knots,List.mem_singleton] at h; subst h; simp
 |ext p t ih=>
  intro k h;rcases List.mem_cons.1 h with rfl|h
  ·simp
  ·exact ih k h
 |branch v kids ih=>
  intro k h;rcases List.mem_cons.1 h with rfl|h
  ·simp
  ·obtain ⟨i,_,h⟩:=List.mem_flatMap.1 h;exact ih i k h
theorem putS_look (D:List Trie.KV) (x:List UInt8):∃ key,shaW (1::x)=key∧putS D x=if (lookB D key).isSome then D else putB D key x:=⟨_,rfl,rfl⟩
theorem putS_from {D:List Trie.KV} {x k s:List UInt8} (h:lookB (putS D x) k=some s):lookB D k=some s∨(shaW (1::x)=k∧s=x):=by
 obtain ⟨key,hk,e⟩:=putS_look D x;rw [hk];rw [e] at h;clear e hk;by_cases h1:(lookB D key).isSome=true
 ·rw [if_pos h1] at h; exact .inl h
 ·rw [if_neg h1,lookB_putB] at h;by_cases h2:k=key
  ·rw [if_pos h2] at h;exact .inr ⟨h2.symm,(Option.some.inj h).symm⟩
  ·rw [if_neg h2] at h; exact .inl h
theorem saveD_true {D:List Trie.KV} {l:List (List UInt8)} (hD:∀ k s,lookB D k=some s→shaW (1::s)=k):∀ k s,lookB (saveD D l) k=some s→shaW (1::s)=k:=by
 induction l generalizing D with
 |nil=>exact hD
 |cons x l ih=>
  refine ih (D:=putS D x) fun k s h=> ?_;rcases putS_from h with h|⟨h1,h2⟩
  ·exact hD k s h
  ·rw [h2]; exact h1
theorem putS_old {D:List Trie.KV} {x k s:List UInt8} (h:lookB D k=some s):lookB (putS D x) k=some s:=by
 obtain ⟨key,hk,e⟩:=putS_look D x;rw [e];clear e hk;by_cases h1:(lookB D key).isSome=true
 ·rw [if_pos h1]; exact h
 ·rw [if_neg h1,lookB_putB,if_neg]
  ·exact h
  ·rintro rfl;rw [h] at h1;exact h1 rfl
theorem saveD_old {l:List (List UInt8)} {D:List Trie.KV} {k s:List UInt8} (h:lookB D k=some s):lookB (saveD D l) k=some s:=by
 induction l generalizing D with
 |nil=>exact h
 |cons x l ih=>exact ih (D:=putS D x) (putS_old h)
theorem putB_mem {D:List Trie.KV} {k v:List UInt8} {x:Trie.KV} (h:x∈putB D k v):x=(k,v)∨x∈D:=by
 induction D with
 |nil=>simp [putB] at h; exact .inl h
 |cons y D ih=>
  simp only [putB] at h;by_cases h1:k=y.1
  ·rw [if_pos h1] at h;rcases List.mem_cons.1 h with h|h
   ·exact .inl h
   ·exact .inr (List.mem_cons_of_mem _ h)
  ·rw [if_neg h1] at h;rcases List.mem_cons.1 h with h|h
   ·exact .inr (by rw [h]; exact List.mem_cons_self ..)
   ·rcases ih h with h|h
    ·exact .inl h
    ·exact .inr (List.mem_cons_of_mem _ h)
theorem putS_mem {D:List Trie.KV} {y:List UInt8} {x:Trie.KV} (h:x∈putS D y):x.2=y∨x∈D:=by
 obtain ⟨key,hk,e⟩:=putS_look D y;rw [e] at h;clear e hk;by_cases h1:(lookB D key).isSome=true
 ·rw [if_pos h1] at h; exact .inr h
 ·rw [if_neg h1] at h;rcases putB_mem h with h|h
  ·exact .inl (by rw [h])
  ·exact .inr h
theorem saveD_mem {l:List (List UInt8)} {D:List Trie.KV} {x:Trie.KV} (h:x∈saveD D l):x∈D∨x.2∈l:=by
 induction l generalizing D with
 |nil=>exact .inl h
 |cons y l ih=>
  rcases ih (D:=putS D y) h with h|h
  ·rcases putS_mem h with h|h
   ·exact .inr (by rw [h]; exact List.mem_cons_self ..)
   ·exact .inl h
  ·exact .inr (List.mem_cons_of_mem _ h)
theorem putS_has (D:List Trie.KV) (x:List UInt8):∃ s,lookB (putS D x) (shaW (1::x))=some s:=by
 obtain ⟨key,hk,e⟩:=putS_look D x;rw [hk,e];clear e hk;by_cases h1:(lookB D key).isSome=true
 ·rw [if_pos h1]; exact Option.isSome_iff_exists.1 h1
 ·rw [if_neg h1];exact ⟨x,by rw [lookB_putB,if_pos rfl]⟩
theorem saveD_has {l:List (List UInt8)} {D:List Trie.KV} {x:List UInt8} (h:x∈l):(lookB (saveD D l) (shaW (1::x))).isSome=true:=by
 induction l generalizing D with
 |nil=>cases h
 |cons y l ih=>
  rcases List.mem_cons.1 h with rfl|h
  ·obtain ⟨s,hs⟩:=putS_has D x
   have:lookB (saveD (putS D x) l) (shaW (1::x))=some s:=saveD_old hs
   show (lookB (saveD (putS D x) l) _).isSome=true;rw [this]; rfl
  ·exact ih (D:=putS D y) h
theorem load_back {D:List Trie.KV} {l:List (List UInt8)} {X:Trie.T} (hX:Trie.Good X) (hc:Trie.count X≤1024) (hT:∀ k s,lookB D k=some s→shaW (1::s)=k)
  (hl:∀ x∈toldW allW X,x∈l) (hD:∀ k s,lookB D k=some s→s∈l) (hH:∀ x∈toldW allW X,(lookB D (shaW (1::x))).isSome=true):
  unlikeW l=true∨loadR D (Trie.sumT X)=(X,0):=by
 by_cases hu:unlikeW l=true
 ·exact .inl hu
 ·refine .inr ?_;unfold loadR;by_cases hn:X= .nil
  ·subst hn; rfl
  ·rw [if_neg (fun e=>hn (Trie.sumT_empty.1 e))];have hback:=Trie.loadW_back (D:=D) 17 X [] false 0 (hX.okLd hn) (fun k hk=> ?_) (fun h=>by cases h) (by simp) (by omega)
   ·rw [hback]
   ·have hm:Trie.textT k∈toldW allW X:=by rw [Trie.told_knots]; exact List.mem_map.2 ⟨k,hk,rfl⟩
    have hkn:k≠ .nil:=by
     rintro rfl;exact Trie.knots_nn X _ hk rfl
    rw [←Trie.sum_text hkn];obtain ⟨s,hs⟩:=Option.isSome_iff_exists.1 (hH _ hm);rw [hs]
    congr 1
    refine Decidable.byContradiction fun hne=>hu ?_;exact unlikeW_of (hD _ _ hs) (hl _ hm) hne (hT _ _ hs)
end Go.Proofs.YtnelhjfjkkdoaaaGreatDoor