import Derived.Test.YtdkiloganbhfkaaGreatDoorJ05
set_option linter.unusedSimpArgs false
set_option linter.unusedVariables false
namespace Go.Proofs.YtdkiloganbhfkaaGreatDoor
section
open Go.RowKit
def η (_:Hd) (_:List Value):CC:=⟨⟩
instance (h:Hd) (t:List Value):CoeDep CC (η h t) (List Value):=⟨h.hgt::h.epo::h.vw::h.last::h.par::h.st::h.rc::h.tx::h.mem::h.nxt::t⟩
instance (h:Hd) (t:List Value):CoeDep CC (η h t) (Array Value):=⟨List.toArray (h.hgt::h.epo::h.vw::h.last::h.par::h.st::h.rc::h.tx::h.mem::h.nxt::t)⟩
end
section
open Go.RowKit Go.Instr
attribute [local go_sem] ba_get ByteArray.mk_append_mk
def nodeText (k:Nat) (p v:List UInt8) (K:List (List UInt8)):List UInt8:=
 if k=3 then 3::UInt8.ofNat (bitsTo K 16 / 256)::UInt8.ofNat (bitsTo K 16)::((kidsW K).flatten++textW v)
 else UInt8.ofNat k::(textW (Nib.packed p (decide (k=1)))++if k=1 then textW v else K.getD 0 [])
theorem ofNat_mod256 (n:Nat):UInt8.ofNat (n % 256)=UInt8.ofNat n:=UInt8.toNat_inj.1 (by simp)
theorem flatten_len {n:Nat}:∀ D:List (List UInt8),(∀ s∈D,s.length≤n)→D.flatten.length≤D.length*n
 | [],_=>by simp
 |a::D,h=>by
  have:=flatten_len D (fun s hs=>h s (by simp [hs]))
  have:=h a (by simp)
  rw [List.flatten_cons,List.length_append,List.length_cons,Nat.succ_mul]; omega
theorem textW_len (s:List UInt8) (h:s.length<9223372036854775808):(textW s).length≤9+s.length:=by
 have:=numW_len s.length h
 unfold textW; rw [List.length_append]; omega
theorem kidsW_32 {K:List (List UInt8)} (h:sumsOk (kidsW K)=true):∀ s∈kidsW K,s.length≤32:=by
 intro s hs;unfold sumsOk at h;rw [List.all_eq_true] at h
 have:=h s hs
 simp at this; omega
theorem fineN_parts {k:Nat} {p v:List UInt8} {K:List (List UInt8)} (h:fineN k p v K=true):(k=1∨k=2∨k=3)∧Nib.fit p=true∧p.length≤16∧v.length≤32∧sumsOk (kidsW K)=true:=by
 unfold fineN at h
 split at h
 ·rename_i hk;simp [pathOk] at h
  obtain ⟨⟨⟨h1,h2⟩,h3⟩,h4⟩:=h;refine ⟨.inl hk,h2.1,h2.2,h4,?_⟩;rw [h1]; rfl
 ·split at h
  ·rename_i _ hk;simp only [pathOk,Bool.and_eq_true,decide_eq_true_eq] at h;obtain ⟨⟨⟨h1,h2⟩,h3⟩,h4⟩:=h;have h4':v= []:=by simpa using h4
   refine ⟨.inr (.inl hk),h3.1,h3.2.2,by rw [h4']; simp,?_⟩;rw [h1];generalize K.getD 0 []=s at *;have h5:s.length=32:=by simpa [sumsOk] using h2
   have h6:s.isEmpty=false:=by cases s<;>simp_all
   simp [kidsW,sumsOk,h6,h5]
  ·split at h
   ·rename_i _ _ hk;simp only [Bool.and_eq_true,decide_eq_true_eq] at h;obtain ⟨⟨⟨h1,h2⟩,h3⟩,h4⟩:=h;have h1':p= []:=by simpa using h1
    subst h1';exact ⟨.inr (.inr hk),rfl,by simp,h4,h2⟩
   ·cases h
theorem fine_ext {p v:List UInt8} {K:List (List UInt8)} (h:fineN 2 p v K=true):(K.getD 0 []).length=32∧K=K.getD 0 []::List.replicate 15 []:=by
 unfold fineN at h;rw [if_neg (by omega),if_pos rfl] at h;simp only [Bool.and_eq_true,decide_eq_true_eq] at h;obtain ⟨⟨⟨h1,h2⟩,h3⟩,h4⟩:=h;refine ⟨?_,h1⟩;clear h1;generalize K.getD 0 []=s at *;simpa [sumsOk] using h2
theorem nodeText_len {k:Nat} {p v:List UInt8} {K:List (List UInt8)} (hK:K.length=16) (h:fineN k p v K=true):(nodeText k p v K).length≤700:=by
 obtain ⟨h1,h2,h3,h4,h5⟩:=fineN_parts h;have hl1:=textW_len v (by omega);have hl2:=textW_len (Nib.packed p (decide (k=1))) (by rw [Nib.packed_length]; omega);rw [Nib.packed_length] at hl2;have hf:=flatten_len _ (kidsW_32 h5);have hk16:(kidsW K).length≤16:=by
  have:=List.length_filter_le (fun s:List UInt8=> !s.isEmpty) K
  unfold kidsW; omega
 have:=Nat.mul_le_mul_right 32 hk16
 unfold nodeText
 split
 ·simp only [List.length_cons,List.length_append]; omega
 ·rename_i hk3;simp only [List.length_cons,List.length_append]
  split
  ·omega
  ·rename_i hk1;have hk2:k=2:=by omega
   subst hk2
   have:=(fine_ext h).1
   omega
def nodeSum (k:Nat) (p v:List UInt8) (K:List (List UInt8)):List UInt8:=shaW (1::nodeText k p v K)
end
section
open Go.RowKit Go.Instr
namespace Trie
open Nib
def kidsT:T→Fin 16→T
 | .branch _ kids=>kids
 | .ext _ t=>fun i=>if i=0 then t else .nil
 |_=>noKids
def kindT:T→Nat
 | .nil=>0
 | .leaf _ _=>1
 | .ext _ _=>2
 | .branch _ _=>3
def pathT:T→List UInt8
 | .leaf p _=>p
 | .ext p _=>p
 |_=> []
def valT:T→List UInt8
 | .leaf _ v=>v
 | .branch v _=>v
 |_=> []
def sumT:T→List UInt8
 | .nil=> []
 | .leaf p v=>nodeSum 1 p v (List.replicate 16 [])
 | .ext p t=>nodeSum 2 p [] (sumT t::List.replicate 15 [])
 | .branch v kids=>nodeSum 3 [] v (List.ofFn fun i=>sumT (kids i))
def sumsT (t:T):List (List UInt8):=List.ofFn fun i=>sumT (kidsT t i)
def textT (t:T):List UInt8:=nodeText (kindT t) (pathT t) (valT t) (sumsT t)
theorem sumsT_length (t:T):(sumsT t).length=16:=by simp [sumsT]
theorem sumsT_leaf (p v:List UInt8):sumsT (.leaf p v)=List.replicate 16 []:=rfl
theorem sumsT_ext (p:List UInt8) (t:T):sumsT (.ext p t)=sumT t::List.replicate 15 []:=rfl
theorem sumT_eq {t:T} (h:t≠ .nil):sumT t=nodeSum (kindT t) (pathT t) (valT t) (sumsT t):=by
 cases t with
 |nil=>exact absurd rfl h
 |leaf p v=>rfl
 |ext p t=>rfl
 |branch v kids=>rfl
theorem sumT_len {t:T} (h:t≠ .nil):(sumT t).length=32:=by
 rw [sumT_eq h]; exact shaW_length _
theorem sumT_nil_iff {t:T}:(sumT t).isEmpty=isNil t:=by
 by_cases h:t= .nil
 ·subst h; rfl
 ·have:=sumT_len h
  cases hs:sumT t with
  |nil=>rw [hs] at this; simp at this
  |cons a l=>cases t<;>simp_all [isNil]
theorem ofFn_map {α:Type} (f:Fin 16→α):List.ofFn f=(List.finRange 16).map f:=by
 apply List.ext_getElem
 ·simp
 ·intro i h1 h2;simp only [List.getElem_ofFn,List.getElem_map,List.getElem_finRange];rfl
theorem ofFn_filter_map {f:Fin 16→List UInt8}:((List.ofFn f).filter fun s=> !s.isEmpty)=((List.finRange 16).filter fun i=> !(f i).isEmpty).map f:=by
 rw [ofFn_map,List.filter_map]; rfl
theorem kidsW_length (t:T):(kidsW (sumsT t)).length=many (kidsT t):=by
 unfold kidsW sumsT many;rw [ofFn_filter_map,List.length_map]
 congr 2
 funext i
 rw [sumT_nil_iff]
theorem kidsW_sums (t:T):sumsOk (kidsW (sumsT t))=true:=by
 unfold sumsOk kidsW sumsT;rw [ofFn_filter_map,List.all_eq_true];intro s hs;rw [List.mem_map] at hs;obtain ⟨i,hi,rfl⟩:=hs;rw [List.mem_filter,sumT_nil_iff] at hi;rw [sumT_len (fun e=>by rw [e] at hi; simp [isNil] at hi)];simp
def small (t:T):Prop:=∀ q,fit q=true→look t q≠ []→q.length≤16∧(look t q).length≤32
theorem small_nil:small .nil:=fun q _ h=>absurd rfl h
theorem small_ext_path {p:List UInt8} {t:T} (hw:wf (.ext p t)) (h:small (.ext p t)):p.length≤16:=by
 obtain ⟨h1,h2,h3,h4⟩:=hw;obtain ⟨q,g1,g2⟩:=look_some t h4 (by obtain ⟨v,kids,rfl⟩:=branch_of h3; rfl)
 have:=(h (p++q) (fit_append.2 ⟨h1,g1⟩) (by rw [look_ext]; exact g2)).1
 rw [List.length_append] at this; omega
theorem fineT {t:T} (hn:t≠ .nil) (hw:wf t) (hs:small t):fineN (kindT t) (pathT t) (valT t) (sumsT t)=true:=by
 have hk:=kidsW_sums t;have hl:=kidsW_length t;cases t with
 |nil=>exact absurd rfl hn
 |leaf p v=>
  have h1:=hs p hw.1 (by simp [look]; exact hw.2);simp only [look,if_true] at h1;have h2:v.isEmpty=false:=by
   cases v with
   |nil=>exact absurd rfl hw.2
   |cons a l=>rfl
  simp [fineN,kindT,pathT,valT,sumsT_leaf,pathOk,hw.1,h1.1,h1.2,h2]
 |ext p t=>
  have h1:=small_ext_path hw hs;obtain ⟨g1,g2,g3,g4⟩:=hw;have h2:=sumT_len (t:=t) (fun e=>by rw [e] at g3; simp [isBranch] at g3);have h3:1≤p.length:=by
   cases p with
   |nil=>exact absurd rfl g2
   |cons a l=>simp
  simp only [fineN,kindT,pathT,valT,sumsT_ext,List.getD_cons_zero];simp [sumsOk,h2,pathOk,g1,h1,h3]
 |branch v kids=>
  replace hl:(kidsW (sumsT (.branch v kids))).length=many kids:=hl
  have hv:v.length≤32:=by
   by_cases h0:v= []
   ·subst h0; simp
   ·exact (hs [] rfl (by simpa [look] using h0)).2
  have h2:=hw.2;simp only [fineN,kindT,pathT,valT,hk,hl];by_cases h0:v= []
  ·subst h0; simp at h2 ⊢; omega
  ·have h0':v.isEmpty=false:=by
    cases v with
    |nil=>exact absurd rfl h0
    |cons a l=>rfl
   rw [if_neg h0] at h2;simp [h0',hv]
   omega
theorem take_finRange (i:Fin 16):(List.finRange 16).take (i.val+1)=(List.finRange 16).take i.val++ [i]:=by
 rw [List.take_succ_eq_append_getElem (by simp)]; simp
theorem sum_zero {α:Type} (l:List α):(l.map fun _=>0).sum=0:=by
 induction l with
 |nil=>rfl
 |cons a l ih=>simpa using ih
end Trie
theorem wpList_build_eq {P:Program} {ops:Array Oper} {rest:List Oper} {o:Oper} {a:Act} {w:World} {Q:Exit→Act→World→Prop} (hgd:o.guard=none) (t:TypeId) (parts:Array (Nat × Operand)) (ho:o.op= .build t parts) (cells:Array Value)
  (hb:P.built t (parts.map fun (i,x)=>(i,a.eval x)).toList=some cells) (h:wpList P ops Q rest (a.put o.dst (.agg cells)) w):wpList P ops Q (o::rest) a w:=
 wpList_plain hgd fun _ hK=>wp_build t parts ho (by rw [hb]; rfl) (by rw [hb]; exact hK _ _ h)
theorem at_load {P:Program} {ops:Array Oper} {Q:Exit→Act→World→Prop} {rest:List Oper} {a:Act} {w:World} (n:Tmp) {ty:TypeId} {x:Operand} {t:TypeId} {p:String} {af:Array Edge} {g:Option (Nat × Bool)}
  (h:wpList P ops Q (⟨some n,.load ty x,t,p,af,g⟩::rest) a w):wpList P ops Q (⟨some n,.load ty x,t,p,af,g⟩::rest) a w:=h
theorem at_store {P:Program} {ops:Array Oper} {Q:Exit→Act→World→Prop} {rest:List Oper} {a:Act} {w:World} (n:Tmp) {ty:TypeId} {x:Operand} {t:TypeId} {p:String} {af:Array Edge} {g:Option (Nat × Bool)}
  (h:wpList P ops Q (⟨none,.store ty x (.tmp n),t,p,af,g⟩::rest) a w):wpList P ops Q (⟨none,.store ty x (.tmp n),t,p,af,g⟩::rest) a w:=h
end
section
open Go.RowKit Go.Instr
attribute [local go_sem] ba_get ByteArray.mk_append_mk
theorem Blk.range {w:World} {g:Nat} {t:TypeId} {cs:List Value} (h:Blk w g t cs.toArray):w.rangeAt g 0 cs:=fun j u hu=>by
 rw [Nat.zero_add,h.cell]; simpa using hu
end
namespace Trie
open Nib
theorem sum_one {α:Type} [DecidableEq α] (f:α→Nat) (i:α) (a:Nat):∀ l:List α,l.Nodup→i∈l→(l.map fun j=>if j=i then a else f j).sum+f i=(l.map f).sum+a
 | [],_,h=>by simp at h
 |x::l,hn,h=>by
  rw [List.nodup_cons] at hn;simp only [List.map_cons,List.sum_cons];by_cases e:x=i
  ·subst e
   have:(l.map fun j=>if j=x then a else f j)=l.map f:=List.map_congr_left fun j hj=>by
    rw [if_neg (show ¬j=x from fun e=>hn.1 (by rw [←e]; exact hj))]
   rw [this,if_pos rfl]; omega
  ·have hi:i∈l:=by
    rcases List.mem_cons.1 h with h|h
    ·exact absurd h.symm e
    ·exact h
   have:=sum_one f i a l hn.2 hi
   rw [if_neg e]; omega
def kidsCount (kids:Fin 16→T):Nat:=((List.finRange 16).map fun i=>count (kids i)).sum
theorem count_branch (v:List UInt8) (kids:Fin 16→T):count (.branch v kids)=(if v= [] then 0 else 1)+kidsCount kids:=rfl
theorem kidsCount_set (kids:Fin 16→T) (b:UInt8) (t:T):kidsCount (setKid kids b t)+count (kids (ix b))=kidsCount kids+count t:=by
 have:=sum_one (fun i=>count (kids i)) (ix b) (count t) (List.finRange 16) (List.nodup_finRange 16) (List.mem_finRange _)
 have e:(fun i=>count (setKid kids b t i))=fun j=>if j=ix b then count t else count (kids j):=by
  funext j; unfold setKid; split<;>rfl
 unfold kidsCount;rw [e]; exact this
theorem kidsCount_none:kidsCount noKids=0:=by
 unfold kidsCount;rw [show (fun i=>count (noKids i))=fun _=>0 from rfl,sum_zero]
theorem count_joined (path:List UInt8) (t:T):count (joined path t)=count t:=by
 unfold joined
 split
 ·rfl
 ·cases t<;>rfl
theorem count_oneKids (old:List UInt8) (f:List UInt8→T) (n:Nat) (h:∀ b r,old=b::r→count (f r)≤n):kidsCount (oneKids old f)≤n∧(old= []→kidsCount (oneKids old f)=0):=by
 cases old with
 |nil=>simp [oneKids,kidsCount_none]
 |cons b r=>
  have:=kidsCount_set noKids b (f r)
  have h2:=h b r rfl;rw [kidsCount_none,show count (noKids (ix b))=0 from rfl] at this;simp only [oneKids];exact ⟨by omega,by simp⟩
theorem count_partedG (old w path v:List UInt8) (f:List UInt8→T) (n:Nat) (h1:old= []→(if w= [] then 0 else 1)≤n) (h:∀ b r,old=b::r→count (f r)≤n):count (partedG old f w path v)≤n+1:=by
 obtain ⟨k1,k2⟩:=count_oneKids old f n h;cases path with
 |nil=>
  simp only [partedG,count_branch]
  split<;>omega
 |cons b r=>
  simp only [partedG,count_branch]
  have:=kidsCount_set (oneKids old f) b (.leaf r v)
  rw [show count (.leaf r v)=1 from rfl] at this;cases old with
  |nil=>
   have:=k2 rfl
   have:=h1 rfl
   rw [show oneOwn [] w=w from rfl];omega
  |cons a o=>simp only [oneOwn,if_true]; omega
theorem count_put (t:T):∀ q v,count (put t q v)≤count t+1:=by
 induction t with
 |nil=>intro q v; simp [put,count]
 |leaf p w=>
  intro q v;simp only [put]
  split
  ·simp [count]
  ·rw [count_joined];exact count_partedG _ _ _ _ _ 1 (fun _=>by split<;>omega) (fun b r _=>by simp [count])
 |ext p t ih=>
  intro q v;simp only [put]
  split
  ·rw [count_joined]; exact ih _ _
  ·rw [count_joined];exact count_partedG _ _ _ _ _ (count t) (fun _=>by simp) (fun b r _=>by rw [count_joined]; exact Nat.le_refl _)
 |branch w kids ih=>
  intro q v;cases q with
  |nil=>simp only [put,count_branch]; split<;>omega
  |cons b r=>
   simp only [put,count_branch]
   have:=kidsCount_set kids b (put (kids (ix b)) r v)
   have:=ih (ix b) r v
   omega
theorem count_kid (v:List UInt8) (kids:Fin 16→T) (i:Fin 16):count (kids i)≤count (.branch v kids):=by
 rw [count_branch]
 have:count (kids i)≤kidsCount kids:=by
  unfold kidsCount
  have:=sum_one (fun i=>count (kids i)) i 0 (List.finRange 16) (List.nodup_finRange 16) (List.mem_finRange _)
  simp only [Nat.add_zero] at this;omega
 omega
theorem small_put {t:T} {q v:List UInt8} (hw:wf t) (hs:small t) (hq:fit q=true) (hl:q.length≤16) (hv:v≠ []) (hvl:v.length≤32):wf (put t q v)∧small (put t q v):=by
 obtain ⟨h1,h2,_⟩:=put_spec t q v hw hq hv;refine ⟨h1,fun r hr hne=> ?_⟩;rw [h2 r hr] at hne ⊢
 split
 ·rename_i e; subst e; exact ⟨hl,hvl⟩
 ·rename_i e;rw [if_neg e] at hne;exact hs r hr hne
end Trie
theorem bl_irrefl:∀ a:List UInt8,Op.bytesLess a a=false
 | []=>rfl
 |a::x=>by simp [Op.bytesLess,bl_irrefl x]
theorem bl_trans:∀ a b c:List UInt8,Op.bytesLess a b=true→Op.bytesLess b c=true→Op.bytesLess a c=true
 |_,[],_,h,_=>by simp [Op.bytesLess] at h
 |_,_::_,[],_,h=>by simp [Op.bytesLess] at h
 | [],_::_,_::_,_,_=>by simp [Op.bytesLess]
 |a::x,b::y,c::z,h1,h2=>by
  simp only [Op.bytesLess,Bool.or_eq_true,Bool.and_eq_true,decide_eq_true_eq,beq_iff_eq,UInt8.lt_iff_toNat_lt] at *;rcases h1 with h1|⟨rfl,h1⟩
  ·rcases h2 with h2|⟨rfl,h2⟩
   ·exact .inl (by omega)
   ·exact .inl h1
  ·rcases h2 with h2|⟨rfl,h2⟩
   ·exact .inl h2
   ·exact .inr ⟨rfl,bl_trans x y z h1 h2⟩
theorem bl_tri:∀ a b:List UInt8,Op.bytesLess a b=false→Op.bytesLess b a=false→a=b
 | [],[],_,_=>rfl
 | [],_::_,h,_=>by simp [Op.bytesLess] at h
 |_::_,[],_,h=>by simp [Op.bytesLess] at h
 |a::x,b::y,h1,h2=>by
  simp only [Op.bytesLess,Bool.or_eq_false_iff,Bool.and_eq_false_iff,decide_eq_false_iff_not,UInt8.lt_iff_toNat_lt] at *;have e:a=b:=UInt8.toNat_inj.1 (by omega);subst e;simp at h1 h2
  rw [bl_tri x y h1 h2]
theorem bl_asymm (a b:List UInt8) (h:Op.bytesLess a b=true):Op.bytesLess b a=false:=by
 cases h2:Op.bytesLess b a with
 |false=>rfl
 |true=>have:=bl_trans a b a h h2; rw [bl_irrefl] at this; cases this
theorem bl_gt {a b:List UInt8} (h:Op.bytesLess a b=false) (hn:¬b=a):Op.bytesLess b a=true:=by
 cases h2:Op.bytesLess b a with
 |true=>rfl
 |false=>exact absurd (bl_tri _ _ h2 h) hn
end Go.Proofs.YtdkiloganbhfkaaGreatDoor