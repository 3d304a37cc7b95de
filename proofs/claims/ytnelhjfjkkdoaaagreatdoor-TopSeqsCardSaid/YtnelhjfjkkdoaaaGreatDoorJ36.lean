import Derived.Test.YtnelhjfjkkdoaaaGreatDoorJ33
set_option linter.unusedSimpArgs false
set_option linter.unusedVariables false
namespace Go.Proofs.YtnelhjfjkkdoaaaGreatDoor
namespace Trie
structure OkLd (pl:List UInt8) (t:T):Prop where
 nn:t≠ .nil
 wf:wf t
 all:∀ q,Nib.fit q=true→look t q≠ []→(pl++q).length≤16∧(pl++q).length % 2=0∧pl++q≠ []∧(look t q).length≤32
theorem OkLd.small {pl:List UInt8} {t:T} (h:OkLd pl t):small t:=fun q hq hl=>by
 have:=h.all q hq hl
 rw [List.length_append] at this;exact ⟨by omega,this.2.2.2⟩
theorem OkLd.good {t:T} (h:OkLd [] t):Good t:=⟨h.wf,h.small,fun q hq hl=>⟨(h.all q hq hl).2.1,(h.all q hq hl).2.2.1⟩⟩
theorem kidsLd_code {F:List UInt8→List UInt8→Nat→Nat→Ld} {K:List (List UInt8)} {at_:Nat→List UInt8} (h0:∀ s p m c,c≠0→(F s p m c).2.2≠0):∀ n m c,(kidsLd F K at_ n m c).2.2=0→c=0
 |0,m,c,h=>h
 |n+1,m,c,h=>by
  simp only [kidsLd] at h
  split at h
  ·exact kidsLd_code h0 n m c h
  ·have:=kidsLd_code h0 n _ _ h
   exact Decidable.byContradiction fun hc=>h0 _ _ _ _ hc this
theorem kidsLd_ok {F:List UInt8→List UInt8→Nat→Nat→Ld} {K:List (List UInt8)} {at_:Nat→List UInt8} (G:Nat→T→Prop) (h0:∀ s p m c,c≠0→(F s p m c).2.2≠0)
  (hF:∀ i m,i<16→K.getD i []≠ []→m≤1024→(F (K.getD i []) (at_ i) m 0).2.2=0→G i (F (K.getD i []) (at_ i) m 0).1∧(F (K.getD i []) (at_ i) m 0).2.1=m+count (F (K.getD i []) (at_ i) m 0).1∧(F (K.getD i []) (at_ i) m 0).2.1≤1024):
  ∀ n m,n≤16→m≤1024→(kidsLd F K at_ n m 0).2.2=0→(kidsLd F K at_ n m 0).1.length=n∧
   (∀ j,j<n→(K.getD (16 - n+j) []= []→(kidsLd F K at_ n m 0).1.getD j .nil= .nil)∧(K.getD (16 - n+j) []≠ []→G (16 - n+j) ((kidsLd F K at_ n m 0).1.getD j .nil)))∧
   (kidsLd F K at_ n m 0).2.1=m+((kidsLd F K at_ n m 0).1.map count).sum∧(kidsLd F K at_ n m 0).2.1≤1024
 |0,m,_,hm,h=>⟨rfl,fun j hj=>by omega,by simp [kidsLd],hm⟩
 |n+1,m,hn,hm,h=>by
  simp only [kidsLd] at h ⊢;by_cases hs:K.getD (15 - n) []= []
  ·rw [if_pos hs] at h ⊢;obtain ⟨a1,a2,a3,a4⟩:=kidsLd_ok G h0 hF n m (by omega) hm h;refine ⟨by rw [List.length_cons,a1],fun j hj=> ?_,?_,a4⟩
   ·cases j with
    |zero=>
     rw [show 16 - (n+1)+0=15 - n by omega];exact ⟨fun _=>rfl,fun h=>absurd hs h⟩
    |succ j=>
     rw [show 16 - (n+1)+(j+1)=16 - n+j by omega,List.getD_cons_succ];exact a2 j (by omega)
   ·rw [a3,List.map_cons,List.sum_cons]; simp [count]
  ·rw [if_neg hs] at h ⊢;have hc:=kidsLd_code h0 n _ _ h;obtain ⟨g1,g2,g3⟩:=hF (15 - n) m (by omega) hs hm hc;rw [hc] at h ⊢;obtain ⟨a1,a2,a3,a4⟩:=kidsLd_ok G h0 hF n _ (by omega) g3 h;refine ⟨by rw [List.length_cons,a1],fun j hj=> ?_,?_,a4⟩
   ·cases j with
    |zero=>
     rw [show 16 - (n+1)+0=15 - n by omega];exact ⟨fun h=>absurd h hs,fun _=>g1⟩
    |succ j=>
     rw [show 16 - (n+1)+(j+1)=16 - n+j by omega,List.getD_cons_succ];exact a2 j (by omega)
   ·rw [a3,List.map_cons,List.sum_cons,g2]; omega
theorem sum_getD (ts:List T) (h:ts.length=16):(ts.map count).sum=((List.finRange 16).map fun i=>count (ts.getD i.val .nil)).sum:=by
 congr 1
 refine List.ext_getElem (by simp [h]) fun i h1 h2=> ?_;rw [List.length_map] at h1;simp [List.getElem?_eq_getElem h1]
theorem loadW_code (D:List KV):∀ f s p b m c,c≠0→(loadW D f s p b m c).2.2≠0
 |0,s,p,b,m,c,h=>by simp [loadW]
 |f+1,s,p,b,m,c,h=>by
  unfold loadW;rw [if_pos h];exact h
end Trie
namespace Trie
def KidOk (n:Nd) (pl:List UInt8) (i:Nat) (t:T):Prop:=OkLd (kidAt n pl i) t∧sumT t=n.2.2.2.getD i []∧(n.1=2→isBranch t=true)
theorem sums_of {n:Nd} {pl:List UInt8} {ts:List T} (hK:n.2.2.2.length=16) (hG:∀ i,i<16→(n.2.2.2.getD i []= []→ts.getD i .nil= .nil)∧(n.2.2.2.getD i []≠ []→KidOk n pl i (ts.getD i .nil))) {t:T} (hk:∀ i:Fin 16,kidsT t i=ts.getD i.val .nil):sumsT t=n.2.2.2:=by
 refine List.ext_getElem (by rw [sumsT_length,hK]) fun i h1 h2=> ?_;have hi:i<16:=by rw [sumsT_length] at h1; exact h1
 have e1:=sumsT_at t ⟨i,hi⟩;rw [hk] at e1;simp only [List.getD_eq_getElem?_getD,List.getElem?_eq_getElem h1,Option.getD_some] at e1;rw [e1];have e2:n.2.2.2[i]=n.2.2.2.getD i []:=by rw [List.getD_eq_getElem?_getD,List.getElem?_eq_getElem h2]; rfl
 rw [e2];simp only [←List.getD_eq_getElem?_getD];by_cases h:n.2.2.2.getD i []= []
 ·rw [(hG i hi).1 h,h]; rfl
 ·exact ((hG i hi).2 h).2.1
theorem rep_getD (n i:Nat):(List.replicate n ([]:List UInt8)).getD i []= []:=by
 rw [List.getD_eq_getElem?_getD,List.getElem?_replicate]
 split<;>rfl
theorem itemLd_ok {long m:Nat} (h:(itemLd long m).2=0):long≠0∧long % 2=0∧(itemLd long m).1=m+1∧m+1≤1024:=by
 unfold itemLd at h ⊢
 split at h
 ·cases h
 ·rename_i h1;rw [if_neg h1]
  split at h
  ·cases h
  ·rename_i h2;rw [if_neg h2];simp only [not_or] at h1;exact ⟨h1.1,by omega,rfl,by omega⟩
theorem mkT_ok {n:Nd} {ts:List T} {pl:List UInt8} {below:Bool} {m:Nat} (hts:ts.length=16) (hK:n.2.2.2.length=16) (hf:fineD n=true) (ho:oddLd n pl below=false) (hm:(manyLd n pl m).2=0)
  (hG:∀ i,i<16→(n.2.2.2.getD i []= []→ts.getD i .nil= .nil)∧(n.2.2.2.getD i []≠ []→KidOk n pl i (ts.getD i .nil))):
  OkLd pl (mkT n ts)∧textT (mkT n ts)=textD n∧(below=true→isBranch (mkT n ts)=true)∧(manyLd n pl m).1+(ts.map count).sum=m+count (mkT n ts)∧kindT (mkT n ts)=n.1∧pathT (mkT n ts)=n.2.1∧valT (mkT n ts)=n.2.2.1∧(∀ i:Fin 16,kidsT (mkT n ts) i=ts.getD i.val .nil):=by
 obtain ⟨k,p,v,K⟩:=n;unfold fineD at hf;simp only at hf hK hG;have hsum:=sum_getD ts hts;unfold oddLd at ho;simp only [Bool.or_eq_false_iff,decide_eq_false_iff_not] at ho;obtain ⟨⟨o1,o2⟩,o3⟩:=ho;unfold manyLd at hm ⊢;simp only at hm ⊢;obtain ⟨hk,hfit,hpl,hvl,_⟩:=fineN_parts hf;rcases hk with rfl|rfl|rfl
 ·have hT:mkT (1,p,v,K) ts= .leaf p v:=by simp [mkT]
  unfold fineN at hf;simp [pathOk] at hf
  obtain ⟨⟨⟨f1,f2⟩,f3⟩,f4⟩:=hf;have hv:v≠ []:=f3;rw [if_neg hv] at hm ⊢;obtain ⟨i1,i2,i3,i4⟩:=itemLd_ok hm;have hkids:∀ i:Fin 16,kidsT (.leaf p v) i=ts.getD i.val .nil:=fun i=>by
   rw [(hG i.val i.isLt).1 (by rw [show K=List.replicate 16 [] from f1]; exact rep_getD 16 i.val)];rfl
  rw [hT];have hs:=sums_of (n:=(1,p,v,K)) (pl:=pl) hK hG hkids;refine ⟨⟨by simp,⟨hfit,hv⟩,fun q hq hl=> ?_⟩,?_,?_,?_,rfl,rfl,rfl,hkids⟩
  ·simp only [look] at hl ⊢
   split at hl
   ·rename_i e;subst e;rw [if_pos rfl,List.length_append];exact ⟨by omega,i2,fun e=>i1 (by rw [←List.length_append,e]; rfl),hvl⟩
   ·exact absurd rfl hl
  ·unfold textT textD; rw [hs]; rfl
  ·intro hb; subst hb; simp at o1
  ·rw [i3,hsum];simp only [←hkids];simp only [kidsT,noKids,count,sum_zero]
 ·have hT:mkT (2,p,v,K) ts= .ext p (ts.getD 0 .nil):=by simp [mkT]
  unfold fineN at hf;simp [pathOk] at hf
  obtain ⟨⟨⟨f1,f2⟩,f3⟩,f4⟩:=hf;have hv:v= []:=f4;rw [if_pos hv];have h32:K.getD 0 []≠ []:=fun e=>by
   rw [List.getD_eq_getElem?_getD] at e;simp [sumsOk,e] at f2
  obtain ⟨g1,g2,g3⟩:=(hG 0 (by omega)).2 h32;have hkids:∀ i:Fin 16,kidsT (.ext p (ts.getD 0 .nil)) i=ts.getD i.val .nil:=fun i=>by
   simp only [kidsT]
   split
   ·rename_i e; rw [e]; rfl
   ·rename_i e;have hi:i.val≠0:=fun h=>e (Fin.ext h);refine ((hG i.val i.isLt).1 ?_).symm;rw [f1];obtain ⟨j,hj⟩:∃ j,i.val=j+1:=⟨i.val - 1,by omega⟩
    rw [hj,List.getD_cons_succ];exact rep_getD 15 j
  rw [hT];have hs:=sums_of (n:=(2,p,v,K)) (pl:=pl) hK hG hkids;have hat:kidAt (2,p,v,K) pl 0=pl++p:=by simp [kidAt]
  rw [hat] at g1;have hpne:p≠ []:=fun e=>by subst e; simp at f3
  refine ⟨⟨by simp,⟨hfit,hpne,g3 rfl,g1.wf⟩,fun q hq hl=> ?_⟩,?_,?_,?_,rfl,rfl,hv.symm,hkids⟩
  ·obtain ⟨e1,e2⟩:=look_ext_some hl;have e3:look (.ext p (ts.getD 0 .nil)) q=look (ts.getD 0 .nil) (q.drop p.length):=by rw [e1,look_ext]; simp
   have:=g1.all (q.drop p.length) (fit_drop _ hq) e2
   rw [List.append_assoc,←e1] at this;rw [e3];exact this
  ·unfold textT textD; rw [hs]
   show nodeText 2 p [] K=nodeText 2 p v K;rw [hv]
  ·intro hb; subst hb; simp at o1
  ·rw [hsum];simp only [←hkids]
   have:=count_eq (t:= .ext p (ts.getD 0 .nil)) (by simp) ⟨hfit,hpne,g3 rfl,g1.wf⟩
   unfold belowT at this;rw [List.take_of_length_le (by simp)] at this;rw [this];simp [valT]
 ·have hT:mkT (3,p,v,K) ts= .branch v (fun i=>ts.getD i.val .nil):=by simp [mkT]
  unfold fineN at hf;simp at hf
  obtain ⟨⟨⟨f1,f2⟩,f3⟩,f4⟩:=hf;have hp:p= []:=f1;subst hp;have hkids:∀ i:Fin 16,kidsT (.branch v (fun i=>ts.getD i.val .nil)) i=ts.getD i.val .nil:=fun i=>rfl;rw [hT];have hs:=sums_of (n:=(3,[],v,K)) (pl:=pl) hK hG hkids;have hwf:wf (.branch v (fun i=>ts.getD i.val .nil)):=by
   refine ⟨fun i=> ?_,?_⟩
   ·by_cases h:K.getD i.val []= []
    ·simp only [(hG i.val i.isLt).1 h]; trivial
    ·exact ((hG i.val i.isLt).2 h).1.wf
   ·have hl:=kidsW_length (.branch v (fun i=>ts.getD i.val .nil));rw [hs] at hl;simp only at hl;have hm2:many (kidsT (.branch v (fun i=>ts.getD i.val .nil)))=many (fun i:Fin 16=>ts.getD i.val .nil):=rfl;rw [←hm2,←hl];exact f3
  refine ⟨⟨by simp,hwf,fun q hq hl=> ?_⟩,?_,?_,?_,rfl,rfl,rfl,hkids⟩
  ·cases q with
   |nil=>
    have hv:v≠ []:=hl;rw [if_neg hv] at hm;obtain ⟨i1,i2,_,_⟩:=itemLd_ok hm;simp only [List.length_nil,Nat.add_zero] at i1 i2 o2;rw [List.append_nil];exact ⟨by omega,i2,fun e=>i1 (by rw [e]; rfl),hvl⟩
   |cons b r=>
    obtain ⟨hb,hr⟩:=fit_cons'.1 hq;have hl2:look (ts.getD (ix b).val .nil) r≠ []:=hl;have hKi:K.getD (ix b).val []≠ []:=fun e=>by
     rw [(hG _ (ix b).isLt).1 e] at hl2;exact hl2 rfl
    have g:=((hG _ (ix b).isLt).2 hKi).1;have hat:kidAt (3,[],v,K) pl (ix b).val=pl++ [b]:=by
     have:UInt8.ofNat (ix b).val=b:=by
      apply UInt8.toNat_inj.1
      have h15:b.toNat≤15:=by rw [UInt8.le_iff_toNat_le] at hb; exact hb
      simp [ix]
      omega
     simp [kidAt,this]
    rw [hat] at g
    have:=g.all r hr hl2
    rw [List.append_assoc] at this;exact this
  ·unfold textT textD; rw [hs]; rfl
  ·intro _; rfl
  ·rw [hsum]
   show _=m+((if v= [] then 0 else 1)+_)
   split
   ·simp
   ·rename_i hv;rw [if_neg hv] at hm;rw [(itemLd_ok hm).2.2.1]
    show m+1+((List.finRange 16).map fun i=>count (ts.getD i.val .nil)).sum=m+(1+((List.finRange 16).map fun i=>count (ts.getD i.val .nil)).sum)
    omega
theorem nodeOf_ok {D:List KV} {sum:List UInt8} (hT:∀ k s,lookB D k=some s→shaW (1::s)=k) (h:(nodeOf D sum).2=0):(nodeOf D sum).1.2.2.2.length=16∧fineD (nodeOf D sum).1=true∧shaW (1::textD (nodeOf D sum).1)=sum∧lookB D sum=some (textD (nodeOf D sum).1):=by
 unfold nodeOf at h ⊢;cases hl:lookB D sum with
 |none=>rw [hl] at h; cases h
 |some s=>
  rw [hl] at h;simp only at h ⊢;obtain ⟨h1,h2,h3⟩:=decN_ok (s:=s) (n:=(decN s).1) (by rw [←h]);exact ⟨h1,h2,by rw [h3]; exact hT _ _ hl,by rw [h3]⟩
theorem manyLd_le {n:Nd} {pl:List UInt8} {m:Nat} (hm:m≤1024) (h:(manyLd n pl m).2=0):(manyLd n pl m).1≤1024:=by
 unfold manyLd at h ⊢
 split
 ·exact hm
 ·rename_i hv;rw [if_neg hv] at h
  have:=itemLd_ok h
  omega
theorem loadW_ok {D:List KV} (hT:∀ k s,lookB D k=some s→shaW (1::s)=k):∀ f sum pl below m c,m≤1024→(loadW D f sum pl below m c).2.2=0→
  c=0∧OkLd pl (loadW D f sum pl below m c).1∧sumT (loadW D f sum pl below m c).1=sum∧(below=true→isBranch (loadW D f sum pl below m c).1=true)∧(loadW D f sum pl below m c).2.1=m+count (loadW D f sum pl below m c).1∧(loadW D f sum pl below m c).2.1≤1024
 |0,sum,pl,below,m,c,_,h=>by simp [loadW] at h
 |f+1,sum,pl,below,m,c,hm,h=>by
  have hc:c=0:=Decidable.byContradiction fun hc=>loadW_code D _ _ _ _ _ _ hc h;subst hc;unfold loadW at h ⊢;rw [if_neg (by simp)] at h ⊢;by_cases h1:(nodeOf D sum).2=0;rotate_left
  ·rw [if_pos h1] at h; exact absurd h h1
  rw [if_neg (by simp [h1])] at h ⊢;obtain ⟨n1,n2,n3,n4⟩:=nodeOf_ok hT h1;generalize (nodeOf D sum).1=n at *;cases h2:oddLd n pl below with
  |true=>rw [h2] at h; rw [if_pos rfl] at h; cases h
  |false=>
  rw [h2] at h;rw [if_neg (by simp)] at h ⊢;by_cases h3:(manyLd n pl m).2=0;rotate_left
  ·rw [if_pos h3] at h; exact absurd h h3
  rw [if_neg (by simp [h3])] at h ⊢;have hm1:(manyLd n pl m).1≤1024:=by
   unfold manyLd at h3 ⊢
   split
   ·exact hm
   ·rename_i hv;rw [if_neg hv] at h3
    have:=itemLd_ok h3
    omega
  have key:=kidsLd_ok (F:=fun s p m c=>loadW D f s p (decide (n.1=2)) m c) (K:=n.2.2.2) (at_:=kidAt n pl) (KidOk n pl) (fun s p m c hc=>loadW_code D f _ _ _ _ _ hc)
   (fun i m' hi hne hm' hz=>by
    obtain ⟨_,a1,a2,a3,a4,a5⟩:=loadW_ok hT f (n.2.2.2.getD i []) (kidAt n pl i) (decide (n.1=2)) m' 0 hm' hz;exact ⟨⟨a1,a2,fun e=>a3 (decide_eq_true e)⟩,a4,a5⟩) 16 (manyLd n pl m).1 (by omega) hm1
  unfold endLd at h ⊢;generalize kidsLd (fun s p m c=>loadW D f s p (decide (n.1=2)) m c) n.2.2.2 (kidAt n pl) 16 (manyLd n pl m).1 0=r at *;by_cases h4:r.2.2=0;rotate_left
  ·rw [if_neg h4] at h; exact absurd h h4
  rw [if_pos h4];obtain ⟨k1,k2,k3,k4⟩:=key h4;obtain ⟨m1,m2,m3,m4,_⟩:=mkT_ok (n:=n) (ts:=r.1) (pl:=pl) (below:=below) (m:=m) k1 n1 n2 h2 h3 (fun i hi=>by
   have:=k2 i hi
   rwa [show 16 - 16+i=i by omega] at this)
  refine ⟨rfl,m1,?_,m3,?_,k4⟩
  ·rw [←sum_text m1.nn,m2,n3]
  ·show r.2.1=_;rw [k3,m4]
theorem kidAt_len {n:Nd} {pl:List UInt8} {below:Bool} {i:Nat} (hf:fineD n=true) (ho:oddLd n pl below=false) (hne:n.2.2.2.getD i []≠ []):pl.length<(kidAt n pl i).length∧(kidAt n pl i).length≤16:=by
 obtain ⟨k,p,v,K⟩:=n;unfold fineD at hf;simp only at hf hne;unfold oddLd at ho;simp only [Bool.or_eq_false_iff,decide_eq_false_iff_not] at ho;obtain ⟨⟨_,o2⟩,o3⟩:=ho;have hz:K≠zeroK:=fun e=>hne (by rw [e]; exact rep_getD 16 i);obtain ⟨hk,_⟩:=fineN_parts hf;unfold kidAt;simp only
 rcases hk with rfl|rfl|rfl
 ·unfold fineN at hf;simp [pathOk] at hf
  exact absurd hf.1.1.1 hz
 ·unfold fineN at hf;simp [pathOk] at hf
  have:=hf.1.2.2.1
  rw [if_pos rfl,List.length_append];omega
 ·unfold fineN at hf;simp at hf
  have hp:p= []:=hf.1.1.1;subst hp;simp [hz] at o3
  rw [if_neg (by omega),List.length_append];simp
  omega
theorem kidsLd_mk {D:List KV} (hT:∀ k s,lookB D k=some s→shaW (1::s)=k) {f:Nat} {n:Nd} {pl:List UInt8} {below:Bool} {m:Nat} (hm:m≤1024) (hK:n.2.2.2.length=16) (hf:fineD n=true) (ho:oddLd n pl below=false) (h3:(manyLd n pl m).2=0) {ts:List T} {m':Nat}
  (h:kidsLd (fun s p m c=>loadW D f s p (decide (n.1=2)) m c) n.2.2.2 (kidAt n pl) 16 (manyLd n pl m).1 0=(ts,m',0)):
  OkLd pl (mkT n ts)∧kindT (mkT n ts)=n.1∧pathT (mkT n ts)=n.2.1∧valT (mkT n ts)=n.2.2.1∧(∀ i:Fin 16,kidsT (mkT n ts) i=ts.getD i.val .nil)∧(∀ i:Fin 16,kidsT (mkT n ts) i= .nil→n.2.2.2.getD i.val []= [])∧count (mkT n ts)≤1024:=by
 have key:=kidsLd_ok (F:=fun s p m c=>loadW D f s p (decide (n.1=2)) m c) (K:=n.2.2.2) (at_:=kidAt n pl) (KidOk n pl) (fun s p m c hc=>loadW_code D f _ _ _ _ _ hc)
  (fun i m' hi hne hm' hz=>by
   obtain ⟨_,a1,a2,a3,a4,a5⟩:=loadW_ok hT f (n.2.2.2.getD i []) (kidAt n pl i) (decide (n.1=2)) m' 0 hm' hz;exact ⟨⟨a1,a2,fun e=>a3 (decide_eq_true e)⟩,a4,a5⟩) 16 (manyLd n pl m).1 (by omega) (manyLd_le hm h3)
 rw [h] at key;obtain ⟨k1,k2,k3,k4⟩:=key rfl;simp only at k1 k2 k3 k4;have k2':∀ i,i<16→(n.2.2.2.getD i []= []→ts.getD i .nil= .nil)∧(n.2.2.2.getD i []≠ []→KidOk n pl i (ts.getD i .nil)):=fun i hi=>by
  have:=k2 i hi
  rwa [show 16 - 16+i=i by omega] at this
 obtain ⟨m1,m2,m3,m4,m5,m6,m7,m8⟩:=mkT_ok (n:=n) (ts:=ts) (pl:=pl) (below:=below) (m:=m) k1 hK hf ho h3 k2';refine ⟨m1,m5,m6,m7,m8,fun i hn=> ?_,by omega⟩;refine Decidable.byContradiction fun hne=> ?_;rw [m8] at hn;exact ((k2' i.val i.isLt).2 hne).1.nn hn
end Trie
namespace Led
open Pw Trie
structure Sq (p e:En):Prop where
 rcs:e.rcs=(Ex.allGo p.st e.txs []).2.1
 st:e.st=(Ex.allGo p.st e.txs []).1
theorem makeE_sq {l:List En} {p:En} {view:Int} {txs:List Ex.Tx} (hg:Trie.Good p.st) (hc0:count p.st≤900) (hc:makeC p view txs=0):Sq p (makeE l p view txs):=by
 obtain ⟨a1,a2,a3⟩:=Ex.allL_ok (makeC_all hc);rw [Ex.allGoL_few txs p.st [] hg (by omega)] at a3;unfold makeE;rw [a3];unfold nextE nextH;generalize Hd.dig _=d;exact ⟨rfl,rfl⟩
def Sqs (l:List En):Prop:=∀ i (hi:i+1<l.length),Sq l[i] l[i+1]
theorem Sqs.add {l:List En} (h:Sqs l) (hw:Wf l) (hf:Few l 900) (view:Int) (txs:List Ex.Tx):Sqs (addW l view txs).1:=by
 obtain ⟨n,hn⟩:∃ n,l.length=n+1:=⟨l.length - 1,by have:=hw.pos; omega⟩
 have e:l[n]?=some (l[n]'(by omega)):=List.getElem?_eq_getElem (by omega);by_cases hc:makeC (l[n]'(by omega)) view txs=0
 ·rw [add_ok hn e hc];intro i hi;simp only [List.length_append,List.length_singleton] at hi;by_cases hl:i+1<l.length
  ·rw [List.getElem_append_left hl,List.getElem_append_left (by omega)];exact h i hl
  ·obtain rfl:i=n:=by omega
   rw [List.getElem_append_left (by omega),List.getElem_append_right (by omega)];simp only [hn,Nat.sub_self,List.getElem_cons_zero];exact makeE_sq (hw.one _ (by omega)).good (hf _ (List.getElem_mem _)) hc
 ·unfold addW;rw [last_of hn];simp only
  rw [if_neg hc];exact h
theorem Sqs.grow:∀ (r:List (Int × List Ex.Tx)) (l:List En) (m:Nat),Sqs l→Wf l→Few l m→m+16*r.length≤900→Sqs (growW l r)
 | [],l,m,h,hw,hf,hm=>h
 |b::r,l,m,h,hw,hf,hm=>by
  simp only [List.length_cons] at hm;rw [growW];exact Sqs.grow r _ (m+16) (h.add hw (fun e he=>Nat.le_trans (hf e he) (by omega)) b.1 b.2) (addW_wf hw b.1 b.2) (addW_few hw hf (by omega) b.1 b.2) (by omega)
theorem Sqs.one (e:En):Sqs [e]:=fun i hi=>by simp at hi
end Led
namespace Ex
open Pw Trie
def setA (D:List UInt8→Int) (a:Ac):List UInt8→Int:=fun n=>if n=a.1 then a.2.2 else D n
theorem genA_seq:∀ (l:List Ac) (t:T) (D:List UInt8→Int),Trie.Good t→(genA t l).2=0→(∀ n,D n=(seqOf t n:Int))→∀ n,(l.foldl setA D) n=(seqOf (genA t l).1 n:Int)
 | [],t,D,h,hc,hD=>hD
 |a::r,t,D,h,hc,hD=>by
  simp only [genA] at hc ⊢;by_cases ha:okA a=false
  ·rw [if_pos ha] at hc; simp at hc
  rw [if_neg ha] at hc ⊢;obtain ⟨a1,a2,a3,a4,a5⟩:=okA_spec (a:=a) (by simpa using ha);by_cases hg:(getW t (aKey a.1)).2=0
  ·rw [if_pos hg] at hc; simp at hc
  rw [if_neg hg] at hc ⊢;refine genA_seq r _ _ (good_putA (t:=t) h (nameW_len a1).2 (p:=(a.2.1.toNat,a.2.2.toNat)) (by simp only; omega) (by simp only; omega)) hc fun n=> ?_;unfold setA;have hp:=acc_putA h (nameW_len a1).2 (p:=(a.2.1.toNat,a.2.2.toNat)) (by unfold maxA; simp only; omega) (by unfold maxA; simp only; omega) n;by_cases e:n=a.1
  ·rw [if_pos e];rw [if_pos e] at hp;rw [seqOf_of hp];simp only; omega
  ·rw [if_neg e,hD n];rw [if_neg e] at hp;unfold seqOf;rw [hp]
theorem genW_seq {l:List Ac} {set:List Mem} (hc:(genW l set).2=0) (n:List UInt8):(l.foldl setA fun _=>0) n=(seqOf (genW l set).1 n:Int):=by
 unfold genW at hc ⊢;by_cases h1:8<l.length
 ·rw [if_pos h1] at hc; simp at hc
 rw [if_neg h1] at hc ⊢;by_cases h2:(genA .nil l).2≠0
 ·rw [if_pos h2] at hc; exact absurd hc h2
 rw [if_neg h2] at hc ⊢;by_cases h3:okM set=false
 ·rw [if_pos h3] at hc; simp at hc
 rw [if_neg h3];have hm:okM set=true:=by simpa using h3
 have g1:=(genA_good l .nil Trie.Good.nil).1;have e:=genA_seq l .nil (fun _=>0) Trie.Good.nil (by simpa using h2) (fun n=>by
  have hz:(getW .nil (aKey n)).2≠0:=by
   unfold getW
   split
   ·rw [show Trie.look .nil (Nib.of (aKey n))= [] from rfl]; simp
   ·simp
  unfold seqOf acc;rw [if_neg hz];rfl) n
 rw [e]
 congr 1
 simp only
 unfold seqOf;rw [acc_put g1 keyed_s (ne_nil_of (by rw [digM_len hm]; omega)) n (aKey_sKey n)]
theorem allGo_rc:∀ (l:List Tx) (t:T) (m:List Mem) (i:Nat) (hi:i<(allGo t l m).2.1.length) (hl:i<l.length),(allGo t l m).2.1[i].2=(l[i].frm,l[i].seq)
 | [],_,_,i,_,hl=>by simp at hl
 |x::r,t,m,i,hi,hl=>by
  rcases i with _|i
  ·rfl
  ·exact allGo_rc r _ _ i (by simpa [allGo] using hi) (by simpa using hl)
end Ex
namespace Led
open Pw Trie
structure SeqOk (p e:En):Prop where
 len:e.rcs.length=e.txs.length
 few:e.txs.length≤8
 tree:(treeF e.rcs).2=0
 fr:∀ i (hi:i<e.rcs.length),e.rcs[i].2.1.length≤6
 sq:∀ i (hi:i<e.rcs.length),e.rcs[i].2.2≤1099511627776
 rc:∀ i (hi:i<e.rcs.length) (hl:i<e.txs.length),e.rcs[i].2=(e.txs[i].frm,e.txs[i].seq)
 prv:∀ i (hi:i<e.rcs.length),(proveF e.rcs (i:Int)).2=0∧(proveF e.rcs (i:Int)).1.length≤17∧verifyF e.hd.rc (i:Int) (proveF e.rcs (i:Int)).1=((e.rcs[i].1.toNat,e.rcs[i].2.1,e.rcs[i].2.2.toNat),true,0)
 rok:∀ i (hi:i<e.rcs.length),0≤e.rcs[i].1∧0≤e.rcs[i].2.2
 run:∀ D:List UInt8→Int,(∀ n,D n=(Ex.seqOf p.st n:Int))→(∀ i (hi:i<e.rcs.length),e.rcs[i].1=0→e.rcs[i].2.2=((e.rcs.take i).foldl Ex.bump D) e.rcs[i].2.1)∧∀ n,(e.rcs.foldl Ex.bump D) n=(Ex.seqOf e.st n:Int)
 acc:∀ i (hi:i<e.txs.length),∃ a:Nat,accW e.st e.txs[i].frm=((e.txs[i].frm,a,Ex.seqOf e.st e.txs[i].frm),0)
theorem grow_first:∀ (r:List (Int × List Ex.Tx)) (l:List En),l≠ []→(growW l r)[0]?=l[0]?
 | [],l,_=>rfl
 |b::r,l,h=>by
  have ha:(addW l b.1 b.2).1[0]?=l[0]?∧(addW l b.1 b.2).1≠ []:=by
   unfold addW
   split
   ·exact ⟨rfl,h⟩
   ·split
    ·exact ⟨List.getElem?_append_left (List.length_pos_iff.2 h),by simp⟩
    ·exact ⟨rfl,h⟩
  rw [growW,grow_first r _ ha.2,ha.1]
theorem wfs_all {L:List En} (hw:Wf L) (hs:Sqs L) (h0:∀ e,L[0]?=some e→Ex.WfS e.st):∀ i (hi:i<L.length),Ex.WfS L[i].st
 |0,hi=>h0 _ (List.getElem?_eq_getElem hi)
 |i+1,hi=>by
  rw [(hs i hi).st];exact (Ex.all_sum _ _ _ (hw.one i (by omega)).good (wfs_all hw hs h0 i (by omega))).2
theorem SeqOk.of {L:List En} (hw:Wf L) (hr:Rts L) (hs:Sqs L) (h0:∀ e,L[0]?=some e→Ex.WfS e.st) (i:Nat) (hi:i+1<L.length):SeqOk L[i] L[i+1]:=by
 have hg:=(hw.one i (by omega)).good;have hws:=wfs_all hw hs h0 (i+1) hi;have rt:=hr _ (List.getElem_mem hi);have sq:=hs i hi;generalize L[i]=p at *;generalize L[i+1]=e at *;refine ⟨rt.len,rt.few,rt.tree,fun j hj=>(rt.rok _ (List.getElem_mem hj)).2.2.2.1,fun j hj=>(rt.rok _ (List.getElem_mem hj)).2.2.2.2.2,fun j hj hl=> ?_,fun j hj=> ?_,fun j hj=> ?_,fun D hD=> ?_,fun j hj=> ?_⟩
 ·have:=Ex.allGo_rc e.txs p.st [] j (by rw [←sq.rcs]; exact hj) hl
  simp only [←sq.rcs] at this;exact this
 ·have ht:=rt.tree;have h8:=rt.few;have h9:=rt.len;obtain ⟨a,b,c⟩:=shown_at ht j (by omega);have hrc:e.hd.rc=sumT (treeF e.rcs).1:=by rw [rt.rc]; unfold rootR; rw [if_pos ht]
  rw [hrc];exact ⟨a,b,by rw [c,dif_pos hj]⟩
 ·obtain ⟨a,_,_,_,b,_⟩:=rt.rok _ (List.getElem_mem hj);exact ⟨a,b⟩
 ·have:=Ex.seqs_go e.txs p.st [] D hg hD
  simp only [←sq.rcs,←sq.st] at this;exact this
 ·have hf:=rt.fine _ (List.getElem_mem hj);have hn:Ex.nameW e.txs[j].frm=true:=(Ex.fineX_spec hf).1;obtain ⟨q,hq⟩:=hws _ hn;refine ⟨q.1,?_⟩;unfold accW;rw [if_pos hn,hq];simp only
  rw [Ex.seqOf_of hq]
end Led
section
open Go.RowKit Go.Instr
def ival (vs:List (List UInt8 × Value)) (n:List UInt8):Value:=((assoc n vs 0).map (·.2)).getD (.int .i64 0)
theorem assoc_at {κ:Type} [DecidableEq κ] (k:κ):∀ (l:List (κ × Value)) (i j:Nat),(assoc k l i).map (·.2)=(assoc k l j).map (·.2)
 | [],_,_=>rfl
 |x::l,i,j=>by
  simp only [assoc]
  split
  ·rfl
  ·exact assoc_at k l (i+1) (j+1)
theorem ival_put (k n:List UInt8) (v:Value):∀ (vs:List (List UInt8 × Value)),ival (aput k v vs) n=if n=k then v else ival vs n
 | []=>by
  unfold ival;simp only [aput,assoc];by_cases h:n=k
  ·rw [if_pos h,if_pos h]; rfl
  ·rw [if_neg h,if_neg h]
 |x::vs=>by
  have ih:=ival_put k n v vs;unfold ival at ih ⊢;simp only [aput];by_cases hk:k=x.1
  ·rw [if_pos hk];simp only [assoc];by_cases h:n=k
   ·rw [if_pos h,if_pos h]; rfl
   ·rw [if_neg h,if_neg h,if_neg (fun e=>h (e.trans hk.symm))]
  ·rw [if_neg hk];simp only [assoc];by_cases h:n=x.1
   ·rw [if_pos h,if_pos h,if_neg (fun e=>hk (e.symm.trans h))]
   ·rw [if_neg h,if_neg h,assoc_at n (aput k v vs) _ 0,assoc_at n vs _ 0];exact ih
structure IMap (w:World) (b:Nat) (D:List UInt8→Int):Prop where
 ex:∃ vs,MapIs w ss b vs∧∀ n,ival vs n= .int .i64 (D n)
section
variable {w w':World} {b:Nat} {D:List UInt8→Int}
theorem IMap.lt (h:IMap w b D):b<w.heap.size:=by obtain ⟨vs,h1,_⟩:=h.ex; exact h1.lt
theorem IMap.next (h:IMap w b D) (hb:Below w.heap.size w w'):IMap w' b D:=by
 obtain ⟨vs,h1,h2⟩:=h.ex;exact ⟨vs,h1.kept (hb.block b h1.lt),h2⟩
theorem IMap.made (w:World) (c:Nat):IMap (w.alloc (.map #[] c)) w.heap.size (fun _=>0):=⟨[],MapIs.made w c,fun n=>rfl⟩
theorem IMap.cong {E:List UInt8→Int} (h:IMap w b D) (e:∀ n,D n=E n):IMap w b E:=by
 obtain ⟨vs,h1,h2⟩:=h.ex;exact ⟨vs,h1,fun n=>by rw [h2 n,e n]⟩
theorem IMap.get (h:IMap w b D) {t:TypeId} (ht:Tryz.prog.underlying t=some (.map 9 3)) (k:List UInt8) {W:World} (hW:Below w.heap.size w W):(lookup t (.map (some b)) (.string ⟨k.toArray⟩) false).run Tryz.prog W= .ok (.int .i64 (D k)) W:=by
 have hz:∀ W,(zeroValue 3).run Tryz.prog W= .ok (.int .i64 0) W:=fun W=>by kernel_rfl
 obtain ⟨vs,h1,h2⟩:=h.ex;have h3:=h2 k;unfold ival at h3;have h4:=(h1.kept (hW.block b h1.lt)).look ss_type t _ ht _ (hz W) k false;simp only [ss] at h4;rw [h4];cases ha:assoc k vs 0 with
 |none=>rw [ha] at h3; simp only [Option.map_none,Option.getD_none] at h3; simp only [h3]; rfl
 |some r=>
  obtain ⟨j,v⟩:=r;rw [ha] at h3;simp only [Option.map_some,Option.getD_some] at h3;subst h3;rfl
theorem IMap.store (h:IMap w b D) (k:List UInt8) (q:Int):∃ vs,MapIs w ss b vs∧∀ w',MapIs w' ss b (aput k (.int .i64 q) vs)→IMap w' b (fun n=>if n=k then q else D n):=by
 obtain ⟨vs,h1,h2⟩:=h.ex;refine ⟨vs,h1,fun w' a1=>⟨_,a1,fun n=> ?_⟩⟩;rw [ival_put,h2 n]
 split<;>rfl
theorem IMap.reads (h:IMap w b D) {B size n:Nat} {A:Option Addr} {xs:List Value} (hr:Reads w B size A n xs) (hB:B≤w.heap.size) (hg:w.grownBy w' (some b)):Reads w' B size A n xs:=by
 obtain ⟨vs,h1,_⟩:=h.ex;exact hr.off_map h1 hB hg
theorem IMap.no_cell (h:IMap w b D) (p:Addr) (hp:p.block=b):w.cell? p=none:=by
 obtain ⟨vs,h1,_⟩:=h.ex;exact h1.no_cell p hp
end
end
end Go.Proofs.YtnelhjfjkkdoaaaGreatDoor