import Derived.Test.YtdkiloganbhfkaaGreatDoorJ10
set_option linter.unusedSimpArgs false
set_option linter.unusedVariables false
set_option maxHeartbeats 4000000
set_option maxRecDepth 100000
namespace Go.Proofs.YtdkiloganbhfkaaGreatDoor
namespace Trie
theorem mem_itemsW {t:T} (h:Good t) (k v:List UInt8):(k,v)∈itemsW t↔look t (Nib.of k)=v∧v≠ []:=by
 rw [itemsW,List.mem_map]
 constructor
 ·rintro ⟨x,hx,e⟩;obtain ⟨q,hq,rfl,hn⟩:=(mem_items t [] x h.wf).1 hx;injection e with e1 e2
  subst e1;simp only [List.nil_append] at e2 ⊢;rw [Nib.of_joined q hq (h.even q hq hn).1,←e2];exact ⟨rfl,hn⟩
 ·rintro ⟨e,hn⟩;subst e;exact ⟨(Nib.of k,look t (Nib.of k)),(mem_items t [] _ h.wf).2 ⟨Nib.of k,Nib.fit_of k,rfl,hn⟩,by simp [Nib.joined_of]⟩
end Trie
namespace Trie
abbrev KV:=List UInt8 × List UInt8
def rises (l:List KV):Prop:=l.Pairwise fun x y=>Op.bytesLess x.1 y.1=true
theorem rises_itemsW {t:T} (h:Good t):rises (itemsW t):=by
 rw [rises,itemsW,List.pairwise_map];refine (sorted_items t [] h.wf).imp_of_mem ?_;intro x y hx hy hlt;obtain ⟨q,hq,rfl,hqn⟩:=(mem_items t [] x h.wf).1 hx;obtain ⟨r,hr,rfl,hrn⟩:=(mem_items t [] y h.wf).1 hy;simp only [List.nil_append] at hlt ⊢;rw [←Nib.blt_of,Nib.of_joined q hq (h.even q hq hqn).1,Nib.of_joined r hr (h.even r hr hrn).1];exact hlt
theorem rises_ext:∀ (a b:List KV),rises a→rises b→(∀ x,x∈a↔x∈b)→a=b
 | [],[],_,_,_=>rfl
 | [],y::b,_,_,h=>by have:=(h y).2 (by simp); simp at this
 |x::a,[],_,_,h=>by have:=(h x).1 (by simp); simp at this
 |x::a,y::b,ha,hb,h=>by
  obtain ⟨ha1,ha2⟩:=List.pairwise_cons.1 ha;obtain ⟨hb1,hb2⟩:=List.pairwise_cons.1 hb;have hxy:x=y:=by
   rcases List.mem_cons.1 ((h x).1 (by simp)) with e|hx
   ·exact e
   rcases List.mem_cons.1 ((h y).2 (by simp)) with e|hy
   ·exact e.symm
   have h1:=bl_trans _ _ _ (hb1 x hx) (ha1 y hy);rw [Nib.blt_irrefl] at h1; cases h1
  subst hxy
  congr 1
  refine rises_ext a b ha2 hb2 fun z=>⟨fun hz=> ?_,fun hz=> ?_⟩
  ·rcases List.mem_cons.1 ((h z).1 (by simp [hz])) with e|hz2
   ·subst e; have h1:=ha1 z hz; rw [Nib.blt_irrefl] at h1; cases h1
   ·exact hz2
  ·rcases List.mem_cons.1 ((h z).2 (by simp [hz])) with e|hz2
   ·subst e; have h1:=hb1 z hz; rw [Nib.blt_irrefl] at h1; cases h1
   ·exact hz2
def atI (k:List UInt8):List KV→Nat × Bool
 | []=>(0,false)
 |x::l=>if Op.bytesLess x.1 k=true then ((atI k l).1+1,(atI k l).2) else (0,decide (x.1=k))
theorem atI_le (k:List UInt8):∀ l,(atI k l).1≤l.length∧((atI k l).2=true→(atI k l).1<l.length)
 | []=>by simp [atI]
 |x::l=>by
  have ih:=atI_le k l;unfold atI
  split
  ·simp only [List.length_cons];exact ⟨by omega,fun h=>by have:=ih.2 h; omega⟩
  ·simp
theorem atI_spec (k:List UInt8):∀ (l:List KV),rises l→∃ X Y,l=X++Y∧X.length=(atI k l).1∧(∀ x∈X,Op.bytesLess x.1 k=true)∧((atI k l).2=true→∃ y Y',Y=y::Y'∧y.1=k)∧((atI k l).2=false→∀ y∈Y,Op.bytesLess k y.1=true)
 | [],_=>⟨[],[],rfl,rfl,by simp,by simp [atI],by simp⟩
 |x::l,h=>by
  obtain ⟨h1,h2⟩:=List.pairwise_cons.1 h;unfold atI;by_cases hk:Op.bytesLess x.1 k=true
  ·rw [if_pos hk];obtain ⟨X,Y,e,hX,hX2,hT,hF⟩:=atI_spec k l h2;refine ⟨x::X,Y,by rw [e]; rfl,by rw [List.length_cons,hX],?_,hT,hF⟩;intro y hy;rcases List.mem_cons.1 hy with rfl|hy
   ·exact hk
   ·exact hX2 y hy
  ·rw [if_neg hk];refine ⟨[],x::l,rfl,rfl,by simp,fun hd=>⟨x,l,rfl,of_decide_eq_true hd⟩,fun hd=> ?_⟩;have hne:x.1≠k:=of_decide_eq_false hd;have hlt:Op.bytesLess k x.1=true:=by
    cases h3:Op.bytesLess k x.1 with
    |true=>rfl
    |false=>exact absurd (bl_tri _ _ (by simpa using hk) h3) hne
   intro y hy;rcases List.mem_cons.1 hy with rfl|hy
   ·exact hlt
   ·exact bl_trans _ _ _ hlt (h1 y hy)
theorem atI_step (k:List UInt8) (l:List KV) (i:Nat) (hi:i<l.length) (h:atI k l=(i+(atI k (l.drop i)).1,(atI k (l.drop i)).2)):
  (Op.bytesLess l[i].1 k=true→atI k l=(i+1+(atI k (l.drop (i+1))).1,(atI k (l.drop (i+1))).2))∧(Op.bytesLess l[i].1 k=false→atI k l=(i,decide (l[i].1=k))):=by
 rw [List.drop_eq_getElem_cons hi] at h;refine ⟨fun h1=> ?_,fun h1=> ?_⟩
 ·rw [h];simp only [atI,if_pos h1];rw [show i+((atI k (l.drop (i+1))).1+1)=i+1+(atI k (l.drop (i+1))).1 by omega]
 ·rw [h];simp only [atI,if_neg (show ¬Op.bytesLess l[i].1 k=true by simp [h1]),Nat.add_zero]
def rput (l:List KV) (k v:List UInt8):List KV × Nat:=
 if keyedW k then
  (if v.isEmpty||decide (32<v.length) then ([],2) else (l.take (atI k l).1++ [(k,v)]++l.drop ((atI k l).1+if (atI k l).2 then 1 else 0),0))
 else ([],1)
def rget (l:List KV) (k:List UInt8):List UInt8 × Nat:=
 if keyedW k then (if (atI k l).2 then ((l[(atI k l).1]?.getD ([],[])).2,0) else ([],5)) else ([],1)
def rdel (l:List KV) (k:List UInt8):List KV × Nat:=
 if (rget l k).2=0 then (l.take (atI k l).1++l.drop ((atI k l).1+1),0) else ([],(rget l k).2)
theorem atI_mem {l:List KV} (h:rises l) (k:List UInt8):((atI k l).2=true→(k,(l[(atI k l).1]?.getD ([],[])).2)∈l)∧((atI k l).2=false→∀ x∈l,x.1≠k):=by
 obtain ⟨X,Y,e,hX,hX2,hT,hF⟩:=atI_spec k l h;refine ⟨fun ht=> ?_,fun ht x hx hk=> ?_⟩
 ·obtain ⟨y,Y',rfl,hy⟩:=hT ht;rw [←hX];have e1:l[X.length]?=some y:=by rw [e]; simp
  rw [e1,Option.getD_some,e,←hy];simp
 ·rw [e,List.mem_append] at hx
  have:Op.bytesLess x.1 k=true∨Op.bytesLess k x.1=true:=hx.imp (hX2 x) (hF ht x)
  rw [hk,Nib.blt_irrefl] at this;simp at this
theorem rget_getW {t:T} (h:Good t) (k:List UInt8):rget (itemsW t) k=getW t k:=by
 unfold rget getW;have hm:=atI_mem (rises_itemsW h) k;by_cases hk:keyedW k
 ·rw [if_pos hk,if_pos hk];cases ht:(atI k (itemsW t)).2 with
  |true=>
   obtain ⟨e1,e2⟩:=(mem_itemsW h _ _).1 (hm.1 ht);rw [if_pos rfl,e1,if_neg (by simpa using e2)]
  |false=>
   have hl:look t (Nib.of k)= []:=by
    by_cases hl:look t (Nib.of k)= []
    ·exact hl
    ·exact absurd rfl (hm.2 ht _ ((mem_itemsW h k _).2 ⟨rfl,hl⟩))
   rw [if_neg (by simp),if_pos (by rw [hl]; rfl)]
 ·rw [if_neg hk,if_neg hk]
theorem cut_spec {l:List KV} (h:rises l) (k:List UInt8):∃ X Z,l.take (atI k l).1=X∧l.drop ((atI k l).1+if (atI k l).2 then 1 else 0)=Z∧rises (X++Z)∧(∀ x∈X,Op.bytesLess x.1 k=true)∧(∀ z∈Z,Op.bytesLess k z.1=true)∧∀ x,(x∈l∧x.1≠k)↔(x∈X∨x∈Z):=by
 obtain ⟨X,Y,e,hX,hX2,hT,hF⟩:=atI_spec k l h;have hs:=h;rw [e] at hs;obtain ⟨sX,sY,sXY⟩:=List.pairwise_append.1 hs;have e1:l.take (atI k l).1=X:=by rw [←hX,e,List.take_left]
 have irr:∀ x:KV,(Op.bytesLess x.1 k=true∨Op.bytesLess k x.1=true)→x.1≠k:=fun x hx hk=>by
  rw [hk,Nib.blt_irrefl] at hx; simp at hx
 cases ht:(atI k l).2 with
 |true=>
  obtain ⟨y,Y',rfl,hy⟩:=hT ht;obtain ⟨y1,y2⟩:=List.pairwise_cons.1 sY;have e2:l.drop ((atI k l).1+1)=Y':=by rw [←hX,e,List.drop_append]; simp
  have hY:∀ z∈Y',Op.bytesLess k z.1=true:=fun z hz=>by rw [←hy]; exact y1 z hz
  refine ⟨X,Y',e1,by rw [if_pos rfl]; exact e2,List.pairwise_append.2 ⟨sX,y2,fun a ha b hb=>sXY a ha b (by simp [hb])⟩,hX2,hY,fun x=>⟨?_,?_⟩⟩
  ·rintro ⟨hx,hne⟩;rw [e,List.mem_append,List.mem_cons] at hx;rcases hx with hx|rfl|hx
   ·exact .inl hx
   ·exact absurd hy hne
   ·exact .inr hx
  ·rintro (hx|hx)
   ·exact ⟨by rw [e]; simp [hx],irr x (.inl (hX2 x hx))⟩
   ·exact ⟨by rw [e]; simp [hx],irr x (.inr (hY x hx))⟩
 |false=>
  have e2:l.drop ((atI k l).1+0)=Y:=by rw [←hX,e,Nat.add_zero,List.drop_left]
  refine ⟨X,Y,e1,by rw [if_neg (by simp)]; exact e2,by rw [←e]; exact h,hX2,hF ht,fun x=>⟨?_,?_⟩⟩
  ·rintro ⟨hx,_⟩;rw [e,List.mem_append] at hx;exact hx
  ·rintro (hx|hx)
   ·exact ⟨by rw [e]; simp [hx],irr x (.inl (hX2 x hx))⟩
   ·exact ⟨by rw [e]; simp [hx],irr x (.inr (hF ht x hx))⟩
theorem rput_put {t:T} (h:Good t) (k v:List UInt8):(rput (itemsW t) k v).2=putCode k v∧(putCode k v=0→(rput (itemsW t) k v).1=itemsW (put t (Nib.of k) v)):=by
 unfold rput putCode;by_cases hk:keyedW k
 ·rw [if_pos hk,if_pos hk];by_cases hv:(v.isEmpty||decide (32<v.length))=true
  ·rw [if_pos hv,if_pos hv];exact ⟨rfl,fun e=>by cases e⟩
  ·rw [if_neg hv,if_neg hv];simp at hv
   refine ⟨rfl,fun _=> ?_⟩;obtain ⟨X,Z,e1,e2,hr,hX,hZ,hm⟩:=cut_spec (rises_itemsW h) k;rw [e1,e2];have hg:=h.put hk hv.1 hv.2;refine rises_ext _ _ ?_ (rises_itemsW hg) fun x=> ?_
   ·obtain ⟨r1,r2,r3⟩:=List.pairwise_append.1 hr;rw [List.append_assoc];refine List.pairwise_append.2 ⟨r1,List.pairwise_cons.2 ⟨fun z hz=>hZ z hz,r2⟩,fun a ha b hb=> ?_⟩;rcases List.mem_cons.1 hb with rfl|hb
    ·exact hX a ha
    ·exact r3 a ha b hb
   ·obtain ⟨xk,xv⟩:=x;rw [mem_itemsW hg,(put_spec t _ v h.wf (Nib.fit_of k) hv.1).2.1 _ (Nib.fit_of xk)];have h1:=hm (xk,xv);rw [mem_itemsW h] at h1;simp only [List.mem_append,List.mem_singleton,Prod.mk.injEq];by_cases e:xk=k
    ·subst e;rw [if_pos rfl];have h2:¬((xk,xv)∈X∨(xk,xv)∈Z):=fun h3=>(h1.2 h3).2 rfl
     constructor
     ·rintro ((hx|hx)|hx)
      ·exact absurd (.inl hx) h2
      ·exact ⟨hx.2.symm,by rw [hx.2]; exact hv.1⟩
      ·exact absurd (.inr hx) h2
     ·rintro ⟨e,_⟩;exact .inl (.inr ⟨rfl,e.symm⟩)
    ·rw [if_neg (fun h3=>e (Nib.of_inj h3))]
     constructor
     ·rintro ((hx|hx)|hx)
      ·exact (h1.2 (.inl hx)).1
      ·exact absurd hx.1 e
      ·exact (h1.2 (.inr hx)).1
     ·intro hx;rcases h1.1 ⟨hx,e⟩ with h3|h3
      ·exact .inl (.inl h3)
      ·exact .inr h3
 ·rw [if_neg hk,if_neg hk];exact ⟨rfl,fun e=>by cases e⟩
theorem rdel_del {t:T} (h:Good t) (k:List UInt8):(rdel (itemsW t) k).2=(getW t k).2∧((getW t k).2=0→(rdel (itemsW t) k).1=itemsW (del t (Nib.of k))):=by
 unfold rdel;rw [rget_getW h];by_cases hg:(getW t k).2=0
 ·rw [if_pos hg];refine ⟨hg.symm,fun _=> ?_⟩;obtain ⟨_,hl⟩:=getW_code hg;obtain ⟨X,Z,e1,e2,hr,hX,hZ,hm⟩:=cut_spec (rises_itemsW h) k;have ht:(atI k (itemsW t)).2=true:=by
   cases ht:(atI k (itemsW t)).2 with
   |true=>rfl
   |false=>exact absurd rfl ((atI_mem (rises_itemsW h) k).2 ht _ ((mem_itemsW h k _).2 ⟨rfl,hl⟩))
  rw [ht,if_pos rfl] at e2;rw [e1,e2];have hgd:=h.del hl;refine rises_ext _ _ hr (rises_itemsW hgd) fun x=> ?_;obtain ⟨xk,xv⟩:=x;rw [mem_itemsW hgd,(del_spec t _ h.wf (Nib.fit_of k) hl).2.1 _ (Nib.fit_of xk),List.mem_append,←hm,mem_itemsW h];by_cases e:xk=k
  ·subst e;rw [if_pos rfl]
   constructor
   ·rintro ⟨_,h2⟩; exact absurd rfl h2
   ·rintro ⟨e,h2⟩; exact absurd e.symm h2
  ·rw [if_neg (fun h3=>e (Nib.of_inj h3))];simp [e]
 ·rw [if_neg hg];exact ⟨rfl,fun e=>absurd e hg⟩
end Trie
namespace Ex
open Pw Trie
structure Tx where
 kind:Int
 frm:List UInt8
 seq:Int
 dst:List UInt8
 amt:Int
 key:List UInt8
 val:List UInt8
 mem:List Mem
def nameW (s:List UInt8):Bool:=decide (1≤s.length) && decide (s.length≤6)
abbrev maxA:Nat:=1099511627776
def bareX (x:Tx):Bool:=
 if x.kind=1 then x.key.isEmpty && x.val.isEmpty && x.mem.isEmpty
 else if x.kind=2 then x.dst.isEmpty && decide (x.amt=0) && x.mem.isEmpty
 else if x.kind=3 then x.dst.isEmpty && decide (x.amt=0) && x.mem.isEmpty && x.val.isEmpty
 else if x.kind=4 then x.dst.isEmpty && decide (x.amt=0) && (x.key.isEmpty && x.val.isEmpty)
 else false
def ownX (x:Tx):Bool:=
 if x.kind=1 then nameW x.dst && decide (1≤x.amt) && decide (x.amt≤1099511627776)
 else if x.kind=2 then decide (1≤x.val.length) && decide (x.val.length≤32) && (decide (1≤x.key.length) && decide (x.key.length≤6))
 else if x.kind=3 then decide (1≤x.key.length) && decide (x.key.length≤6)
 else okM x.mem
def headX (x:Tx):Bool:=nameW x.frm && decide (0≤x.seq) && decide (x.seq≤1099511627776)
def fineX (x:Tx):Bool:=bareX x && headX x && ownX x
def aKey (n:List UInt8):List UInt8:=97::58::n
def dKey (k:List UInt8):List UInt8:=100::58::k
def sKey:List UInt8:= [115]
def rootB:List UInt8:= [114,111,111,116]
def writA (p:Nat × Nat):List UInt8:=numW p.1++numW p.2
def parseA (v:List UInt8):Option (Nat × Nat):=
 if endS (numS (numS (v,0)).2).2=0∧(numS (v,0)).1≤maxA∧(numS (numS (v,0)).2).1≤maxA then some ((numS (v,0)).1,(numS (numS (v,0)).2).1) else none
theorem parseA_writA {a b:Nat} (ha:a≤maxA) (hb:b≤maxA):parseA (writA (a,b))=some (a,b):=by
 have h1:=numT_of a (by unfold maxA at ha; omega) (numW b);have h2:=numT_of b (by unfold maxA at hb; omega) [];rw [List.append_nil] at h2;have e1:numS (writA (a,b),0)=(a,(numW b,0)):=by
  unfold numS writA;rw [if_neg (by simp),h1,if_pos rfl]
 have e2:numS (numW b,0)=(b,([],0)):=by
  unfold numS;rw [if_neg (by simp),h2,if_pos rfl]
 unfold parseA;rw [e1];simp only
 rw [e2];simp only
 rw [if_pos ⟨rfl,ha,hb⟩]
theorem parseA_le {v:List UInt8} {p:Nat × Nat} (h:parseA v=some p):p.1≤maxA∧p.2≤maxA:=by
 unfold parseA at h
 split at h
 ·rename_i hc;injection h with h
  subst h;exact ⟨hc.2.1,hc.2.2⟩
 ·cases h
def acc (t:T) (n:List UInt8):Option (Nat × Nat):=if (getW t (aKey n)).2=0 then parseA (getW t (aKey n)).1 else some (0,0)
theorem acc_le {t:T} {n:List UInt8} {p:Nat × Nat} (h:acc t n=some p):p.1≤maxA∧p.2≤maxA:=by
 unfold acc at h
 split at h
 ·exact parseA_le h
 ·injection h with h; subst h; exact ⟨by simp,by simp⟩
def kindW (t:T) (x:Tx) (f tt:Nat × Nat):T × Nat × Nat:=
 if x.kind=1 then
  if (f.1:Int)<x.amt then (t,161,0)
  else if x.dst=x.frm then (t,0,f.1)
  else if (1099511627776:Int) - x.amt<tt.1 then (t,1,0)
  else (put t (Nib.of (aKey x.dst)) (writA (tt.1+x.amt.toNat,tt.2)),0,f.1 - x.amt.toNat)
 else if x.kind=2 then (put t (Nib.of (dKey x.key)) x.val,0,f.1)
 else if x.kind=3 then (if (getW t (dKey x.key)).2=0 then (del t (Nib.of (dKey x.key)),0,f.1) else (t,(getW t (dKey x.key)).2,0))
 else if x.frm=rootB then (put t (Nib.of sKey) (digM x.mem),0,f.1) else (t,162,0)
theorem kindW_1 {t:T} {x:Tx} {f tt:Nat × Nat} (k:x.kind=1):kindW t x f tt=if (f.1:Int)<x.amt then (t,161,0)
  else if x.dst=x.frm then (t,0,f.1)
  else if (1099511627776:Int) - x.amt<tt.1 then (t,1,0)
  else (put t (Nib.of (aKey x.dst)) (writA (tt.1+x.amt.toNat,tt.2)),0,f.1 - x.amt.toNat):=by unfold kindW; rw [if_pos k]
theorem kindW_2 {t:T} {x:Tx} {f tt:Nat × Nat} (k:x.kind=2):kindW t x f tt=(put t (Nib.of (dKey x.key)) x.val,0,f.1):=by unfold kindW; rw [if_neg (by omega),if_pos k]
theorem kindW_3 {t:T} {x:Tx} {f tt:Nat × Nat} (k:x.kind=3):kindW t x f tt=if (getW t (dKey x.key)).2=0 then (del t (Nib.of (dKey x.key)),0,f.1) else (t,(getW t (dKey x.key)).2,0):=by unfold kindW; rw [if_neg (show ¬x.kind=1 by omega),if_neg (show ¬x.kind=2 by omega),if_pos k]
theorem kindW_4 {t:T} {x:Tx} {f tt:Nat × Nat} (k:x.kind=4):kindW t x f tt=if x.frm=rootB then (put t (Nib.of sKey) (digM x.mem),0,f.1) else (t,162,0):=by unfold kindW; rw [if_neg (show ¬x.kind=1 by omega),if_neg (show ¬x.kind=2 by omega),if_neg (show ¬x.kind=3 by omega)]
def accTo (t:T) (x:Tx):Option (Nat × Nat):=if x.kind=1 then acc t x.dst else some (0,0)
def doW (t:T) (x:Tx):T × Nat:=
 if fineX x=false then (t,150) else
 match acc t x.frm,accTo t x with
 |some f,some tt=>
  if (f.2:Int)≠x.seq∨f.2=maxA then (t,160)
  else if (kindW t x f tt).2.1=0 then (put (kindW t x f tt).1 (Nib.of (aKey x.frm)) (writA ((kindW t x f tt).2.2,f.2+1)),0)
  else (t,(kindW t x f tt).2.1)
 |_,_=>(t,3)
theorem nameW_len {s:List UInt8} (h:nameW s=true):1≤s.length∧s.length≤6:=by
 simpa [nameW] using h
theorem keyed_a {n:List UInt8} (h:n.length≤6):keyedW (aKey n)=true:=by simp [keyedW,aKey]; omega
theorem keyed_d {n:List UInt8} (h:n.length≤6):keyedW (dKey n)=true:=by simp [keyedW,dKey]; omega
theorem keyed_s:keyedW sKey=true:=rfl
theorem writA_len {p:Nat × Nat} (h:p.1≤2000000000000) (h2:p.2≤2000000000000):1≤(writA p).length∧(writA p).length≤18:=by
 have a:=numW_len p.1 (by omega);have b:=numW_len p.2 (by omega);have c:1≤(numW p.1).length:=by unfold numW; simp
 simp only [writA,List.length_append];omega
theorem ne_nil_of {l:List UInt8} (h:1≤l.length):l≠ []:=by intro e; rw [e] at h; simp at h
theorem good_putA {t:T} (h:Trie.Good t) {n:List UInt8} (hn:n.length≤6) {p:Nat × Nat} (h1:p.1≤2000000000000) (h2:p.2≤2000000000000):Trie.Good (put t (Nib.of (aKey n)) (writA p)):=by
 obtain ⟨a,b⟩:=writA_len h1 h2;exact Trie.Good.put h (keyed_a hn) (ne_nil_of a) (by omega)
theorem putCode_a {n:List UInt8} (hn:n.length≤6) {p:Nat × Nat} (h1:p.1≤2000000000000) (h2:p.2≤2000000000000):putCode (aKey n) (writA p)=0:=by
 obtain ⟨a,b⟩:=writA_len h1 h2;unfold putCode;rw [if_pos (keyed_a hn),if_neg];simp only [Bool.or_eq_true,decide_eq_true_eq,List.isEmpty_iff,not_or];exact ⟨ne_nil_of a,by omega⟩
theorem putCode_v {k v:List UInt8} (hk:keyedW k=true) (h1:1≤v.length) (h2:v.length≤32):putCode k v=0:=by
 unfold putCode;rw [if_pos hk,if_neg];simp only [Bool.or_eq_true,decide_eq_true_eq,List.isEmpty_iff,not_or];exact ⟨ne_nil_of h1,by omega⟩
theorem fineX_spec {x : Tx} (h : fineX x = true) : nameW x.frm = true ∧ 0 ≤ x.seq ∧ x.seq ≤ 1099511627776 ∧
    ((x.kind = 1 ∧ nameW x.dst = true ∧ 1 ≤ x.amt ∧ x.amt ≤ 1099511627776 ∧ x.key = [] ∧ x.val = [] ∧ x.mem = []) ∨
     (x.kind = 2 ∧ x.dst = [] ∧ x.amt = 0 ∧ x.mem = [] ∧ 1 ≤ x.val.length ∧ x.val.length ≤ 32 ∧ 1 ≤ x.key.length ∧ x.key.length ≤ 6) ∨
     (x.kind = 3 ∧ x.dst = [] ∧ x.amt = 0 ∧ x.mem = [] ∧ x.val = [] ∧ 1 ≤ x.key.length ∧ x.key.length ≤ 6) ∨
     (x.kind = 4 ∧ x.dst = [] ∧ x.amt = 0 ∧ x.key = [] ∧ x.val = [] ∧ okM x.mem = true)) := by
  simp only [fineX, headX, Bool.and_eq_true, decide_eq_true_eq] at h
  obtain ⟨⟨hb, ⟨h1, h2⟩, h3⟩, ho⟩ := h
  refine ⟨h1, h2, h3, ?_⟩
  unfold bareX at hb
  unfold ownX at ho
  by_cases k1 : x.kind = 1
  · rw [if_pos k1] at hb ho
    simp only [Bool.and_eq_true, decide_eq_true_eq, List.isEmpty_iff] at hb ho
    exact .inl ⟨k1, ho.1.1, ho.1.2, ho.2, hb.1.1, hb.1.2, hb.2⟩
  rw [if_neg k1] at hb ho
  by_cases k2 : x.kind = 2
  · rw [if_pos k2] at hb ho
    simp only [Bool.and_eq_true, decide_eq_true_eq, List.isEmpty_iff] at hb ho
    exact .inr (.inl ⟨k2, hb.1.1, hb.1.2, hb.2, ho.1.1, ho.1.2, ho.2.1, ho.2.2⟩)
  rw [if_neg k2] at hb ho
  by_cases k3 : x.kind = 3
  · rw [if_pos k3] at hb ho
    simp only [Bool.and_eq_true, decide_eq_true_eq, List.isEmpty_iff] at hb ho
    exact .inr (.inr (.inl ⟨k3, hb.1.1.1, hb.1.1.2, hb.1.2, hb.2, ho.1, ho.2⟩))
  rw [if_neg k3] at hb ho
  by_cases k4 : x.kind = 4
  · rw [if_pos k4] at hb
    simp only [Bool.and_eq_true, decide_eq_true_eq, List.isEmpty_iff] at hb
    exact .inr (.inr (.inr ⟨k4, hb.1.1, hb.1.2, hb.2.1, hb.2.2, ho⟩))
  · rw [if_neg k4] at hb; cases hb
theorem kindW_good {t:T} (h:Trie.Good t) {x:Tx} (hx:fineX x=true) {f tt:Nat × Nat} (hf:f.1≤maxA) (ht:tt.1≤maxA∧tt.2≤maxA):
  Trie.Good (kindW t x f tt).1∧count (kindW t x f tt).1≤count t+1∧(kindW t x f tt).2.2≤maxA:=by
 obtain ⟨_,_,_,hk⟩:=fineX_spec hx;unfold maxA at *;unfold kindW;rcases hk with ⟨k,hto,ha1,ha2,_⟩|⟨k,_,_,_,v1,v2,q1,q2⟩|⟨k,_,_,_,_,q1,q2⟩|⟨k,_,_,_,_,hm⟩
 ·rw [if_pos k]
  split
  ·exact ⟨h,by simp,by simp⟩
  split
  ·exact ⟨h,by simp,hf⟩
  split
  ·exact ⟨h,by simp,by simp⟩
  rename_i h3;refine ⟨good_putA h (nameW_len hto).2 (by simp only; omega) (by simp only; omega),count_put _ _ _,by simp only; omega⟩
 ·rw [if_neg (by omega),if_pos k];exact ⟨Trie.Good.put h (keyed_d q2) (ne_nil_of v1) v2,count_put _ _ _,hf⟩
 ·rw [if_neg (by omega),if_neg (by omega),if_pos k]
  split
  ·rename_i hg;have hl:Trie.look t (Nib.of (dKey x.key))≠ []:=by
    intro e;unfold getW at hg;rw [if_pos (keyed_d q2),e] at hg;simp at hg
   refine ⟨Trie.Good.del h hl,?_,hf⟩
   have:=count_del t (Nib.of (dKey x.key)) h.wf (Nib.fit_of _) hl
   simp only; omega
  ·exact ⟨h,by simp,by simp⟩
 ·rw [if_neg (by omega),if_neg (by omega),if_neg (by omega)]
  split
  ·refine ⟨Trie.Good.put h keyed_s (ne_nil_of (by rw [digM_len hm]; omega)) (by rw [digM_len hm]; omega),count_put _ _ _,hf⟩
  ·exact ⟨h,by simp,by simp⟩
theorem doW_good {t:T} (h:Trie.Good t) (x:Tx):Trie.Good (doW t x).1∧count (doW t x).1≤count t+2:=by
 unfold doW
 split
 ·exact ⟨h,by simp⟩
 rename_i hx;have hx:fineX x=true:=by simpa using hx
 split
 ·rename_i f tt hf ht;have hle:tt.1≤maxA∧tt.2≤maxA:=by
   unfold accTo at ht
   split at ht
   ·exact acc_le ht
   ·injection ht with ht; subst ht; exact ⟨by simp,by simp⟩
  obtain ⟨g1,g2,g3⟩:=kindW_good h hx (acc_le hf).1 hle;have hs:=(acc_le hf).2;unfold maxA at g3 hs
  split
  ·exact ⟨h,by simp⟩
  split
  ·refine ⟨good_putA g1 (nameW_len (fineX_spec hx).1).2 (by simp only; omega) (by simp only; omega),?_⟩
   have:=count_put (kindW t x f tt).1 (Nib.of (aKey x.frm)) (writA ((kindW t x f tt).2.2,f.2+1))
   simp only; omega
  ·exact ⟨h,by simp⟩
 ·exact ⟨h,by simp⟩
abbrev Rc:=Int × List UInt8 × Int
abbrev Ac:=List UInt8 × Int × Int
def okA (a:Ac):Bool:=nameW a.1 && (decide (0≤a.2.1) && decide (a.2.1≤1099511627776)) && (decide (0≤a.2.2) && decide (a.2.2≤1099511627776))
def genA:T→List Ac→T × Nat
 |t,[]=>(t,0)
 |t,a::r=>if okA a=false then (t,1) else if (getW t (aKey a.1)).2=0 then (t,6) else genA (put t (Nib.of (aKey a.1)) (writA (a.2.1.toNat,a.2.2.toNat))) r
def genW (l:List Ac) (set:List Mem):T × Nat:=
 if 8<l.length then (.nil,2) else if (genA .nil l).2≠0 then (.nil,(genA .nil l).2) else if okM set=false then (.nil,50)
 else (put (genA .nil l).1 (Nib.of sKey) (digM set),0)
theorem okA_spec {a:Ac} (h:okA a=true):nameW a.1=true∧0≤a.2.1∧a.2.1≤1099511627776∧0≤a.2.2∧a.2.2≤1099511627776:=by
 simp only [okA,Bool.and_eq_true,decide_eq_true_eq] at h;exact ⟨h.1.1,h.1.2.1,h.1.2.2,h.2.1,h.2.2⟩
theorem genA_good:∀ (l:List Ac) (t:T),Trie.Good t→Trie.Good (genA t l).1∧count (genA t l).1≤count t+l.length
 | [],t,h=>⟨h,by simp [genA]⟩
 |a::r,t,h=>by
  simp only [genA]
  split
  ·exact ⟨h,by simp⟩
  rename_i ha;obtain ⟨a1,a2,a3,a4,a5⟩:=okA_spec (a:=a) (by simpa using ha)
  split
  ·exact ⟨h,by simp⟩
  obtain ⟨g1,g2⟩:=genA_good r _ (good_putA (t:=t) h (nameW_len a1).2 (p:=(a.2.1.toNat,a.2.2.toNat)) (by simp only; omega) (by simp only; omega))
  have:=count_put t (Nib.of (aKey a.1)) (writA (a.2.1.toNat,a.2.2.toNat))
  exact ⟨g1,by simp only [List.length_cons]; omega⟩
theorem genW_good (l:List Ac) (set:List Mem):Trie.Good (genW l set).1∧count (genW l set).1≤9:=by
 unfold genW
 split
 ·exact ⟨Trie.Good.nil,by simp [count]⟩
 split
 ·exact ⟨Trie.Good.nil,by simp [count]⟩
 split
 ·exact ⟨Trie.Good.nil,by simp [count]⟩
 rename_i h1 _ hm;have hm:okM set=true:=by simpa using hm
 obtain ⟨g1,g2⟩:=genA_good l .nil Trie.Good.nil;refine ⟨Trie.Good.put g1 keyed_s (ne_nil_of (by rw [digM_len hm]; omega)) (by rw [digM_len hm]; omega),?_⟩
 have:=count_put (genA .nil l).1 (Nib.of sKey) (digM set)
 simp only [count] at g2;simp only; omega
end Ex
def listW (l:List (List UInt8)):List UInt8:=numW l.length++(l.map textW).flatten
theorem listW_len (k:Nat) (hk:k≤1000000):∀ (l:List (List UInt8)),(∀ s∈l,s.length≤k)→(l.map textW).flatten.length≤(k+9)*l.length
 | [],_=>by simp
 |x::l,h=>by
  have ih:=listW_len k hk l fun s hs=>h s (by simp [hs]);have h1:=h x (by simp);have h2:=numW_len x.length (by omega);have e:(k+9)*(l.length+1)=(k+9)*l.length+(k+9):=by rw [Nat.mul_add,Nat.mul_one]
  simp only [List.map_cons,List.flatten_cons,List.length_append,List.length_cons,textW];omega
namespace Ex
open Pw Trie
def bodyX (x:Tx):List UInt8:=if x.kind=1 then textW x.dst++numW x.amt.toNat else if x.kind=2 then textW x.key++textW x.val else if x.kind=3 then textW x.key else textW (encM x.mem)
def writX (x:Tx):List UInt8:=UInt8.ofNat x.kind.toNat::(textW x.frm++numW x.seq.toNat)++bodyX x
def rootX (l:List Tx):List UInt8:=shaW (3::listW (l.map writX))
theorem text_le {s:List UInt8} {k:Nat} (h:s.length≤k) (hk:k≤1000000):(textW s).length≤k+9:=by
 have:=numW_len s.length (by omega)
 simp only [textW,List.length_append];omega
theorem writX_len {x:Tx} (h:fineX x=true):(writX x).length≤300:=by
 obtain ⟨h1,h2,h3,h4⟩:=fineX_spec h;have a:=text_le (nameW_len h1).2 (by omega);have b:=numW_len x.seq.toNat (by omega);have c:(bodyX x).length≤240:=by
  unfold bodyX;rcases h4 with ⟨k,hn,a1,a2,_⟩|⟨k,_,_,_,v1,v2,q1,q2⟩|⟨k,_,_,_,_,q1,q2⟩|⟨k,_,_,_,_,hm⟩
  ·rw [if_pos k]
   have:=text_le (nameW_len hn).2 (by omega)
   have:=numW_len x.amt.toNat (by omega)
   simp only [List.length_append]; omega
  ·rw [if_neg (by omega),if_pos k]
   have:=text_le v2 (by omega)
   have:=text_le q2 (by omega)
   simp only [List.length_append]; omega
  ·rw [if_neg (by omega),if_neg (by omega),if_pos k]
   have:=text_le q2 (by omega)
   omega
  ·rw [if_neg (by omega),if_neg (by omega),if_neg (by omega)]
   have:=text_le (encM_len hm) (by omega)
   omega
 simp only [writX,List.length_append,List.length_cons];omega
theorem rootX_len (l:List Tx):(rootX l).length=32:=shaW_length _
theorem listX_len {l:List Tx} (h:∀ x∈l,fineX x=true) (h8:l.length≤8):(listW (l.map writX)).length≤3000:=by
 have:=listW_len 300 (by omega) (l.map writX) (by intro s hs; obtain ⟨x,hx,rfl⟩:=List.mem_map.1 hs; exact writX_len (h x hx))
 have:=numW_len (l.map writX).length (by rw [List.length_map]; omega)
 rw [List.length_map] at *;unfold listW;rw [List.length_append,List.length_map];omega
def noRoom (t:T) (k:List UInt8):Bool:=decide (1024≤count t) && decide ((getW t k).2≠0)
def keyX (x:Tx):Option (List UInt8):=if x.kind=1 then (if x.dst=x.frm then none else some (aKey x.dst)) else if x.kind=2 then some (dKey x.key) else if x.kind=3 then none else some sKey
def midW (t:T) (x:Tx):T:=match acc t x.frm,accTo t x with
 |some f,some tt=>(kindW t x f tt).1
 |_,_=>t
def full1 (t:T) (x:Tx):Bool:=match keyX x with
 |some k=>noRoom t k
 |none=>false
def doL (t:T) (x:Tx):T × Nat:=
 if (doW t x).2≠0 then (t,(doW t x).2) else if full1 t x=true then (t,2) else if noRoom (midW t x) (aKey x.frm)=true then (t,2) else ((doW t x).1,0)
theorem doL_no {t:T} {x:Tx} {c:Nat} (h:(doW t x).2=c) (hc:c≠0):doL t x=(t,c):=by unfold doL; rw [if_pos (by omega),h]
theorem doL_one {t:T} {x:Tx} (h:(doW t x).2=0) (h1:full1 t x=true):doL t x=(t,2):=by unfold doL; rw [if_neg (by omega),if_pos h1]
theorem doL_two {t:T} {x:Tx} (h:(doW t x).2=0) (h1:full1 t x=false):doL t x=if noRoom (midW t x) (aKey x.frm)=true then (t,2) else ((doW t x).1,0):=by
 unfold doL; rw [if_neg (by omega),if_neg (by rw [h1]; decide)]
theorem putCode_keyed {k v:List UInt8} (h:putCode k v=0):keyedW k=true∧¬(v.isEmpty||decide (32<v.length))=true:=by
 unfold putCode at h;by_cases hk:keyedW k=true
 ·rw [if_pos hk] at h;refine ⟨hk,fun e=> ?_⟩;rw [if_pos e] at h;cases h
 ·rw [if_neg hk] at h; cases h
theorem len_itemsW (t:T):(itemsW t).length=count t:=by rw [itemsW,List.length_map,length_items]
theorem put_room {t:T} (hg:Trie.Good t) (h:count t≤1024) {k v:List UInt8} (hp:putCode k v=0) (hn:noRoom t k=false):count (put t (Nib.of k) v)≤1024:=by
 by_cases hc:count t<1024
 ·have:=count_put t (Nib.of k) v
  omega
 obtain ⟨hk,hv⟩:=putCode_keyed hp;have hg0:(getW t k).2=0:=by simpa [noRoom,decide_eq_true (show 1024≤count t by omega)] using hn
 have hat:(atI k (itemsW t)).2=true:=by
  have hr:=rget_getW hg k;unfold rget at hr;rw [if_pos hk] at hr;by_cases ht:(atI k (itemsW t)).2=true
  ·exact ht
  ·rw [if_neg ht] at hr;rw [←hr] at hg0;cases hg0
 have hle:=(atI_le k (itemsW t)).2 hat;have hl:=congrArg List.length ((rput_put hg k v).2 hp);rw [len_itemsW] at hl hle;rw [←hl];unfold rput;rw [if_pos hk,if_neg hv];simp only [hat,if_true,List.length_append,List.length_take,List.length_drop,List.length_cons,List.length_nil,len_itemsW];omega
theorem mid_room {t:T} (hg:Trie.Good t) (h:count t≤1024) {x:Tx} (hx:fineX x=true) {f tt:Nat × Nat} (hf:f.1≤maxA) (ht:tt.1≤maxA∧tt.2≤maxA) (hn:full1 t x=false):count (kindW t x f tt).1≤1024:=by
 obtain ⟨_,_,_,hk⟩:=fineX_spec hx;unfold maxA at *;unfold full1 keyX at hn;unfold kindW;rcases hk with ⟨k,hto,ha1,ha2,_⟩|⟨k,_,_,_,v1,v2,q1,q2⟩|⟨k,_,_,_,_,q1,q2⟩|⟨k,_,_,_,_,hm⟩
 ·rw [if_pos k] at hn ⊢
  split
  ·exact h
  split
  ·exact h
  rename_i hd;rw [if_neg hd] at hn
  split
  ·exact h
  rename_i h3;exact put_room hg h (putCode_a (nameW_len hto).2 (by simp only; omega) (by simp only; omega)) hn
 ·rw [if_neg (by omega),if_pos k] at hn ⊢;exact put_room hg h (putCode_v (keyed_d q2) v1 v2) hn
 ·rw [if_neg (by omega),if_neg (by omega),if_pos k]
  split
  ·rename_i hgt;have hl:Trie.look t (Nib.of (dKey x.key))≠ []:=by
    intro e;unfold getW at hgt;rw [if_pos (keyed_d q2),e] at hgt;simp at hgt
   have:=count_del t (Nib.of (dKey x.key)) hg.wf (Nib.fit_of _) hl
   simp only; omega
  ·exact h
 ·rw [if_neg (by omega),if_neg (by omega),if_neg (by omega)] at hn ⊢
  split
  ·exact put_room hg h (putCode_v keyed_s (by rw [digM_len hm]; omega) (by rw [digM_len hm]; omega)) hn
  ·exact h
theorem doL_good {t:T} (hg:Trie.Good t) (h:count t≤1024) (x:Tx):Trie.Good (doL t x).1∧count (doL t x).1≤1024:=by
 unfold doL
 split
 ·exact ⟨hg,h⟩
 rename_i h0;have h0:(doW t x).2=0:=by omega
 split
 ·exact ⟨hg,h⟩
 rename_i h1;have h1:full1 t x=false:=by simpa using h1
 split
 ·exact ⟨hg,h⟩
 rename_i h2;have h2:noRoom (midW t x) (aKey x.frm)=false:=by simpa using h2
 refine ⟨(doW_good hg x).1,?_⟩;unfold midW at h2;unfold doW at h0 ⊢;by_cases hx:fineX x=true;rotate_left
 ·rw [if_pos (by simpa using hx)] at h0;cases h0
 rw [if_neg (by rw [hx]; decide)] at h0 ⊢;cases hf:acc t x.frm with
 |none=>rw [hf] at h0; cases h0
 |some f=>
 cases ht:accTo t x with
 |none=>rw [hf,ht] at h0; cases h0
 |some tt=>
 rw [hf,ht] at h0 h2;simp only at h0 h2 ⊢;have hle:tt.1≤maxA∧tt.2≤maxA:=by
  unfold accTo at ht
  split at ht
  ·exact acc_le ht
  ·injection ht with ht; subst ht; exact ⟨by simp,by simp⟩
 obtain ⟨g1,g2,g3⟩:=kindW_good hg hx (acc_le hf).1 hle;have g4:=mid_room hg h hx (acc_le hf).1 hle h1;have hs:=(acc_le hf).2;unfold maxA at g3 hs
 split at h0
 ·cases h0
 rename_i hq;rw [if_neg hq]
 split at h0
 ·rename_i hk;rw [if_pos hk];exact put_room g1 g4 (putCode_a (nameW_len (fineX_spec hx).1).2 (by simp only; omega) (by simp only; omega)) h2
 ·rename_i hk;exact absurd h0 hk
def allGoL : T → List Tx → List Mem → T × List Rc × List Mem
  | t, [], m => (t, [], m)
  | t, x :: r, m =>
    ((allGoL (doL t x).1 r (if (doL t x).2 = 0 ∧ x.kind = 4 then x.mem else m)).1,
     (((doL t x).2 : Int), x.frm, x.seq) :: (allGoL (doL t x).1 r (if (doL t x).2 = 0 ∧ x.kind = 4 then x.mem else m)).2.1,
     (allGoL (doL t x).1 r (if (doL t x).2 = 0 ∧ x.kind = 4 then x.mem else m)).2.2)
theorem allGoL_good:∀ (l:List Tx) (t:T) (m:List Mem),Trie.Good t→count t≤1024→Trie.Good (allGoL t l m).1∧count (allGoL t l m).1≤1024∧(allGoL t l m).2.1.length=l.length
 | [],t,m,h,hc=>⟨h,hc,rfl⟩
 |x::r,t,m,h,hc=>by
  obtain ⟨h1,h2⟩:=doL_good h hc x;obtain ⟨h3,h4,h5⟩:=allGoL_good r _ (if (doL t x).2=0∧x.kind=4 then x.mem else m) h1 h2;refine ⟨h3,h4,?_⟩;simp only [allGoL,List.length_cons,h5]
theorem allGoL_next:∀ (l:List Tx) (t:T) (m:List Mem),(∀ x∈l,fineX x=true)→(m= []∨okM m=true)→(allGoL t l m).2.2= []∨okM (allGoL t l m).2.2=true
 | [],t,m,h,hm=>hm
 |x::r,t,m,h,hm=>by
  simp only [allGoL];refine allGoL_next r _ _ (fun y hy=>h y (by simp [hy])) ?_
  split
  ·rename_i hc;obtain ⟨_,_,_,hk⟩:=fineX_spec (h x (by simp));rcases hk with ⟨k,_⟩|⟨k,_⟩|⟨k,_⟩|⟨k,_,_,_,_,hmm⟩
   ·omega
   ·omega
   ·omega
   ·exact .inr hmm
  ·exact hm
def allL (t:T) (l:List Tx):(T × List Rc × List Mem) × Nat:=
 if 8<l.length then ((.nil,[],[]),2) else if l.all fineX=false then ((.nil,[],[]),150) else (allGoL t l [],0)
theorem allL_ok {t:T} {l:List Tx} (h:(allL t l).2=0):l.length≤8∧(∀ x∈l,fineX x=true)∧allL t l=(allGoL t l [],0):=by
 unfold allL at h ⊢
 split at h
 ·cases h
 rename_i h8
 split at h
 ·cases h
 rename_i hf;rw [if_neg h8,if_neg hf];exact ⟨by omega,by simpa using hf,rfl⟩
end Ex
section
open Go.RowKit Go.Instr
attribute [local go_sem] ba_get ByteArray.mk_append_mk
theorem item_cells {w:World} {B:Nat} {A:Option Addr} {l:List Trie.KV} (h:Reads w B 2 A l.length (icells l)) {i:Nat} (hi:i<l.length):
  ∃ ad off,A=some ⟨ad,off,none⟩∧ad<B∧∀ w',Below B w w'→w'.cell? ⟨ad,off+i*2,none⟩=some (.string ⟨l[i].1.toArray⟩)∧w'.cell? ⟨ad,off+i*2+1,none⟩=some (.string ⟨l[i].2.toArray⟩):=by
 obtain ⟨ad,off,rfl,hbl,hcell⟩:=h.form (by omega) (by omega);have ic:=icells_at hi;have hil:=icells_length l;have e0:(icells l)[2*i]'(by omega)= .string ⟨l[i].1.toArray⟩:=by
  have:=ic.1; rw [List.getElem?_eq_getElem (by omega)] at this; exact Option.some.inj this
 have e1:(icells l)[2*i+1]'(by omega)= .string ⟨l[i].2.toArray⟩:=by
  have:=ic.2; rw [List.getElem?_eq_getElem (by omega)] at this; exact Option.some.inj this
 refine ⟨ad,off,rfl,hbl,fun w' hb=>⟨?_,?_⟩⟩
 ·have q0:=hcell (2*i) (by omega);rw [e0] at q0;rw [show i*2=2*i by omega];exact (hb.cell (p:=⟨ad,off+2*i,none⟩) hbl).trans q0
 ·have q1:=hcell (2*i+1) (by omega);rw [e1] at q1;rw [show off+i*2+1=off+(2*i+1) by omega];exact (hb.cell (p:=⟨ad,off+(2*i+1),none⟩) hbl).trans q1
theorem ref10_Keyed (key:List UInt8) (hl:key.length≤9223372036854775807) (w:World):
  Calls Tryz.prog 149 #[key] w fun e w'=>e= .returned (.bool (Trie.keyedW key))∧w=w':=by
 by_cases h0:key= []
 ·subst h0;go_enter Tryz.func149,Tryz.ntmps149
  go_wp2
  go_ret
  exact ⟨rfl,rfl⟩
 ·have h1:1≤key.length:=List.length_pos_iff.2 h0;have hR:Hid (Trie.keyedW key=decide ((key.length:Int)≤8)):=ι (by
   rw [Trie.keyedW,Bool.eq_iff_iff]; simp [h0]; omega)
  have h2:(1:Int)≤key.length:=by omega
  by_cases h8:key.length≤8
  ·have h3:(key.length:Int)≤8:=by omega
   have hR2:=ι (hR.out.trans (decide_eq_true h3));clear h0 hR;go_enter Tryz.func149,Tryz.ntmps149
   go_wp2
   go_ret
   exact ⟨ret_bool hR2.out.symm,rfl⟩
  ·have h3:((key.length:Int)≤8)=False:=by simp; omega
   have hR2:=ι (hR.out.trans (decide_eq_false (by simp [h3])));clear h0 hR;go_enter Tryz.func149,Tryz.ntmps149
   go_wp2
   go_ret
   exact ⟨ret_bool hR2.out.symm,rfl⟩
def AtIEnd (w:World) (l:List Trie.KV) (key:List UInt8) (e:Ending) (w':World):Prop:=e= .returned (.tuple #[.int .i64 ((Trie.atI key l).1:Nat),.bool (Trie.atI key l).2])∧Below w.heap.size w w'
theorem ref10_At (w:World) (A:Option Addr) (c:Nat) (l:List Trie.KV) (HR:Reads w w.heap.size 2 A l.length (icells l)) (hl:l.length≤2000) (key:List UInt8):
  Calls Tryz.prog 101 #[.slice A l.length c,key] w (AtIEnd w l key):=by
 have HE:Hid (∀ i b,Trie.atI key l=(i,b)→∀ w',Below w.heap.size w w'→AtIEnd w l key (.returned (.tuple #[.int .i64 (i:Nat),b])) w'):=ι (by
  intro i b e w' hb;unfold AtIEnd;rw [e];exact ⟨rfl,hb⟩)
 generalize AtIEnd w l key=P at HE ⊢;have HRR:=ι HR;clear HR;go_enter Tryz.func101,Tryz.ntmps101
 go_wp2
 refine wp_loop_ghost_k (fun k a wr=>∀ Φ:Act→Prop,(∀ ⦃s2 s3 s4 s5 s7 s8 s9 a0 a2 a3 a4 a5 a6 a7 a8 a9 b0 b1 b2 b3 b4 b5 b6 b7 b8 b9 c0:Value⦄ (i:Nat),(i+k=l.length∧Trie.atI key l=(i+(Trie.atI key (l.drop i)).1,(Trie.atI key (l.drop i)).2)∧Below w.heap.size w wr)→Φ {tmps:=#[.slice A l.length c,.string ⟨key.toArray⟩,s2,s3,s4,s5,.int .i64 i,s7,s8,s9,a0,a2,a3,a4,a5,a6,a7,a8,a9,b0,b1,b2,b3,b4,b5,b6,b7,b8,b9,c0],defers:= []})→Φ a) (l.length) ?_ ?_
 ·refine fun Φ hΦ=>hΦ (0) ?_;exact ⟨by omega,by simp,by go_grown⟩
 ·intro k1 a1 wr1 hI1 J1 K1 hJ1 hK1;refine hI1 (fun a=>Code.wp _ _ _ a _) ?_;clear hI1 a1;intro s0 s1 s2 s3 s4 s5 s6 s7 s8 s9 a0 a2 a3 a4 a5 a6 a7 a8 a9 b0 b1 b2 b3 b4 b5 b6 b7 i hrel
  show Code.wp _ _ _ _ _;obtain ⟨h1,h2,hb⟩:=hrel;by_cases hi:i<l.length
  ·obtain ⟨ad,off,rfl,hbl,hcell⟩:=item_cells HRR.out hi;obtain ⟨q0,q1⟩:=hcell _ hb;obtain ⟨s1,s2⟩:=Trie.atI_step key l i hi h2;have hi1:(i:Int)<l.length:=by omega
   have hi0:(0:Int)≤i:=by omega
   have HI:=ι h1;have HB:=ι hb;clear hcell h2 h1 hb;generalize l[i]=x at *;obtain ⟨xk,xv⟩:=x;simp only at q0 q1 s1 s2;cases e3:Op.bytesLess xk key with
   |true=>
    have T:=ι (s1 e3);clear s1 s2;have e4:=bl_asymm _ _ e3;have e5:(xk==key)=false:=by
     simp only [beq_eq_false_iff_ne,ne_eq]; intro e; subst e; rw [bl_irrefl] at e3; cases e3
    go_wp2
    refine Handed.intro (l.length - (i+1)) ?_ (hJ1 _ _ _ (fun Φ hΦ=>hΦ (i+1) ?_))
    ·have:=HI.out
     omega
    ·have:=HI.out
     exact ⟨by omega,T.out,HB.out⟩
   |false=>
    have T:=ι (HE.out i _ (s2 e3));clear s1 s2 HE;by_cases e4:xk=key
    ·subst e4;rw [decide_eq_true rfl] at T;go_wp2
     go_quiet (fail)
     go_wp2
     exact T.out _ (below_drewN HB.out _)
    ·have e5:(xk==key)=false:=by simp [e4]
     have e6:=bl_gt e3 (fun e=>e4 e.symm);rw [decide_eq_false e4] at T;clear e4;go_wp2
     go_quiet (fail)
     go_wp2
     exact T.out _ (below_drewN HB.out _)
  ·have hi2:((i:Int)<l.length)=False:=by simp; omega
   have e:l.drop i= []:=List.drop_eq_nil_of_le (by omega);rw [e] at h2;have e3:i=l.length:=by omega
   have T:=ι (HE.out l.length false (by rw [h2,e3]; rfl));have HB:=ι hb;clear h2 e HE hb;go_wp2
   exact T.out _ HB.out
theorem icells_take:∀ (l:List Trie.KV) (i:Nat),icells (l.take i)=(icells l).take (i*2)
 | [],i=>by simp [icells]
 |x::l,0=>by simp [icells]
 |x::l,i+1=>by
  rw [List.take_succ_cons,show icells (x::l.take i)= .string ⟨x.1.toArray⟩:: .string ⟨x.2.toArray⟩::icells (l.take i) from rfl,show icells (x::l)= .string ⟨x.1.toArray⟩:: .string ⟨x.2.toArray⟩::icells l from rfl,icells_take l i,show (i+1)*2=i*2+1+1 by omega,List.take_succ_cons,List.take_succ_cons]
theorem icells_drop:∀ (l:List Trie.KV) (i:Nat),icells (l.drop i)=(icells l).drop (i*2)
 | [],i=>by simp [icells]
 |x::l,0=>by simp
 |x::l,i+1=>by
  rw [List.drop_succ_cons,show icells (x::l)= .string ⟨x.1.toArray⟩:: .string ⟨x.2.toArray⟩::icells l from rfl,icells_drop l i,show (i+1)*2=i*2+1+1 by omega,List.drop_succ_cons,List.drop_succ_cons]
theorem icells_append (a b:List Trie.KV):icells (a++b)=icells a++icells b:=by simp [icells]
theorem icells_one (l:List Trie.KV):∀ u∈icells l,u.oneCell'=true:=by
 intro u hu;simp only [icells,List.mem_flatMap] at hu;obtain ⟨x,_,hu⟩:=hu;simp at hu
 rcases hu with rfl|rfl<;>rfl
theorem it_size (w:World):(sizeOf 218).run Tryz.prog w= .ok 2 w:=by
 go_simp
 try rfl
theorem it_elem:Program.elem Tryz.prog 44=218:=by kernel_rfl
theorem it_under:Tryz.prog.underlying 44=some (.slice (Tryz.prog.elem 44)):=by rw [it_elem]; exact Tryz.underlying44
theorem it_cut_to (A:Option Addr) (l:List Trie.KV) (n c i:Nat) (hn:l.length=n) (hi:i≤n) (hc:n≤c):
  ∃ A1 c1,(∀ w,(Instr.sliceAt 44 (.slice A n c) none (some (.int .i64 (i:Int))) none).run Tryz.prog w= .ok (.slice A1 i c1) w)∧∀ w B,Reads w B 2 A n (icells l)→Reads w B 2 A1 i (icells (l.take i)):=by
 refine ⟨if c=0 then A else A.map (·.add (0*2)),c - 0,fun w=> ?_,fun w B hr=>⟨by rw [icells_length,List.length_take]; omega,fun hp=> ?_⟩⟩
 ·rw [run_sliceAt_slice _ _ _ _ _ _ it_under,run_slice_h _ _ _ _ _ it_under _ _ (by omega) (by omega)];rw [it_elem,it_size w];rfl
 ·obtain ⟨ad,rfl,hb,hcell⟩:=hr.2 (by omega);rw [if_neg (by omega)];refine ⟨ad,by simp [Addr.add],hb,fun j u hu=>hcell j u ?_⟩;rw [icells_take] at hu;have hj:j<i*2:=by
   have:=(List.getElem?_eq_some_iff.1 hu).1
   rw [List.length_take] at this;omega
  rw [List.getElem?_take_of_lt hj] at hu;exact hu
theorem it_cut_from (A:Option Addr) (l:List Trie.KV) (n c i:Nat) (hn:l.length=n) (hi:i≤n) (hc:n≤c):
  ∃ A1 c1,(∀ w,(Instr.sliceAt 44 (.slice A n c) (some (.int .i64 (i:Int))) none none).run Tryz.prog w= .ok (.slice A1 (n - i) c1) w)∧∀ w B,Reads w B 2 A n (icells l)→Reads w B 2 A1 (n - i) (icells (l.drop i)):=by
 refine ⟨if c=i then A else A.map (·.add (i*2)),c - i,fun w=> ?_,fun w B hr=> ?_⟩
 ·rw [run_sliceAt_slice _ _ _ _ _ _ it_under,run_slice_l _ _ _ _ _ it_under _ _ (by omega) (by omega)];rw [it_elem,it_size w];rfl
 ·rw [icells_drop];exact hr.cut hi hc
theorem ref10_Get (w:World) (A:Option Addr) (c:Nat) (l:List Trie.KV) (HR:Reads w w.heap.size 2 A l.length (icells l)) (hl:l.length≤2000) (key:List UInt8) (hk:key.length≤9223372036854775807):
  Calls Tryz.prog 194 #[.slice A l.length c,key] w (TGetEnd w (Trie.rget l key)):=by
 have HP:Hid (∀ r w',Trie.rget l key=r→Below w.heap.size w w'→TGetEnd w (Trie.rget l key) (.returned (.tuple #[r.1,r.2])) w'):=ι (fun b w' h1 h2=>⟨by rw [h1],h2⟩);generalize TGetEnd w (Trie.rget l key)=P at HP ⊢;have HKy:=ι (ref10_Keyed key hk w);have HA:=ι (ref10_At w A c l HR hl key);have hat:=Trie.atI_le key l;have HRR:=ι HR;clear HR;cases hkey:Trie.keyedW key with
 |false=>
  have HR:Hid (Trie.rget l key=([],1)):=ι (by simp [Trie.rget,hkey]);rw [hkey] at HKy;clear hkey hat;go_enter Tryz.func194,Tryz.ntmps194
  go_wp2_with (go_at_call 149; refine HKy.out.mono ?_; rintro e w1 ⟨rfl,rfl⟩)
  exact HP.out _ _ HR.out (Below.refl _ _)
 |true=>
  rw [hkey] at HKy;cases ht:(Trie.atI key l).2 with
  |false=>
   have HR:Hid (Trie.rget l key=([],5)):=ι (by simp [Trie.rget,hkey,ht]);unfold AtIEnd at HA;rw [ht] at HA;clear hkey hat ht;generalize (Trie.atI key l).1=i at *;go_enter Tryz.func194,Tryz.ntmps194
   go_wp2_with (first|(go_at_call 149; refine HKy.out.mono ?_; rintro e w1 ⟨rfl,rfl⟩)|(go_at_call 101; refine HA.out.mono ?_; rintro e w2 ⟨rfl,hb⟩))
   exact HP.out _ _ HR.out hb
  |true=>
   have hi:=hat.2 ht;have HR:Hid (Trie.rget l key=((l[(Trie.atI key l).1]'hi).2,0)):=ι (by simp [Trie.rget,hkey,ht,hi]);unfold AtIEnd at HA;rw [ht] at HA;clear hkey hat ht;generalize (Trie.atI key l).1=i at *;obtain ⟨ad,off,rfl,hbl,hcell⟩:=item_cells HRR.out hi;have HC:=ι hcell;have hi1:(i:Int)<l.length:=by omega
   have hi0:(0:Int)≤i:=by omega
   clear hcell;generalize l[i]=x at *;go_enter Tryz.func194,Tryz.ntmps194
   go_wp2_with (first|(go_at_call 149; refine HKy.out.mono ?_; rintro e w1 ⟨rfl,rfl⟩)|(go_at_call 101; refine HA.out.mono ?_; rintro e w2 ⟨rfl,hb⟩; obtain ⟨q0,q1⟩:=HC.out _ hb))
   exact HP.out _ _ HR.out hb
def PutIEnd (w:World) (r:List Trie.KV × Nat) (e:Ending) (w':World):Prop:=
 ∃ A n c,e= .returned (.tuple #[.slice A n c,r.2])∧n=r.1.length∧n≤c∧w'.ownsRow w.heap.size 218 2 (.slice A n c) n (icells r.1)∧Below w.heap.size w w'
theorem ref10_PutR (w:World) (A:Option Addr) (c:Nat) (l:List Trie.KV) (HR:Reads w w.heap.size 2 A l.length (icells l)) (hc:l.length≤c) (hl:l.length≤1024) (key value:List UInt8) (hk:key.length≤9223372036854775807) (hv:value.length≤9223372036854775807) (hroom:(Trie.atI key l).2=false→l.length<1024):
  Calls Tryz.prog 102 #[.slice A l.length c,key,value] w (PutIEnd w (Trie.rput l key value)):=by
 have HP:Hid (∀ l2 c2,Trie.rput l key value=(l2,c2)→∀ A n c w',n=l2.length→n≤c→w'.ownsRow w.heap.size 218 2 (.slice A n c) n (icells l2)→Below w.heap.size w w'→PutIEnd w (Trie.rput l key value) (.returned (.tuple #[.slice A n c,.int .i64 (c2:Nat)])) w'):=ι (by
  intro l2 c2 e A n c w' h1 h2 h3 h4;unfold PutIEnd;rw [e];exact ⟨A,n,c,rfl,h1,h2,h3,h4⟩)
 generalize PutIEnd w (Trie.rput l key value)=P at HP ⊢;have HKy:=ι (ref10_Keyed key hk w);have HA:=ι (ref10_At w A c l HR (by omega) key);have hat:=Trie.atI_le key l;have HRR:=ι HR;obtain ⟨i0,hi0,hz0,hz1,hz2⟩:=info_parts info_item;have HNil:Hid (∀ W:World,W.ownsRow w.heap.size 218 2 (.slice none 0 0) 0 (icells [])):=ι (fun W=>World.ownsRow_nil _ _ _ _);clear HR;cases hkey:Trie.keyedW key with
 |false=>
  have T:=ι (HP.out [] 1 (by simp [Trie.rput,hkey]) none 0 0 w rfl (Nat.le_refl _) (HNil.out _) (Below.refl _ _));rw [hkey] at HKy;clear HP HA hat hkey;go_enter Tryz.func102,Tryz.ntmps102
  go_wp2_with (go_at_call 149; refine HKy.out.mono ?_; rintro e w1 ⟨rfl,rfl⟩)
  exact T.out
 |true=>
  rw [hkey] at HKy;by_cases h0:value= []
  ·subst h0;have T:=ι (HP.out [] 2 (by simp [Trie.rput,hkey]) none 0 0);unfold AtIEnd at HA;clear HP hat hkey;generalize (Trie.atI key l).1=i at *;generalize (Trie.atI key l).2=b at *;go_enter Tryz.func102,Tryz.ntmps102
   go_wp2_with (first|(go_at_call 149; refine HKy.out.mono ?_; rintro e w1 ⟨rfl,rfl⟩)|(go_at_call 101; refine HA.out.mono ?_; rintro e w2 ⟨rfl,hb⟩))
   exact T.out _ rfl (Nat.le_refl _) (HNil.out _) hb
  ·have hv1:((value.length:Int)<1)=False:=by have:=List.length_pos_iff.2 h0; simp; omega
   by_cases h32:32<value.length
   ·have e6:((32:Int)<value.length)=True:=by simp; omega
    have T:=ι (HP.out [] 2 (by simp [Trie.rput,hkey,h32]) none 0 0);unfold AtIEnd at HA;clear HP hat hkey h0 h32;generalize (Trie.atI key l).1=i at *;generalize (Trie.atI key l).2=b at *;go_enter Tryz.func102,Tryz.ntmps102
    go_wp2_with (first|(go_at_call 149; refine HKy.out.mono ?_; rintro e w1 ⟨rfl,rfl⟩)|(go_at_call 101; refine HA.out.mono ?_; rintro e w2 ⟨rfl,hb⟩))
    exact T.out _ rfl (Nat.le_refl _) (HNil.out _) hb
   ·have e6:((32:Int)<value.length)=False:=by simp; omega
    have hvb:(value.isEmpty||decide (32<value.length))=false:=by simp [h0]; omega
    cases hb:(Trie.atI key l).2 with
    |false=>
     have HE:=ι (HP.out (l.take (Trie.atI key l).1++ [(key,value)]++l.drop (Trie.atI key l).1) 0 (by simp [Trie.rput,hkey,hvb,hb]));unfold AtIEnd at HA;rw [hb] at HA;have e9:((1024:Int)≤l.length)=False:=by have:=hroom hb; simp; omega
     have hii:=hat.1;clear HP hkey h0 h32 hat hb hvb hroom;generalize (Trie.atI key l).1=i at *;have hic:(i:Int)≤c:=by omega
     have hil:(i:Int)≤l.length:=by omega
     have hi00:(0:Int)≤i:=by omega
     obtain ⟨A1,c1,SL1,RD1⟩:=it_cut_to A l l.length c i rfl (by omega) hc;obtain ⟨A2,c2,SL2,RD2⟩:=it_cut_from A l l.length c i rfl (by omega) hc;have HSR:Hid (icells (l.take i)++ [.string ⟨key.toArray⟩,.string ⟨value.toArray⟩]++icells (l.drop i)=icells (l.take i++ [(key,value)]++l.drop i)):=ι (by rw [icells_append,icells_append]; rfl);have HSUM:Hid (i+1+(l.length - i)=(l.take i++ [(key,value)]++l.drop i).length):=ι (by simp only [List.length_append,List.length_take,List.length_drop,List.length_cons,List.length_nil]; omega);have hlm:i+1+(l.length - i)≤1025:=by omega
     go_enter Tryz.func102,Tryz.ntmps102
     go_wp2_with fail
     refine HKy.out.mono ?_;rintro e w1 ⟨rfl,rfl⟩;go_wp2_with fail
     refine HA.out.mono ?_;rintro e w1 ⟨rfl,hb1⟩;have R1:=RD1 w1 _ (HRR.out.below hb1);go_wp2_with (first
      |(at_builtin; refine wpList_append_any w1 rfl _ _ 44 rfl w.heap.size 218 i0 _ 2 32 Tryz.underlying44 hi0 hz0 hz1 hz2 rfl (by decide) (.slice none 0 0) 0 [] rfl (World.ownsRow_nil _ _ _ _) w.heap.size A1 i c1 (icells (l.take i)) rfl R1 (icells_one _) (by simp only [maxLen]; omega) (by omega) hb1.size ?_; intro v2 w2 own2 hg2 ho2; rw [Nat.zero_add,List.nil_append] at own2; obtain ⟨Av2,cv2,rfl,_,_,_⟩:=own_form own2; have hb2:Below w.heap.size w w2:=hb1.grown hg2 hb1.size (by intro k e; cases e); clear hg2 ho2 R1)
      |(at_builtin; refine wpList_append_new w2 218 [key,value] rfl _ _ 44 rfl w.heap.size 2 32 _ info_item Tryz.underlying44 rfl (by decide) (.slice Av2 i cv2) i (icells (l.take i)) rfl own2 1 1 rfl rfl (by simp [Value.oneCell']) (by simp only [maxLen]; omega) (by omega) w.heap.size w hb2 (Nat.le_refl _) hb2.size ?_; intro v3 w3 own3 hb3 _ _ _; obtain ⟨Av3,cv3,rfl,_,_,hge3⟩:=own_form own3; have R2:=RD2 w3 _ (HRR.out.below hb3); have lt3:=own3.lt)
      |(at_builtin; refine wpList_append_any w3 rfl _ _ 44 rfl w.heap.size 218 i0 _ 2 32 Tryz.underlying44 hi0 hz0 hz1 hz2 rfl (by decide) (.slice Av3 (i+1) cv3) (i+1) (icells (l.take i)++ [.string ⟨key.toArray⟩,.string ⟨value.toArray⟩]) rfl own3 w.heap.size A2 (l.length - i) c2 (icells (l.drop (i))) rfl R2 (icells_one _) (by simp only [maxLen]; omega) (by omega) hb3.size ?_; intro v4 w4 own4 hg4 _; obtain ⟨Av4,cv4,rfl,_,hc4,_⟩:=own_form own4; have hb4:Below w.heap.size w w4:=hb3.grown hg4 hb3.size (fun k e=>(lt3 k e).1); clear hg4 R2))
     rw [HSR.out] at own4;exact HE.out _ _ _ _ HSUM.out hc4 own4 hb4
    |true=>
     have HE:=ι (HP.out (l.take (Trie.atI key l).1++ [(key,value)]++l.drop ((Trie.atI key l).1+1)) 0 (by simp [Trie.rput,hkey,hvb,hb]));unfold AtIEnd at HA;rw [hb] at HA;have hii:=hat.2 hb;clear HP hkey h0 h32 hat hb hvb hroom;generalize (Trie.atI key l).1=i at *;have hic:(i:Int)≤c:=by omega
     have hil:(i:Int)≤l.length:=by omega
     have hi2:(i:Int)+1≤l.length:=by omega
     have hi00:(0:Int)≤i:=by omega
     obtain ⟨A1,c1,SL1,RD1⟩:=it_cut_to A l l.length c i rfl (by omega) hc;obtain ⟨A2,c2,SL2,RD2⟩:=it_cut_from A l l.length c (i+1) rfl (by omega) hc;have SL2':=SL2;rw [show ((i+1:Nat):Int)=(i:Int)+1 from rfl] at SL2';have HSR:Hid (icells (l.take i)++ [.string ⟨key.toArray⟩,.string ⟨value.toArray⟩]++icells (l.drop (i+1))=icells (l.take i++ [(key,value)]++l.drop (i+1))):=ι (by rw [icells_append,icells_append]; rfl);have HSUM:Hid (i+1+(l.length - (i+1))=(l.take i++ [(key,value)]++l.drop (i+1)).length):=ι (by simp only [List.length_append,List.length_take,List.length_drop,List.length_cons,List.length_nil]; omega);have hlm:i+1+(l.length - (i+1))≤1025:=by omega
     go_enter Tryz.func102,Tryz.ntmps102
     go_wp2_with fail
     refine HKy.out.mono ?_;rintro e w1 ⟨rfl,rfl⟩;go_wp2_with fail
     refine HA.out.mono ?_;rintro e w1 ⟨rfl,hb1⟩;have R1:=RD1 w1 _ (HRR.out.below hb1);go_wp2_with (first
      |(at_builtin; refine wpList_append_any w1 rfl _ _ 44 rfl w.heap.size 218 i0 _ 2 32 Tryz.underlying44 hi0 hz0 hz1 hz2 rfl (by decide) (.slice none 0 0) 0 [] rfl (World.ownsRow_nil _ _ _ _) w.heap.size A1 i c1 (icells (l.take i)) rfl R1 (icells_one _) (by simp only [maxLen]; omega) (by omega) hb1.size ?_; intro v2 w2 own2 hg2 ho2; rw [Nat.zero_add,List.nil_append] at own2; obtain ⟨Av2,cv2,rfl,_,_,_⟩:=own_form own2; have hb2:Below w.heap.size w w2:=hb1.grown hg2 hb1.size (by intro k e; cases e); clear hg2 ho2 R1)
      |(at_builtin; refine wpList_append_new w2 218 [key,value] rfl _ _ 44 rfl w.heap.size 2 32 _ info_item Tryz.underlying44 rfl (by decide) (.slice Av2 i cv2) i (icells (l.take i)) rfl own2 1 1 rfl rfl (by simp [Value.oneCell']) (by simp only [maxLen]; omega) (by omega) w.heap.size w hb2 (Nat.le_refl _) hb2.size ?_; intro v3 w3 own3 hb3 _ _ _; obtain ⟨Av3,cv3,rfl,_,_,hge3⟩:=own_form own3; have R2:=RD2 w3 _ (HRR.out.below hb3); have lt3:=own3.lt)
      |(at_builtin; refine wpList_append_any w3 rfl _ _ 44 rfl w.heap.size 218 i0 _ 2 32 Tryz.underlying44 hi0 hz0 hz1 hz2 rfl (by decide) (.slice Av3 (i+1) cv3) (i+1) (icells (l.take i)++ [.string ⟨key.toArray⟩,.string ⟨value.toArray⟩]) rfl own3 w.heap.size A2 (l.length - (i+1)) c2 (icells (l.drop ((i+1)))) rfl R2 (icells_one _) (by simp only [maxLen]; omega) (by omega) hb3.size ?_; intro v4 w4 own4 hg4 _; obtain ⟨Av4,cv4,rfl,_,hc4,_⟩:=own_form own4; have hb4:Below w.heap.size w w4:=hb3.grown hg4 hb3.size (fun k e=>(lt3 k e).1); clear hg4 R2))
     rw [HSR.out] at own4;exact HE.out _ _ _ _ HSUM.out hc4 own4 hb4
theorem ref10_Put (w:World) (A:Option Addr) (c:Nat) (l:List Trie.KV) (HR:Reads w w.heap.size 2 A l.length (icells l)) (hc:l.length≤c) (hl:l.length≤1000) (key value:List UInt8) (hk:key.length≤9223372036854775807) (hv:value.length≤9223372036854775807):
  Calls Tryz.prog 102 #[.slice A l.length c,key,value] w (PutIEnd w (Trie.rput l key value)):=
 ref10_PutR w A c l HR hc (by omega) key value hk hv (fun _=>by omega)
theorem ref10_PutF (w:World) (A:Option Addr) (c:Nat) (l:List Trie.KV) (HR:Reads w w.heap.size 2 A l.length (icells l)) (hl:l.length≤2000) (key value:List UInt8) (hk:Trie.keyedW key=true) (hv0:value≠ []) (hv:value.length≤32) (hfull:1024≤l.length) (hno:(Trie.atI key l).2=false):
  Calls Tryz.prog 102 #[.slice A l.length c,key,value] w (PutIEnd w ([],2)):=by
 have HP:Hid (∀ w',Below w.heap.size w w'→PutIEnd w ([],2) (.returned (.tuple #[ν,.int .i64 2])) w'):=ι (fun w' h=>⟨none,0,0,rfl,rfl,Nat.le_refl _,World.ownsRow_nil _ _ _ _,h⟩);generalize PutIEnd w ([],2)=P at HP ⊢;have hk8:key.length≤8:=(Trie.keyed_len hk).1;have HKy:=ι (ref10_Keyed key (by omega) w);rw [hk] at HKy;have HA:=ι (ref10_At w A c l HR (by omega) key);unfold AtIEnd at HA;rw [hno] at HA;have e9:((1024:Int)≤l.length)=True:=by simp; omega
 have hv1:((value.length:Int)<1)=False:=by have:=List.length_pos_iff.2 hv0; simp; omega
 have e6:((32:Int)<value.length)=False:=by simp; omega
 generalize (Trie.atI key l).1=i at *;clear HR hk hv0 hno;go_enter Tryz.func102,Tryz.ntmps102
 go_wp2_with fail
 refine HKy.out.mono ?_;rintro e w1 ⟨rfl,rfl⟩;go_wp2_with fail
 refine HA.out.mono ?_;rintro e w1 ⟨rfl,hb⟩;have HB:=ι hb;clear hb;go_wp2_with fail
 exact HP.out _ HB.out
theorem ref10_Del (w:World) (A:Option Addr) (c:Nat) (l:List Trie.KV) (HR:Reads w w.heap.size 2 A l.length (icells l)) (hc:l.length≤c) (hl:l.length≤1024) (key:List UInt8) (hk:key.length≤9223372036854775807):
  Calls Tryz.prog 183 #[.slice A l.length c,key] w (PutIEnd w (Trie.rdel l key)):=by
 have HP:Hid (∀ l2 c2,Trie.rdel l key=(l2,c2)→∀ A n c w',n=l2.length→n≤c→w'.ownsRow w.heap.size 218 2 (.slice A n c) n (icells l2)→Below w.heap.size w w'→PutIEnd w (Trie.rdel l key) (.returned (.tuple #[.slice A n c,.int .i64 (c2:Nat)])) w'):=ι (by
  intro l2 c2 e A n c w' h1 h2 h3 h4;unfold PutIEnd;rw [e];exact ⟨A,n,c,rfl,h1,h2,h3,h4⟩)
 generalize PutIEnd w (Trie.rdel l key)=P at HP ⊢;have HG:=ι (ref10_Get w A c l HR (by omega) key hk);have HAt:Hid (∀ W,Below w.heap.size w W→Calls Tryz.prog 101 #[.slice A l.length c,key] W (AtIEnd W l key)):=ι (fun W hW=>ref10_At W A c l ((HR.below hW).more hW.size) (by omega) key);have hat:=Trie.atI_le key l;have HRR:=ι HR;obtain ⟨i0,hi0,hz0,hz1,hz2⟩:=info_parts info_item;have HNil:Hid (∀ W:World,W.ownsRow w.heap.size 218 2 (.slice none 0 0) 0 (icells [])):=ι (fun W=>World.ownsRow_nil _ _ _ _);clear HR;by_cases hg:(Trie.rget l key).2=0
 ·have ht:(Trie.atI key l).2=true:=by
   unfold Trie.rget at hg
   split at hg
   ·split at hg
    ·assumption
    ·cases hg
   ·cases hg
  have HE:=ι (HP.out (l.take (Trie.atI key l).1++l.drop ((Trie.atI key l).1+1)) 0 (by simp [Trie.rdel,hg]));unfold AtIEnd at HAt;unfold TGetEnd at HG;rw [hg] at HG;have hii:=hat.2 ht;clear HP hat hg ht;generalize (Trie.rget l key).1=gv at *;generalize (Trie.atI key l).1=i at *;generalize (Trie.atI key l).2=tb at *;have hic:(i:Int)≤c:=by omega
  have hil:(i:Int)≤l.length:=by omega
  have hi2:(i:Int)+1≤l.length:=by omega
  have hi00:(0:Int)≤i:=by omega
  obtain ⟨A1,c1,SL1,RD1⟩:=it_cut_to A l l.length c i rfl (by omega) hc;obtain ⟨A2,c2,SL2,RD2⟩:=it_cut_from A l l.length c (i+1) rfl (by omega) hc;have SL2':=SL2;rw [show ((i+1:Nat):Int)=(i:Int)+1 from rfl] at SL2';have HSR:Hid (icells (l.take i)++icells (l.drop (i+1))=icells (l.take i++l.drop (i+1))):=ι (by rw [icells_append]);have HSUM:Hid (i+(l.length - (i+1))=(l.take i++l.drop (i+1)).length):=ι (by simp only [List.length_append,List.length_take,List.length_drop]; omega);have hlm:i+(l.length - (i+1))≤1025:=by omega
  go_enter Tryz.func183,Tryz.ntmps183
  go_wp2_with fail
  refine HG.out.mono ?_;rintro e w0 ⟨rfl,hb0⟩;go_wp2_with fail
  refine (HAt.out _ hb0).mono ?_;rintro e w1 ⟨rfl,hb01⟩;have hb1:=hb0.nxt hb01;clear hb01;have R1:=RD1 w1 _ (HRR.out.below hb1);go_wp2_with (first
   |(at_builtin; refine wpList_append_any w1 rfl _ _ 44 rfl w.heap.size 218 i0 _ 2 32 Tryz.underlying44 hi0 hz0 hz1 hz2 rfl (by decide) (.slice none 0 0) 0 [] rfl (World.ownsRow_nil _ _ _ _) w.heap.size A1 i c1 (icells (l.take i)) rfl R1 (icells_one _) (by simp only [maxLen]; omega) (by omega) hb1.size ?_; intro v2 w2 own2 hg2 ho2; rw [Nat.zero_add,List.nil_append] at own2; obtain ⟨Av2,cv2,rfl,_,_,_⟩:=own_form own2; have hb2:Below w.heap.size w w2:=hb1.grown hg2 hb1.size (by intro k e; cases e); have R2:=RD2 w2 _ (HRR.out.below hb2); have lt2:=own2.lt; clear hg2 ho2 R1)
   |(at_builtin; refine wpList_append_any w2 rfl _ _ 44 rfl w.heap.size 218 i0 _ 2 32 Tryz.underlying44 hi0 hz0 hz1 hz2 rfl (by decide) (.slice Av2 i cv2) i (icells (l.take i)) rfl own2 w.heap.size A2 (l.length - (i+1)) c2 (icells (l.drop (i+1))) rfl R2 (icells_one _) (by simp only [maxLen]; omega) (by omega) hb2.size ?_; intro v4 w4 own4 hg4 _; obtain ⟨Av4,cv4,rfl,_,hc4,_⟩:=own_form own4; have hb4:Below w.heap.size w w4:=hb2.grown hg4 hb2.size (fun k e=>(lt2 k e).1); clear hg4 R2))
  rw [HSR.out] at own4;exact HE.out _ _ _ _ HSUM.out hc4 own4 hb4
 ·have hg1:(((Trie.rget l key).2:Int) !=0)=true:=by simp; exact hg
  have T:=ι (HP.out [] (Trie.rget l key).2 (by simp [Trie.rdel,hg]) none 0 0);unfold TGetEnd at HG;clear HP hat hg HAt;generalize (Trie.rget l key).1=gv at *;generalize (Trie.rget l key).2=gc at *;go_enter Tryz.func183,Tryz.ntmps183
  go_wp2_with fail
  refine HG.out.mono ?_;rintro e w0 ⟨rfl,hb0⟩;go_wp2_with fail
  exact T.out _ rfl (Nat.le_refl _) (HNil.out _) hb0
end
namespace Ex
open Pw Trie
theorem getW_put {t:T} (h:Trie.Good t) {k v:List UInt8} (hk:keyedW k=true) (hv:v≠ []) (q:List UInt8):getW (put t (Nib.of k) v) q=if q=k then (v,0) else getW t q:=by
 unfold getW;rw [(put_spec t (Nib.of k) v h.wf (Nib.fit_of k) hv).2.1 _ (Nib.fit_of q)];by_cases e:q=k
 ·subst e;rw [if_pos hk,if_pos rfl,if_pos rfl,if_neg (by simpa using hv)]
 ·rw [if_neg (fun e2=>e (Nib.of_inj e2)),if_neg e]
theorem getW_del {t:T} (h:Trie.Good t) {k:List UInt8} (hk:keyedW k=true) (hl:Trie.look t (Nib.of k)≠ []) (q:List UInt8):getW (del t (Nib.of k)) q=if q=k then ([],5) else getW t q:=by
 unfold getW;rw [(del_spec t (Nib.of k) h.wf (Nib.fit_of k) hl).2.1 _ (Nib.fit_of q)];by_cases e:q=k
 ·subst e;rw [if_pos hk,if_pos rfl,if_pos rfl]; rfl
 ·rw [if_neg (fun e2=>e (Nib.of_inj e2)),if_neg e]
theorem look_get {t:T} {k:List UInt8} (h:(getW t k).2=0):Trie.look t (Nib.of k)≠ []:=by
 unfold getW at h
 split at h
 ·split at h
  ·cases h
  ·rename_i h2; simpa using h2
 ·cases h
theorem acc_cong {t u:T} {n:List UInt8} (h:getW u (aKey n)=getW t (aKey n)):acc u n=acc t n:=by unfold acc; rw [h]
theorem aKey_inj {m n:List UInt8} (h:aKey m=aKey n):m=n:=by simpa [aKey] using h
theorem aKey_sKey (m:List UInt8):aKey m≠sKey:=by simp [aKey,sKey]
theorem acc_putA {t:T} (h:Trie.Good t) {n:List UInt8} (hn:n.length≤6) {p:Nat × Nat} (h1:p.1≤maxA) (h2:p.2≤maxA) (m:List UInt8):acc (put t (Nib.of (aKey n)) (writA p)) m=if m=n then some p else acc t m:=by
 have hw:=writA_len (p:=p) (by unfold maxA at h1; omega) (by unfold maxA at h2; omega);unfold acc;rw [getW_put h (keyed_a hn) (ne_nil_of hw.1)];by_cases e:m=n
 ·subst e;rw [if_pos rfl,if_pos rfl,if_pos rfl];exact parseA_writA h1 h2
 ·rw [if_neg (fun e2=>e (aKey_inj e2)),if_neg e]
theorem acc_put {t:T} (h:Trie.Good t) {k v:List UInt8} (hk:keyedW k=true) (hv:v≠ []) (m:List UInt8) (hne:aKey m≠k):acc (put t (Nib.of k) v) m=acc t m:=
 acc_cong (by rw [getW_put h hk hv,if_neg hne])
structure Done (t:T) (x:Tx) where
 f:Nat × Nat
 tt:Nat × Nat
 hf:acc t x.frm=some f
 ht:accTo t x=some tt
 hs:(f.2:Int)=x.seq
 hm:f.2<maxA
 hk:(kindW t x f tt).2.1=0
 hd:doW t x=(put (kindW t x f tt).1 (Nib.of (aKey x.frm)) (writA ((kindW t x f tt).2.2,f.2+1)),0)
theorem doW_done {t:T} {x:Tx} (h:(doW t x).2=0):fineX x=true∧Nonempty (Done t x):=by
 unfold doW at h
 split at h
 ·cases h
 rename_i hx;refine ⟨by simpa using hx,?_⟩
 split at h
 ·rename_i f tt hf ht
  split at h
  ·cases h
  rename_i hs;simp only [not_or,Decidable.not_not] at hs
  split at h
  ·rename_i hk;refine ⟨f,tt,hf,ht,hs.1,?_,hk,?_⟩
   ·have:=(acc_le hf).2; have:=hs.2; omega
   ·unfold doW;rw [if_neg hx];simp only [hf,ht];rw [if_neg (by simp [hs.1]; exact hs.2),if_pos hk]
  ·rename_i hk; exact absurd h hk
 ·cases h
theorem Done.to_le {t:T} {x:Tx} (d:Done t x):d.tt.1≤maxA∧d.tt.2≤maxA:=by
 have:=d.ht
 unfold accTo at this
 split at this
 ·exact acc_le this
 ·injection this with this; rw [←this]; exact ⟨by simp,by simp⟩
theorem Done.good {t:T} {x:Tx} (d:Done t x) (h:Trie.Good t) (hx:fineX x=true):Trie.Good (kindW t x d.f d.tt).1∧(kindW t x d.f d.tt).2.2≤maxA:=
 ⟨(kindW_good h hx (acc_le d.hf).1 d.to_le).1,(kindW_good h hx (acc_le d.hf).1 d.to_le).2.2⟩
theorem kindW_get {t:T} {x:Tx} (d:Done t x) (h:Trie.Good t) (hx:fineX x=true) (q:List UInt8):
  getW (kindW t x d.f d.tt).1 q=
   if x.kind=1 then (if x.dst≠x.frm∧q=aKey x.dst then (writA (d.tt.1+x.amt.toNat,d.tt.2),0) else getW t q)
   else if x.kind=2 then (if q=dKey x.key then (x.val,0) else getW t q)
   else if x.kind=3 then (if q=dKey x.key then ([],5) else getW t q)
   else (if q=sKey then (digM x.mem,0) else getW t q):=by
 obtain ⟨_,_,_,hk⟩:=fineX_spec hx;have hz:=d.hk;have hle:=d.to_le;unfold maxA at hle;rcases hk with ⟨k,hto,ha1,ha2,_⟩|⟨k,_,_,_,v1,v2,q1,q2⟩|⟨k,_,_,_,_,q1,q2⟩|⟨k,_,_,_,_,hm⟩
 ·rw [kindW_1 k] at hz ⊢;rw [if_pos k]
  split at hz
  ·cases hz
  rename_i h1;rw [if_neg h1];by_cases h2:x.dst=x.frm
  ·rw [if_pos h2,if_neg (fun e=>e.1 h2)]
  ·rw [if_neg h2] at hz ⊢
   split at hz
   ·cases hz
   rename_i h3;rw [if_neg h3];have hw:=writA_len (p:=(d.tt.1+x.amt.toNat,d.tt.2)) (by simp only; omega) (by simp only; omega);rw [getW_put h (keyed_a (nameW_len hto).2) (ne_nil_of hw.1)];by_cases e:q=aKey x.dst
   ·rw [if_pos e,if_pos ⟨h2,e⟩]
   ·rw [if_neg e,if_neg (fun e2=>e e2.2)]
 ·rw [kindW_2 k,if_neg (show ¬x.kind=1 by omega),if_pos k];exact getW_put h (keyed_d q2) (ne_nil_of v1) q
 ·rw [kindW_3 k] at hz ⊢;rw [if_neg (show ¬x.kind=1 by omega),if_neg (show ¬x.kind=2 by omega),if_pos k]
  split at hz
  ·rename_i hg;rw [if_pos hg];exact getW_del h (keyed_d q2) (look_get hg) q
  ·rename_i hg; exact absurd hz hg
 ·rw [kindW_4 k] at hz ⊢;rw [if_neg (show ¬x.kind=1 by omega),if_neg (show ¬x.kind=2 by omega),if_neg (show ¬x.kind=3 by omega)]
  split at hz
  ·rename_i hr;rw [if_pos hr];exact getW_put h keyed_s (ne_nil_of (by rw [digM_len hm]; omega)) q
  ·cases hz
theorem do_get {t:T} {x:Tx} (d:Done t x) (h:Trie.Good t) (hx:fineX x=true) (q:List UInt8):
  getW (doW t x).1 q=if q=aKey x.frm then (writA ((kindW t x d.f d.tt).2.2,d.f.2+1),0) else getW (kindW t x d.f d.tt).1 q:=by
 rw [d.hd];obtain ⟨g1,g2⟩:=d.good h hx;have hm:=d.hm;unfold maxA at g2 hm;have hw:=writA_len (p:=((kindW t x d.f d.tt).2.2,d.f.2+1)) (by simp only; omega) (by show d.f.2+1≤2000000000000; have e:maxA=1099511627776:=rfl; omega);exact getW_put g1 (keyed_a (nameW_len (fineX_spec hx).1).2) (ne_nil_of hw.1) q
theorem do_accF {t:T} {x:Tx} (d:Done t x) (h:Trie.Good t) (hx:fineX x=true):acc (doW t x).1 x.frm=some ((kindW t x d.f d.tt).2.2,d.f.2+1):=by
 obtain ⟨g1,g2⟩:=d.good h hx;have hm:=d.hm;unfold acc;rw [do_get d h hx,if_pos rfl];exact (if_pos rfl).trans (parseA_writA g2 hm)
theorem do_accT {t:T} {x:Tx} (d:Done t x) (h:Trie.Good t) (hx:fineX x=true) (k1:x.kind=1) (hne:x.dst≠x.frm):acc (doW t x).1 x.dst=some (d.tt.1+x.amt.toNat,d.tt.2):=by
 have hle:=d.to_le;have hz:=d.hk;unfold acc;rw [do_get d h hx,if_neg (fun e=>hne (aKey_inj e)),kindW_get d h hx,if_pos k1,if_pos (show x.dst≠x.frm∧aKey x.dst=aKey x.dst from ⟨hne,rfl⟩)];refine (if_pos rfl).trans (parseA_writA ?_ hle.2);rw [kindW_1 k1] at hz
 split at hz
 ·cases hz
 split at hz
 ·cases hz
 rename_i h3;unfold maxA
 have:=(fineX_spec hx).2.2.2
 omega
theorem do_once {t:T} (h:Trie.Good t) {x:Tx} (hd:(doW t x).2=0):doW (doW t x).1 x=((doW t x).1,160):=by
 obtain ⟨hx,⟨d⟩⟩:=doW_done hd;have hF:=do_accF d h hx;have hT:∃ p,accTo (doW t x).1 x=some p:=by
  unfold accTo
  split
  ·rename_i k1;by_cases hne:x.dst=x.frm
   ·rw [hne]; exact ⟨_,hF⟩
   ·exact ⟨_,do_accT d h hx k1 hne⟩
  ·exact ⟨_,rfl⟩
 obtain ⟨p,hT⟩:=hT;generalize (doW t x).1=u at *;unfold doW;rw [if_neg (by simp [hx])];simp only [hF,hT];rw [if_pos (.inl (by have:=d.hs; omega))]
end Ex
end Go.Proofs.YtdkiloganbhfkaaGreatDoor