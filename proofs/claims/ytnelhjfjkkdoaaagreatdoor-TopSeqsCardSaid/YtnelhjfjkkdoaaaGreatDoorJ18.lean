import Derived.Test.YtnelhjfjkkdoaaaGreatDoorJ17
set_option linter.unusedSimpArgs false
set_option linter.unusedVariables false
namespace Go.Proofs.YtnelhjfjkkdoaaaGreatDoor
section
open Go.RowKit Go.Instr
attribute [local go_sem] ba_get ByteArray.mk_append_mk
attribute [local go_sem ↓] Go.wp_at_zero Go.wp_at_succ
namespace Trie
end Trie
theorem reads_blk {w:World} {b e size n:Nat} {xs:Array Value} (h:Blk w b e xs) (hn:xs.size=n*size):Reads w w.heap.size size (some ⟨b,0,none⟩) n xs.toList:=by
 refine ⟨by simpa using hn,fun _=>⟨_,rfl,h.lt,fun j u hu=> ?_⟩⟩;have hj:j<xs.size:=by have:=(List.getElem?_eq_some_iff.1 hu).1; simpa using this
 have:=h.cell j
 rw [show (⟨b,0,none⟩:Addr).add j=⟨b,j,none⟩ by unfold Addr.add; split<;>simp_all];rw [this];simpa using hu
end
namespace Trie
theorem mem_itemsW {t:T} (h:Good t) (k v:List UInt8):(k,v)∈itemsW t↔look t (Nib.of k)=v∧v≠ []:=by
 rw [itemsW,List.mem_map]
 constructor
 ·rintro ⟨x,hx,e⟩;obtain ⟨q,hq,rfl,hn⟩:=(mem_items t [] x h.wf).1 hx;injection e with e1 e2
  subst e1;simp only [List.nil_append] at e2 ⊢;rw [Nib.of_joined q hq (h.even q hq hn).1,←e2];exact ⟨rfl,hn⟩
 ·rintro ⟨e,hn⟩;subst e;exact ⟨(Nib.of k,look t (Nib.of k)),(mem_items t [] _ h.wf).2 ⟨Nib.of k,Nib.fit_of k,rfl,hn⟩,by simp [Nib.joined_of]⟩
theorem keys_nodup {t:T} (h:Good t):((itemsW t).map (·.1)).Nodup:=by
 rw [itemsW,List.map_map,List.Nodup,List.pairwise_map];refine (sorted_items t [] h.wf).imp_of_mem ?_;intro x y hx hy hlt;obtain ⟨q,hq,rfl,hqn⟩:=(mem_items t [] x h.wf).1 hx;obtain ⟨r,hr,rfl,hrn⟩:=(mem_items t [] y h.wf).1 hy;simp only [List.nil_append,Function.comp] at hlt ⊢;intro e
 have:=congrArg Nib.of e
 rw [Nib.of_joined q hq (h.even q hq hqn).1,Nib.of_joined r hr (h.even r hr hrn).1] at this;subst this;rw [Nib.blt_irrefl] at hlt;cases hlt
end Trie
namespace Trie
abbrev KV:=List UInt8 × List UInt8
def rises (l:List KV):Prop:=l.Pairwise fun x y=>Op.bytesLess x.1 y.1=true
theorem rises_itemsW {t:T} (h:Good t):rises (itemsW t):=by
 rw [rises,itemsW,List.pairwise_map];refine (sorted_items t [] h.wf).imp_of_mem ?_;intro x y hx hy hlt;obtain ⟨q,hq,rfl,hqn⟩:=(mem_items t [] x h.wf).1 hx;obtain ⟨r,hr,rfl,hrn⟩:=(mem_items t [] y h.wf).1 hy;simp only [List.nil_append] at hlt ⊢;rw [←Nib.blt_of,Nib.of_joined q hq (h.even q hq hqn).1,Nib.of_joined r hr (h.even r hr hrn).1];exact hlt
theorem rises_ext:∀ (a b:List KV),rises a→rises b→(∀ x,x∈a↔x∈b)→a=b
 | [],[],_,_,_=>rfl
 | [],y::b,_,_,h=>by have:=(h y).2 (by simp); simp at this
 |x::a,[],_,_,h=>by have:=(h x).1 (by simp); simp at this
 |x::a,y::b,ha,hb,h=>by
  obtain ⟨ha1,ha2⟩:=List.pairwise_cons.1 ha;obtain ⟨hb1,hb2⟩:=List.pairwise_cons.1 hb;have hxy:x=y:=by
   rcases List.mem_cons.1 ((h x).1 (by simp)) with e|hx
   ·exact e
   rcases List.mem_cons.1 ((h y).2 (by simp)) with e|hy
   ·exact e.symm
   have h1:=bl_trans _ _ _ (hb1 x hx) (ha1 y hy);rw [Nib.blt_irrefl] at h1; cases h1
  subst hxy
  congr 1
  refine rises_ext a b ha2 hb2 fun z=>⟨fun hz=> ?_,fun hz=> ?_⟩
  ·rcases List.mem_cons.1 ((h z).1 (by simp [hz])) with e|hz2
   ·subst e; have h1:=ha1 z hz; rw [Nib.blt_irrefl] at h1; cases h1
   ·exact hz2
  ·rcases List.mem_cons.1 ((h z).2 (by simp [hz])) with e|hz2
   ·subst e; have h1:=hb1 z hz; rw [Nib.blt_irrefl] at h1; cases h1
   ·exact hz2
def atI (k:List UInt8):List KV→Nat × Bool
 | []=>(0,false)
 |x::l=>if Op.bytesLess x.1 k=true then ((atI k l).1+1,(atI k l).2) else (0,decide (x.1=k))
theorem atI_le (k:List UInt8):∀ l,(atI k l).1≤l.length∧((atI k l).2=true→(atI k l).1<l.length)
 | []=>by simp [atI]
 |x::l=>by
  have ih:=atI_le k l;unfold atI
  split
  ·simp only [List.length_cons];exact ⟨by omega,fun h=>by have:=ih.2 h; omega⟩
  ·simp
theorem atI_spec (k:List UInt8):∀ (l:List KV),rises l→∃ X Y,l=X++Y∧X.length=(atI k l).1∧(∀ x∈X,Op.bytesLess x.1 k=true)∧((atI k l).2=true→∃ y Y',Y=y::Y'∧y.1=k)∧((atI k l).2=false→∀ y∈Y,Op.bytesLess k y.1=true)
 | [],_=>⟨[],[],rfl,rfl,by simp,by simp [atI],by simp⟩
 |x::l,h=>by
  obtain ⟨h1,h2⟩:=List.pairwise_cons.1 h;unfold atI;by_cases hk:Op.bytesLess x.1 k=true
  ·rw [if_pos hk];obtain ⟨X,Y,e,hX,hX2,hT,hF⟩:=atI_spec k l h2;refine ⟨x::X,Y,by rw [e]; rfl,by rw [List.length_cons,hX],?_,hT,hF⟩;intro y hy;rcases List.mem_cons.1 hy with rfl|hy
   ·exact hk
   ·exact hX2 y hy
  ·rw [if_neg hk];refine ⟨[],x::l,rfl,rfl,by simp,fun hd=>⟨x,l,rfl,of_decide_eq_true hd⟩,fun hd=> ?_⟩;have hne:x.1≠k:=of_decide_eq_false hd;have hlt:Op.bytesLess k x.1=true:=by
    cases h3:Op.bytesLess k x.1 with
    |true=>rfl
    |false=>exact absurd (bl_tri _ _ (by simpa using hk) h3) hne
   intro y hy;rcases List.mem_cons.1 hy with rfl|hy
   ·exact hlt
   ·exact bl_trans _ _ _ hlt (h1 y hy)
def rput (l:List KV) (k v:List UInt8):List KV × Nat:=
 if keyedW k then
  (if v.isEmpty||decide (32<v.length) then ([],2) else (l.take (atI k l).1++ [(k,v)]++l.drop ((atI k l).1+if (atI k l).2 then 1 else 0),0))
 else ([],1)
def rget (l:List KV) (k:List UInt8):List UInt8 × Nat:=
 if keyedW k then (if (atI k l).2 then ((l[(atI k l).1]?.getD ([],[])).2,0) else ([],5)) else ([],1)
theorem atI_mem {l:List KV} (h:rises l) (k:List UInt8):((atI k l).2=true→(k,(l[(atI k l).1]?.getD ([],[])).2)∈l)∧((atI k l).2=false→∀ x∈l,x.1≠k):=by
 obtain ⟨X,Y,e,hX,hX2,hT,hF⟩:=atI_spec k l h;refine ⟨fun ht=> ?_,fun ht x hx hk=> ?_⟩
 ·obtain ⟨y,Y',rfl,hy⟩:=hT ht;rw [←hX];have e1:l[X.length]?=some y:=by rw [e]; simp
  rw [e1,Option.getD_some,e,←hy];simp
 ·rw [e,List.mem_append] at hx
  have:Op.bytesLess x.1 k=true∨Op.bytesLess k x.1=true:=hx.imp (hX2 x) (hF ht x)
  rw [hk,Nib.blt_irrefl] at this;simp at this
theorem rget_getW {t:T} (h:Good t) (k:List UInt8):rget (itemsW t) k=getW t k:=by
 unfold rget getW;have hm:=atI_mem (rises_itemsW h) k;by_cases hk:keyedW k
 ·rw [if_pos hk,if_pos hk];cases ht:(atI k (itemsW t)).2 with
  |true=>
   obtain ⟨e1,e2⟩:=(mem_itemsW h _ _).1 (hm.1 ht);rw [if_pos rfl,e1,if_neg (by simpa using e2)]
  |false=>
   have hl:look t (Nib.of k)= []:=by
    by_cases hl:look t (Nib.of k)= []
    ·exact hl
    ·exact absurd rfl (hm.2 ht _ ((mem_itemsW h k _).2 ⟨rfl,hl⟩))
   rw [if_neg (by simp),if_pos (by rw [hl]; rfl)]
 ·rw [if_neg hk,if_neg hk]
theorem cut_spec {l:List KV} (h:rises l) (k:List UInt8):∃ X Z,l.take (atI k l).1=X∧l.drop ((atI k l).1+if (atI k l).2 then 1 else 0)=Z∧rises (X++Z)∧(∀ x∈X,Op.bytesLess x.1 k=true)∧(∀ z∈Z,Op.bytesLess k z.1=true)∧∀ x,(x∈l∧x.1≠k)↔(x∈X∨x∈Z):=by
 obtain ⟨X,Y,e,hX,hX2,hT,hF⟩:=atI_spec k l h;have hs:=h;rw [e] at hs;obtain ⟨sX,sY,sXY⟩:=List.pairwise_append.1 hs;have e1:l.take (atI k l).1=X:=by rw [←hX,e,List.take_left]
 have irr:∀ x:KV,(Op.bytesLess x.1 k=true∨Op.bytesLess k x.1=true)→x.1≠k:=fun x hx hk=>by
  rw [hk,Nib.blt_irrefl] at hx; simp at hx
 cases ht:(atI k l).2 with
 |true=>
  obtain ⟨y,Y',rfl,hy⟩:=hT ht;obtain ⟨y1,y2⟩:=List.pairwise_cons.1 sY;have e2:l.drop ((atI k l).1+1)=Y':=by rw [←hX,e,List.drop_append]; simp
  have hY:∀ z∈Y',Op.bytesLess k z.1=true:=fun z hz=>by rw [←hy]; exact y1 z hz
  refine ⟨X,Y',e1,by rw [if_pos rfl]; exact e2,List.pairwise_append.2 ⟨sX,y2,fun a ha b hb=>sXY a ha b (by simp [hb])⟩,hX2,hY,fun x=>⟨?_,?_⟩⟩
  ·rintro ⟨hx,hne⟩;rw [e,List.mem_append,List.mem_cons] at hx;rcases hx with hx|rfl|hx
   ·exact .inl hx
   ·exact absurd hy hne
   ·exact .inr hx
  ·rintro (hx|hx)
   ·exact ⟨by rw [e]; simp [hx],irr x (.inl (hX2 x hx))⟩
   ·exact ⟨by rw [e]; simp [hx],irr x (.inr (hY x hx))⟩
 |false=>
  have e2:l.drop ((atI k l).1+0)=Y:=by rw [←hX,e,Nat.add_zero,List.drop_left]
  refine ⟨X,Y,e1,by rw [if_neg (by simp)]; exact e2,by rw [←e]; exact h,hX2,hF ht,fun x=>⟨?_,?_⟩⟩
  ·rintro ⟨hx,_⟩;rw [e,List.mem_append] at hx;exact hx
  ·rintro (hx|hx)
   ·exact ⟨by rw [e]; simp [hx],irr x (.inl (hX2 x hx))⟩
   ·exact ⟨by rw [e]; simp [hx],irr x (.inr (hF ht x hx))⟩
theorem rput_put {t:T} (h:Good t) (k v:List UInt8):(rput (itemsW t) k v).2=putCode k v∧(putCode k v=0→(rput (itemsW t) k v).1=itemsW (put t (Nib.of k) v)):=by
 unfold rput putCode;by_cases hk:keyedW k
 ·rw [if_pos hk,if_pos hk];by_cases hv:(v.isEmpty||decide (32<v.length))=true
  ·rw [if_pos hv,if_pos hv];exact ⟨rfl,fun e=>by cases e⟩
  ·rw [if_neg hv,if_neg hv];simp at hv
   refine ⟨rfl,fun _=> ?_⟩;obtain ⟨X,Z,e1,e2,hr,hX,hZ,hm⟩:=cut_spec (rises_itemsW h) k;rw [e1,e2];have hg:=h.put hk hv.1 hv.2;refine rises_ext _ _ ?_ (rises_itemsW hg) fun x=> ?_
   ·obtain ⟨r1,r2,r3⟩:=List.pairwise_append.1 hr;rw [List.append_assoc];refine List.pairwise_append.2 ⟨r1,List.pairwise_cons.2 ⟨fun z hz=>hZ z hz,r2⟩,fun a ha b hb=> ?_⟩;rcases List.mem_cons.1 hb with rfl|hb
    ·exact hX a ha
    ·exact r3 a ha b hb
   ·obtain ⟨xk,xv⟩:=x;rw [mem_itemsW hg,(put_spec t _ v h.wf (Nib.fit_of k) hv.1).2.1 _ (Nib.fit_of xk)];have h1:=hm (xk,xv);rw [mem_itemsW h] at h1;simp only [List.mem_append,List.mem_singleton,Prod.mk.injEq];by_cases e:xk=k
    ·subst e;rw [if_pos rfl];have h2:¬((xk,xv)∈X∨(xk,xv)∈Z):=fun h3=>(h1.2 h3).2 rfl
     constructor
     ·rintro ((hx|hx)|hx)
      ·exact absurd (.inl hx) h2
      ·exact ⟨hx.2.symm,by rw [hx.2]; exact hv.1⟩
      ·exact absurd (.inr hx) h2
     ·rintro ⟨e,_⟩;exact .inl (.inr ⟨rfl,e.symm⟩)
    ·rw [if_neg (fun h3=>e (Nib.of_inj h3))]
     constructor
     ·rintro ((hx|hx)|hx)
      ·exact (h1.2 (.inl hx)).1
      ·exact absurd hx.1 e
      ·exact (h1.2 (.inr hx)).1
     ·intro hx;rcases h1.1 ⟨hx,e⟩ with h3|h3
      ·exact .inl (.inl h3)
      ·exact .inr h3
 ·rw [if_neg hk,if_neg hk];exact ⟨rfl,fun e=>by cases e⟩
end Trie
namespace Ex
open Pw Trie
structure Tx where
 kind:Int
 frm:List UInt8
 seq:Int
 dst:List UInt8
 amt:Int
 key:List UInt8
 val:List UInt8
 mem:List Mem
def nameW (s:List UInt8):Bool:=decide (1≤s.length) && decide (s.length≤6)
abbrev maxA:Nat:=1099511627776
def bareX (x:Tx):Bool:=
 if x.kind=1 then x.key.isEmpty && x.val.isEmpty && x.mem.isEmpty
 else if x.kind=2 then x.dst.isEmpty && decide (x.amt=0) && x.mem.isEmpty
 else if x.kind=3 then x.dst.isEmpty && decide (x.amt=0) && x.mem.isEmpty && x.val.isEmpty
 else if x.kind=4 then x.dst.isEmpty && decide (x.amt=0) && (x.key.isEmpty && x.val.isEmpty)
 else false
def ownX (x:Tx):Bool:=
 if x.kind=1 then nameW x.dst && decide (1≤x.amt) && decide (x.amt≤1099511627776)
 else if x.kind=2 then decide (1≤x.val.length) && decide (x.val.length≤32) && (decide (1≤x.key.length) && decide (x.key.length≤6))
 else if x.kind=3 then decide (1≤x.key.length) && decide (x.key.length≤6)
 else okM x.mem
def headX (x:Tx):Bool:=nameW x.frm && decide (0≤x.seq) && decide (x.seq≤1099511627776)
def fineX (x:Tx):Bool:=bareX x && headX x && ownX x
def aKey (n:List UInt8):List UInt8:=97::58::n
def dKey (k:List UInt8):List UInt8:=100::58::k
def sKey:List UInt8:= [115]
def rootB:List UInt8:= [114,111,111,116]
def writA (p:Nat × Nat):List UInt8:=numW p.1++numW p.2
def parseA (v:List UInt8):Option (Nat × Nat):=
 if endS (numS (numS (v,0)).2).2=0∧(numS (v,0)).1≤maxA∧(numS (numS (v,0)).2).1≤maxA then some ((numS (v,0)).1,(numS (numS (v,0)).2).1) else none
theorem parseA_writA {a b:Nat} (ha:a≤maxA) (hb:b≤maxA):parseA (writA (a,b))=some (a,b):=by
 have h1:=numT_of a (by unfold maxA at ha; omega) (numW b);have h2:=numT_of b (by unfold maxA at hb; omega) [];rw [List.append_nil] at h2;have e1:numS (writA (a,b),0)=(a,(numW b,0)):=by
  unfold numS writA;rw [if_neg (by simp),h1,if_pos rfl]
 have e2:numS (numW b,0)=(b,([],0)):=by
  unfold numS;rw [if_neg (by simp),h2,if_pos rfl]
 unfold parseA;rw [e1];simp only
 rw [e2];simp only
 rw [if_pos ⟨rfl,ha,hb⟩]
theorem parseA_le {v:List UInt8} {p:Nat × Nat} (h:parseA v=some p):p.1≤maxA∧p.2≤maxA:=by
 unfold parseA at h
 split at h
 ·rename_i hc;injection h with h
  subst h;exact ⟨hc.2.1,hc.2.2⟩
 ·cases h
def acc (t:T) (n:List UInt8):Option (Nat × Nat):=if (getW t (aKey n)).2=0 then parseA (getW t (aKey n)).1 else some (0,0)
theorem acc_le {t:T} {n:List UInt8} {p:Nat × Nat} (h:acc t n=some p):p.1≤maxA∧p.2≤maxA:=by
 unfold acc at h
 split at h
 ·exact parseA_le h
 ·injection h with h; subst h; exact ⟨by simp,by simp⟩
def kindW (t:T) (x:Tx) (f tt:Nat × Nat):T × Nat × Nat:=
 if x.kind=1 then
  if (f.1:Int)<x.amt then (t,161,0)
  else if x.dst=x.frm then (t,0,f.1)
  else if (1099511627776:Int) - x.amt<tt.1 then (t,1,0)
  else (put t (Nib.of (aKey x.dst)) (writA (tt.1+x.amt.toNat,tt.2)),0,f.1 - x.amt.toNat)
 else if x.kind=2 then (put t (Nib.of (dKey x.key)) x.val,0,f.1)
 else if x.kind=3 then (if (getW t (dKey x.key)).2=0 then (del t (Nib.of (dKey x.key)),0,f.1) else (t,(getW t (dKey x.key)).2,0))
 else if x.frm=rootB then (put t (Nib.of sKey) (digM x.mem),0,f.1) else (t,162,0)
theorem kindW_1 {t:T} {x:Tx} {f tt:Nat × Nat} (k:x.kind=1):kindW t x f tt=if (f.1:Int)<x.amt then (t,161,0)
  else if x.dst=x.frm then (t,0,f.1)
  else if (1099511627776:Int) - x.amt<tt.1 then (t,1,0)
  else (put t (Nib.of (aKey x.dst)) (writA (tt.1+x.amt.toNat,tt.2)),0,f.1 - x.amt.toNat):=by unfold kindW; rw [if_pos k]
theorem kindW_2 {t:T} {x:Tx} {f tt:Nat × Nat} (k:x.kind=2):kindW t x f tt=(put t (Nib.of (dKey x.key)) x.val,0,f.1):=by unfold kindW; rw [if_neg (by omega),if_pos k]
theorem kindW_3 {t:T} {x:Tx} {f tt:Nat × Nat} (k:x.kind=3):kindW t x f tt=if (getW t (dKey x.key)).2=0 then (del t (Nib.of (dKey x.key)),0,f.1) else (t,(getW t (dKey x.key)).2,0):=by unfold kindW; rw [if_neg (show ¬x.kind=1 by omega),if_neg (show ¬x.kind=2 by omega),if_pos k]
theorem kindW_4 {t:T} {x:Tx} {f tt:Nat × Nat} (k:x.kind=4):kindW t x f tt=if x.frm=rootB then (put t (Nib.of sKey) (digM x.mem),0,f.1) else (t,162,0):=by unfold kindW; rw [if_neg (show ¬x.kind=1 by omega),if_neg (show ¬x.kind=2 by omega),if_neg (show ¬x.kind=3 by omega)]
def accTo (t:T) (x:Tx):Option (Nat × Nat):=if x.kind=1 then acc t x.dst else some (0,0)
def doW (t:T) (x:Tx):T × Nat:=
 if fineX x=false then (t,150) else
 match acc t x.frm,accTo t x with
 |some f,some tt=>
  if (f.2:Int)≠x.seq∨f.2=maxA then (t,160)
  else if (kindW t x f tt).2.1=0 then (put (kindW t x f tt).1 (Nib.of (aKey x.frm)) (writA ((kindW t x f tt).2.2,f.2+1)),0)
  else (t,(kindW t x f tt).2.1)
 |_,_=>(t,3)
theorem nameW_len {s:List UInt8} (h:nameW s=true):1≤s.length∧s.length≤6:=by
 simpa [nameW] using h
theorem keyed_a {n:List UInt8} (h:n.length≤6):keyedW (aKey n)=true:=by simp [keyedW,aKey]; omega
theorem keyed_d {n:List UInt8} (h:n.length≤6):keyedW (dKey n)=true:=by simp [keyedW,dKey]; omega
theorem keyed_s:keyedW sKey=true:=rfl
theorem writA_len {p:Nat × Nat} (h:p.1≤2000000000000) (h2:p.2≤2000000000000):1≤(writA p).length∧(writA p).length≤18:=by
 have a:=numW_len p.1 (by omega);have b:=numW_len p.2 (by omega);have c:1≤(numW p.1).length:=by unfold numW; simp
 simp only [writA,List.length_append];omega
theorem ne_nil_of {l:List UInt8} (h:1≤l.length):l≠ []:=by intro e; rw [e] at h; simp at h
theorem good_putA {t:T} (h:Trie.Good t) {n:List UInt8} (hn:n.length≤6) {p:Nat × Nat} (h1:p.1≤2000000000000) (h2:p.2≤2000000000000):Trie.Good (put t (Nib.of (aKey n)) (writA p)):=by
 obtain ⟨a,b⟩:=writA_len h1 h2;exact Trie.Good.put h (keyed_a hn) (ne_nil_of a) (by omega)
theorem putCode_a {n:List UInt8} (hn:n.length≤6) {p:Nat × Nat} (h1:p.1≤2000000000000) (h2:p.2≤2000000000000):putCode (aKey n) (writA p)=0:=by
 obtain ⟨a,b⟩:=writA_len h1 h2;unfold putCode;rw [if_pos (keyed_a hn),if_neg];simp only [Bool.or_eq_true,decide_eq_true_eq,List.isEmpty_iff,not_or];exact ⟨ne_nil_of a,by omega⟩
theorem putCode_v {k v:List UInt8} (hk:keyedW k=true) (h1:1≤v.length) (h2:v.length≤32):putCode k v=0:=by
 unfold putCode;rw [if_pos hk,if_neg];simp only [Bool.or_eq_true,decide_eq_true_eq,List.isEmpty_iff,not_or];exact ⟨ne_nil_of h1,by omega⟩
theorem fineX_spec {x : Tx} (h : fineX x = true) : nameW x.frm = true ∧ 0 ≤ x.seq ∧ x.seq ≤ 1099511627776 ∧
    ((x.kind = 1 ∧ nameW x.dst = true ∧ 1 ≤ x.amt ∧ x.amt ≤ 1099511627776 ∧ x.key = [] ∧ x.val = [] ∧ x.mem = []) ∨
     (x.kind = 2 ∧ x.dst = [] ∧ x.amt = 0 ∧ x.mem = [] ∧ 1 ≤ x.val.length ∧ x.val.length ≤ 32 ∧ 1 ≤ x.key.length ∧ x.key.length ≤ 6) ∨
     (x.kind = 3 ∧ x.dst = [] ∧ x.amt = 0 ∧ x.mem = [] ∧ x.val = [] ∧ 1 ≤ x.key.length ∧ x.key.length ≤ 6) ∨
     (x.kind = 4 ∧ x.dst = [] ∧ x.amt = 0 ∧ x.key = [] ∧ x.val = [] ∧ okM x.mem = true)) := by
  simp only [fineX, headX, Bool.and_eq_true, decide_eq_true_eq] at h
  obtain ⟨⟨hb, ⟨h1, h2⟩, h3⟩, ho⟩ := h
  refine ⟨h1, h2, h3, ?_⟩
  unfold bareX at hb
  unfold ownX at ho
  by_cases k1 : x.kind = 1
  · rw [if_pos k1] at hb ho
    simp only [Bool.and_eq_true, decide_eq_true_eq, List.isEmpty_iff] at hb ho
    exact .inl ⟨k1, ho.1.1, ho.1.2, ho.2, hb.1.1, hb.1.2, hb.2⟩
  rw [if_neg k1] at hb ho
  by_cases k2 : x.kind = 2
  · rw [if_pos k2] at hb ho
    simp only [Bool.and_eq_true, decide_eq_true_eq, List.isEmpty_iff] at hb ho
    exact .inr (.inl ⟨k2, hb.1.1, hb.1.2, hb.2, ho.1.1, ho.1.2, ho.2.1, ho.2.2⟩)
  rw [if_neg k2] at hb ho
  by_cases k3 : x.kind = 3
  · rw [if_pos k3] at hb ho
    simp only [Bool.and_eq_true, decide_eq_true_eq, List.isEmpty_iff] at hb ho
    exact .inr (.inr (.inl ⟨k3, hb.1.1.1, hb.1.1.2, hb.1.2, hb.2, ho.1, ho.2⟩))
  rw [if_neg k3] at hb ho
  by_cases k4 : x.kind = 4
  · rw [if_pos k4] at hb
    simp only [Bool.and_eq_true, decide_eq_true_eq, List.isEmpty_iff] at hb
    exact .inr (.inr (.inr ⟨k4, hb.1.1, hb.1.2, hb.2.1, hb.2.2, ho⟩))
  · rw [if_neg k4] at hb; cases hb
theorem kindW_good {t:T} (h:Trie.Good t) {x:Tx} (hx:fineX x=true) {f tt:Nat × Nat} (hf:f.1≤maxA) (ht:tt.1≤maxA∧tt.2≤maxA):
  Trie.Good (kindW t x f tt).1∧count (kindW t x f tt).1≤count t+1∧(kindW t x f tt).2.2≤maxA:=by
 obtain ⟨_,_,_,hk⟩:=fineX_spec hx;unfold maxA at *;unfold kindW;rcases hk with ⟨k,hto,ha1,ha2,_⟩|⟨k,_,_,_,v1,v2,q1,q2⟩|⟨k,_,_,_,_,q1,q2⟩|⟨k,_,_,_,_,hm⟩
 ·rw [if_pos k]
  split
  ·exact ⟨h,by simp,by simp⟩
  split
  ·exact ⟨h,by simp,hf⟩
  split
  ·exact ⟨h,by simp,by simp⟩
  rename_i h3;refine ⟨good_putA h (nameW_len hto).2 (by simp only; omega) (by simp only; omega),count_put _ _ _,by simp only; omega⟩
 ·rw [if_neg (by omega),if_pos k];exact ⟨Trie.Good.put h (keyed_d q2) (ne_nil_of v1) v2,count_put _ _ _,hf⟩
 ·rw [if_neg (by omega),if_neg (by omega),if_pos k]
  split
  ·rename_i hg;have hl:Trie.look t (Nib.of (dKey x.key))≠ []:=by
    intro e;unfold getW at hg;rw [if_pos (keyed_d q2),e] at hg;simp at hg
   refine ⟨Trie.Good.del h hl,?_,hf⟩
   have:=count_del t (Nib.of (dKey x.key)) h.wf (Nib.fit_of _) hl
   simp only; omega
  ·exact ⟨h,by simp,by simp⟩
 ·rw [if_neg (by omega),if_neg (by omega),if_neg (by omega)]
  split
  ·refine ⟨Trie.Good.put h keyed_s (ne_nil_of (by rw [digM_len hm]; omega)) (by rw [digM_len hm]; omega),count_put _ _ _,hf⟩
  ·exact ⟨h,by simp,by simp⟩
theorem doW_good {t:T} (h:Trie.Good t) (x:Tx):Trie.Good (doW t x).1∧count (doW t x).1≤count t+2:=by
 unfold doW
 split
 ·exact ⟨h,by simp⟩
 rename_i hx;have hx:fineX x=true:=by simpa using hx
 split
 ·rename_i f tt hf ht;have hle:tt.1≤maxA∧tt.2≤maxA:=by
   unfold accTo at ht
   split at ht
   ·exact acc_le ht
   ·injection ht with ht; subst ht; exact ⟨by simp,by simp⟩
  obtain ⟨g1,g2,g3⟩:=kindW_good h hx (acc_le hf).1 hle;have hs:=(acc_le hf).2;unfold maxA at g3 hs
  split
  ·exact ⟨h,by simp⟩
  split
  ·refine ⟨good_putA g1 (nameW_len (fineX_spec hx).1).2 (by simp only; omega) (by simp only; omega),?_⟩
   have:=count_put (kindW t x f tt).1 (Nib.of (aKey x.frm)) (writA ((kindW t x f tt).2.2,f.2+1))
   simp only; omega
  ·exact ⟨h,by simp⟩
 ·exact ⟨h,by simp⟩
abbrev Rc:=Int × List UInt8 × Int
def allGo : T → List Tx → List Mem → T × List Rc × List Mem
  | t, [], m => (t, [], m)
  | t, x :: r, m =>
    ((allGo (doW t x).1 r (if (doW t x).2 = 0 ∧ x.kind = 4 then x.mem else m)).1,
     (((doW t x).2 : Int), x.frm, x.seq) :: (allGo (doW t x).1 r (if (doW t x).2 = 0 ∧ x.kind = 4 then x.mem else m)).2.1,
     (allGo (doW t x).1 r (if (doW t x).2 = 0 ∧ x.kind = 4 then x.mem else m)).2.2)
theorem allGo_good:∀ (l:List Tx) (t:T) (m:List Mem),Trie.Good t→Trie.Good (allGo t l m).1∧count (allGo t l m).1≤count t+2*l.length∧(allGo t l m).2.1.length=l.length
 | [],t,m,h=>⟨h,by simp [allGo],rfl⟩
 |x::r,t,m,h=>by
  obtain ⟨h1,h2⟩:=doW_good h x;obtain ⟨h3,h4,h5⟩:=allGo_good r _ (if (doW t x).2=0∧x.kind=4 then x.mem else m) h1;refine ⟨h3,?_,?_⟩
  ·simp only [allGo,List.length_cons]; omega
  ·simp only [allGo,List.length_cons,h5]
abbrev Ac:=List UInt8 × Int × Int
def okA (a:Ac):Bool:=nameW a.1 && (decide (0≤a.2.1) && decide (a.2.1≤1099511627776)) && (decide (0≤a.2.2) && decide (a.2.2≤1099511627776))
def genA:T→List Ac→T × Nat
 |t,[]=>(t,0)
 |t,a::r=>if okA a=false then (t,1) else if (getW t (aKey a.1)).2=0 then (t,6) else genA (put t (Nib.of (aKey a.1)) (writA (a.2.1.toNat,a.2.2.toNat))) r
def genW (l:List Ac) (set:List Mem):T × Nat:=
 if 8<l.length then (.nil,2) else if (genA .nil l).2≠0 then (.nil,(genA .nil l).2) else if okM set=false then (.nil,50)
 else (put (genA .nil l).1 (Nib.of sKey) (digM set),0)
theorem okA_spec {a:Ac} (h:okA a=true):nameW a.1=true∧0≤a.2.1∧a.2.1≤1099511627776∧0≤a.2.2∧a.2.2≤1099511627776:=by
 simp only [okA,Bool.and_eq_true,decide_eq_true_eq] at h;exact ⟨h.1.1,h.1.2.1,h.1.2.2,h.2.1,h.2.2⟩
theorem genA_good:∀ (l:List Ac) (t:T),Trie.Good t→Trie.Good (genA t l).1∧count (genA t l).1≤count t+l.length
 | [],t,h=>⟨h,by simp [genA]⟩
 |a::r,t,h=>by
  simp only [genA]
  split
  ·exact ⟨h,by simp⟩
  rename_i ha;obtain ⟨a1,a2,a3,a4,a5⟩:=okA_spec (a:=a) (by simpa using ha)
  split
  ·exact ⟨h,by simp⟩
  obtain ⟨g1,g2⟩:=genA_good r _ (good_putA (t:=t) h (nameW_len a1).2 (p:=(a.2.1.toNat,a.2.2.toNat)) (by simp only; omega) (by simp only; omega))
  have:=count_put t (Nib.of (aKey a.1)) (writA (a.2.1.toNat,a.2.2.toNat))
  exact ⟨g1,by simp only [List.length_cons]; omega⟩
theorem genW_good (l:List Ac) (set:List Mem):Trie.Good (genW l set).1∧count (genW l set).1≤9:=by
 unfold genW
 split
 ·exact ⟨Trie.Good.nil,by simp [count]⟩
 split
 ·exact ⟨Trie.Good.nil,by simp [count]⟩
 split
 ·exact ⟨Trie.Good.nil,by simp [count]⟩
 rename_i h1 _ hm;have hm:okM set=true:=by simpa using hm
 obtain ⟨g1,g2⟩:=genA_good l .nil Trie.Good.nil;refine ⟨Trie.Good.put g1 keyed_s (ne_nil_of (by rw [digM_len hm]; omega)) (by rw [digM_len hm]; omega),?_⟩
 have:=count_put (genA .nil l).1 (Nib.of sKey) (digM set)
 simp only [count] at g2;simp only; omega
end Ex
def listW (l:List (List UInt8)):List UInt8:=numW l.length++(l.map textW).flatten
theorem listW_len (k:Nat) (hk:k≤1000000):∀ (l:List (List UInt8)),(∀ s∈l,s.length≤k)→(l.map textW).flatten.length≤(k+9)*l.length
 | [],_=>by simp
 |x::l,h=>by
  have ih:=listW_len k hk l fun s hs=>h s (by simp [hs]);have h1:=h x (by simp);have h2:=numW_len x.length (by omega);have e:(k+9)*(l.length+1)=(k+9)*l.length+(k+9):=by rw [Nat.mul_add,Nat.mul_one]
  simp only [List.map_cons,List.flatten_cons,List.length_append,List.length_cons,textW];omega
namespace Ex
open Pw Trie
def bodyX (x:Tx):List UInt8:=if x.kind=1 then textW x.dst++numW x.amt.toNat else if x.kind=2 then textW x.key++textW x.val else if x.kind=3 then textW x.key else textW (encM x.mem)
def writX (x:Tx):List UInt8:=UInt8.ofNat x.kind.toNat::(textW x.frm++numW x.seq.toNat)++bodyX x
def rootX (l:List Tx):List UInt8:=shaW (3::listW (l.map writX))
theorem text_le {s:List UInt8} {k:Nat} (h:s.length≤k) (hk:k≤1000000):(textW s).length≤k+9:=by
 have:=numW_len s.length (by omega)
 simp only [textW,List.length_append];omega
theorem writX_len {x:Tx} (h:fineX x=true):(writX x).length≤300:=by
 obtain ⟨h1,h2,h3,h4⟩:=fineX_spec h;have a:=text_le (nameW_len h1).2 (by omega);have b:=numW_len x.seq.toNat (by omega);have c:(bodyX x).length≤240:=by
  unfold bodyX;rcases h4 with ⟨k,hn,a1,a2,_⟩|⟨k,_,_,_,v1,v2,q1,q2⟩|⟨k,_,_,_,_,q1,q2⟩|⟨k,_,_,_,_,hm⟩
  ·rw [if_pos k]
   have:=text_le (nameW_len hn).2 (by omega)
   have:=numW_len x.amt.toNat (by omega)
   simp only [List.length_append]; omega
  ·rw [if_neg (by omega),if_pos k]
   have:=text_le v2 (by omega)
   have:=text_le q2 (by omega)
   simp only [List.length_append]; omega
  ·rw [if_neg (by omega),if_neg (by omega),if_pos k]
   have:=text_le q2 (by omega)
   omega
  ·rw [if_neg (by omega),if_neg (by omega),if_neg (by omega)]
   have:=text_le (encM_len hm) (by omega)
   omega
 simp only [writX,List.length_append,List.length_cons];omega
theorem rootX_len (l:List Tx):(rootX l).length=32:=shaW_length _
theorem listX_len {l:List Tx} (h:∀ x∈l,fineX x=true) (h8:l.length≤8):(listW (l.map writX)).length≤3000:=by
 have:=listW_len 300 (by omega) (l.map writX) (by intro s hs; obtain ⟨x,hx,rfl⟩:=List.mem_map.1 hs; exact writX_len (h x hx))
 have:=numW_len (l.map writX).length (by rw [List.length_map]; omega)
 rw [List.length_map] at *;unfold listW;rw [List.length_append,List.length_map];omega
def noRoom (t:T) (k:List UInt8):Bool:=decide (1024≤count t) && decide ((getW t k).2≠0)
def keyX (x:Tx):Option (List UInt8):=if x.kind=1 then (if x.dst=x.frm then none else some (aKey x.dst)) else if x.kind=2 then some (dKey x.key) else if x.kind=3 then none else some sKey
def midW (t:T) (x:Tx):T:=match acc t x.frm,accTo t x with
 |some f,some tt=>(kindW t x f tt).1
 |_,_=>t
def full1 (t:T) (x:Tx):Bool:=match keyX x with
 |some k=>noRoom t k
 |none=>false
def doL (t:T) (x:Tx):T × Nat:=
 if (doW t x).2≠0 then (t,(doW t x).2) else if full1 t x=true then (t,2) else if noRoom (midW t x) (aKey x.frm)=true then (t,2) else ((doW t x).1,0)
theorem doL_no {t:T} {x:Tx} {c:Nat} (h:(doW t x).2=c) (hc:c≠0):doL t x=(t,c):=by unfold doL; rw [if_pos (by omega),h]
theorem doL_two {t:T} {x:Tx} (h:(doW t x).2=0) (h1:full1 t x=false):doL t x=if noRoom (midW t x) (aKey x.frm)=true then (t,2) else ((doW t x).1,0):=by
 unfold doL; rw [if_neg (by omega),if_neg (by rw [h1]; decide)]
theorem noRoom_few {t:T} {k:List UInt8} (h:count t<1024):noRoom t k=false:=by unfold noRoom; rw [decide_eq_false (by omega)]; rfl
theorem putCode_keyed {k v:List UInt8} (h:putCode k v=0):keyedW k=true∧¬(v.isEmpty||decide (32<v.length))=true:=by
 unfold putCode at h;by_cases hk:keyedW k=true
 ·rw [if_pos hk] at h;refine ⟨hk,fun e=> ?_⟩;rw [if_pos e] at h;cases h
 ·rw [if_neg hk] at h; cases h
theorem len_itemsW (t:T):(itemsW t).length=count t:=by rw [itemsW,List.length_map,length_items]
theorem put_room {t:T} (hg:Trie.Good t) (h:count t≤1024) {k v:List UInt8} (hp:putCode k v=0) (hn:noRoom t k=false):count (put t (Nib.of k) v)≤1024:=by
 by_cases hc:count t<1024
 ·have:=count_put t (Nib.of k) v
  omega
 obtain ⟨hk,hv⟩:=putCode_keyed hp;have hg0:(getW t k).2=0:=by simpa [noRoom,decide_eq_true (show 1024≤count t by omega)] using hn
 have hat:(atI k (itemsW t)).2=true:=by
  have hr:=rget_getW hg k;unfold rget at hr;rw [if_pos hk] at hr;by_cases ht:(atI k (itemsW t)).2=true
  ·exact ht
  ·rw [if_neg ht] at hr;rw [←hr] at hg0;cases hg0
 have hle:=(atI_le k (itemsW t)).2 hat;have hl:=congrArg List.length ((rput_put hg k v).2 hp);rw [len_itemsW] at hl hle;rw [←hl];unfold rput;rw [if_pos hk,if_neg hv];simp only [hat,if_true,List.length_append,List.length_take,List.length_drop,List.length_cons,List.length_nil,len_itemsW];omega
theorem mid_room {t:T} (hg:Trie.Good t) (h:count t≤1024) {x:Tx} (hx:fineX x=true) {f tt:Nat × Nat} (hf:f.1≤maxA) (ht:tt.1≤maxA∧tt.2≤maxA) (hn:full1 t x=false):count (kindW t x f tt).1≤1024:=by
 obtain ⟨_,_,_,hk⟩:=fineX_spec hx;unfold maxA at *;unfold full1 keyX at hn;unfold kindW;rcases hk with ⟨k,hto,ha1,ha2,_⟩|⟨k,_,_,_,v1,v2,q1,q2⟩|⟨k,_,_,_,_,q1,q2⟩|⟨k,_,_,_,_,hm⟩
 ·rw [if_pos k] at hn ⊢
  split
  ·exact h
  split
  ·exact h
  rename_i hd;rw [if_neg hd] at hn
  split
  ·exact h
  rename_i h3;exact put_room hg h (putCode_a (nameW_len hto).2 (by simp only; omega) (by simp only; omega)) hn
 ·rw [if_neg (by omega),if_pos k] at hn ⊢;exact put_room hg h (putCode_v (keyed_d q2) v1 v2) hn
 ·rw [if_neg (by omega),if_neg (by omega),if_pos k]
  split
  ·rename_i hgt;have hl:Trie.look t (Nib.of (dKey x.key))≠ []:=by
    intro e;unfold getW at hgt;rw [if_pos (keyed_d q2),e] at hgt;simp at hgt
   have:=count_del t (Nib.of (dKey x.key)) hg.wf (Nib.fit_of _) hl
   simp only; omega
  ·exact h
 ·rw [if_neg (by omega),if_neg (by omega),if_neg (by omega)] at hn ⊢
  split
  ·exact put_room hg h (putCode_v keyed_s (by rw [digM_len hm]; omega) (by rw [digM_len hm]; omega)) hn
  ·exact h
theorem doL_good {t:T} (hg:Trie.Good t) (h:count t≤1024) (x:Tx):Trie.Good (doL t x).1∧count (doL t x).1≤1024:=by
 unfold doL
 split
 ·exact ⟨hg,h⟩
 rename_i h0;have h0:(doW t x).2=0:=by omega
 split
 ·exact ⟨hg,h⟩
 rename_i h1;have h1:full1 t x=false:=by simpa using h1
 split
 ·exact ⟨hg,h⟩
 rename_i h2;have h2:noRoom (midW t x) (aKey x.frm)=false:=by simpa using h2
 refine ⟨(doW_good hg x).1,?_⟩;unfold midW at h2;unfold doW at h0 ⊢;by_cases hx:fineX x=true;rotate_left
 ·rw [if_pos (by simpa using hx)] at h0;cases h0
 rw [if_neg (by rw [hx]; decide)] at h0 ⊢;cases hf:acc t x.frm with
 |none=>rw [hf] at h0; cases h0
 |some f=>
 cases ht:accTo t x with
 |none=>rw [hf,ht] at h0; cases h0
 |some tt=>
 rw [hf,ht] at h0 h2;simp only at h0 h2 ⊢;have hle:tt.1≤maxA∧tt.2≤maxA:=by
  unfold accTo at ht
  split at ht
  ·exact acc_le ht
  ·injection ht with ht; subst ht; exact ⟨by simp,by simp⟩
 obtain ⟨g1,g2,g3⟩:=kindW_good hg hx (acc_le hf).1 hle;have g4:=mid_room hg h hx (acc_le hf).1 hle h1;have hs:=(acc_le hf).2;unfold maxA at g3 hs
 split at h0
 ·cases h0
 rename_i hq;rw [if_neg hq]
 split at h0
 ·rename_i hk;rw [if_pos hk];exact put_room g1 g4 (putCode_a (nameW_len (fineX_spec hx).1).2 (by simp only; omega) (by simp only; omega)) h2
 ·rename_i hk;exact absurd h0 hk
def allGoL : T → List Tx → List Mem → T × List Rc × List Mem
  | t, [], m => (t, [], m)
  | t, x :: r, m =>
    ((allGoL (doL t x).1 r (if (doL t x).2 = 0 ∧ x.kind = 4 then x.mem else m)).1,
     (((doL t x).2 : Int), x.frm, x.seq) :: (allGoL (doL t x).1 r (if (doL t x).2 = 0 ∧ x.kind = 4 then x.mem else m)).2.1,
     (allGoL (doL t x).1 r (if (doL t x).2 = 0 ∧ x.kind = 4 then x.mem else m)).2.2)
theorem allGoL_good:∀ (l:List Tx) (t:T) (m:List Mem),Trie.Good t→count t≤1024→Trie.Good (allGoL t l m).1∧count (allGoL t l m).1≤1024∧(allGoL t l m).2.1.length=l.length
 | [],t,m,h,hc=>⟨h,hc,rfl⟩
 |x::r,t,m,h,hc=>by
  obtain ⟨h1,h2⟩:=doL_good h hc x;obtain ⟨h3,h4,h5⟩:=allGoL_good r _ (if (doL t x).2=0∧x.kind=4 then x.mem else m) h1 h2;refine ⟨h3,h4,?_⟩;simp only [allGoL,List.length_cons,h5]
theorem allGoL_next:∀ (l:List Tx) (t:T) (m:List Mem),(∀ x∈l,fineX x=true)→(m= []∨okM m=true)→(allGoL t l m).2.2= []∨okM (allGoL t l m).2.2=true
 | [],t,m,h,hm=>hm
 |x::r,t,m,h,hm=>by
  simp only [allGoL];refine allGoL_next r _ _ (fun y hy=>h y (by simp [hy])) ?_
  split
  ·rename_i hc;obtain ⟨_,_,_,hk⟩:=fineX_spec (h x (by simp));rcases hk with ⟨k,_⟩|⟨k,_⟩|⟨k,_⟩|⟨k,_,_,_,_,hmm⟩
   ·omega
   ·omega
   ·omega
   ·exact .inr hmm
  ·exact hm
def allL (t:T) (l:List Tx):(T × List Rc × List Mem) × Nat:=
 if 8<l.length then ((.nil,[],[]),2) else if l.all fineX=false then ((.nil,[],[]),150) else (allGoL t l [],0)
theorem allL_ok {t:T} {l:List Tx} (h:(allL t l).2=0):l.length≤8∧(∀ x∈l,fineX x=true)∧allL t l=(allGoL t l [],0):=by
 unfold allL at h ⊢
 split at h
 ·cases h
 rename_i h8
 split at h
 ·cases h
 rename_i hf;rw [if_neg h8,if_neg hf];exact ⟨by omega,by simpa using hf,rfl⟩
end Ex
section
open Nib
def stepW (n:Nd) (left:List UInt8):List UInt8 × List UInt8:=
 if common n.2.1 left≠n.2.1.length then ([],[])
 else if n.1=2 then (n.2.2.2.getD 0 [],left.drop n.2.1.length)
 else if n.1=1∧n.2.1.length<left.length then ([],[])
 else if n.1=1∨left= [] then ([],n.2.2.1)
 else if n.2.2.2.getD (left.headD 0).toNat []= [] then ([],[])
 else (n.2.2.2.getD (left.headD 0).toNat [],left.tail)
def followW:List UInt8→List UInt8→List (List UInt8)→Nat→List UInt8 × Nat × Bool
 |_,_,[],k=>([],k,false)
 |sought,left,x::r,k=>
  if shaW (1::x)≠sought∨(decN x).2≠0 then ([],k,false)
  else if (stepW (decN x).1 left).1= [] then ((stepW (decN x).1 left).2,k+1,true)
  else followW (stepW (decN x).1 left).1 (stepW (decN x).1 left).2 r (k+1)
def verifyW (root key:List UInt8) (nodes:List (List UInt8)):List UInt8 × Bool × Nat:=
 if Trie.keyedW key=false then ([],false,1)
 else if root= [] then (if nodes= [] then ([],false,0) else ([],false,130))
 else if (followW root (Nib.of key) nodes 0).2.2=true∧(followW root (Nib.of key) nodes 0).2.1=nodes.length then ((followW root (Nib.of key) nodes 0).1,decide ((followW root (Nib.of key) nodes 0).1≠ []),0)
 else ([],false,130)
theorem followW_cons (s left x:List UInt8) (r:List (List UInt8)) (k:Nat):followW s left (x::r) k=if shaW (1::x)≠s∨(decN x).2≠0 then ([],k,false)
  else if (stepW (decN x).1 left).1= [] then ((stepW (decN x).1 left).2,k+1,true)
  else followW (stepW (decN x).1 left).1 (stepW (decN x).1 left).2 r (k+1):=rfl
theorem followW_le:∀ (r:List (List UInt8)) (s l:List UInt8) (k:Nat),(followW s l r k).2.1≤k+r.length
 | [],_,_,_=>by simp [followW]
 |x::r,s,l,k=>by
  rw [followW_cons]
  split
  ·show k≤_;omega
  ·split
   ·show k+1≤_;simp
   ·have:=followW_le r (stepW (decN x).1 l).1 (stepW (decN x).1 l).2 (k+1)
    rw [List.length_cons]; omega
theorem headD_ix {a:UInt8} (h:a≤15):a.toNat=(Trie.ix a).val:=by
 have:a.toNat≤15:=by rw [UInt8.le_iff_toNat_le] at h; exact h
 unfold Trie.ix;simp
 omega
namespace Trie
def nd (t:T):Nd:=(kindT t,pathT t,valT t,sumsT t)
theorem decN_text {t:T} (hn:t≠ .nil) (hw:wf t) (hs:small t):decN (textT t)=(nd t,0):=
 decN_of (nd t) (sumsT_length t) (fineT hn hw hs)
theorem sum_text {t:T} (hn:t≠ .nil):shaW (1::textT t)=sumT t:=(sumT_eq hn).symm
def trailT:T→List UInt8→List T
 | .nil,_=> []
 | .leaf p v,_=> [.leaf p v]
 | .ext p t,q=> .ext p t::if common p q=p.length then trailT t (q.drop p.length) else []
 | .branch v kids,q=> .branch v kids::match q with
  | []=> []
  |b::r=>trailT (kids (ix b)) r
theorem step_leaf (p v q:List UInt8):stepW (nd (.leaf p v)) q=([],look (.leaf p v) q):=by
 unfold stepW nd;simp only [pathT,kindT,valT,look];by_cases h:common p q=p.length
 ·rw [if_neg (by simpa using h),if_neg (by decide)];have hq:=prefix_common.1 h;have hle:=(common_le p q).2;by_cases hl:p.length<q.length
  ·rw [if_pos ⟨trivial,hl⟩,if_neg (fun e=>by rw [e] at hl; omega)]
  ·rw [if_neg (fun e=>hl e.2),if_pos (.inl trivial),if_pos];rw [hq,List.drop_of_length_le (by omega),List.append_nil]
 ·rw [if_pos h,if_neg (fun e=>h (by subst e; have:=(common_take q q q.length).2 ⟨Nat.le_refl _,Nat.le_refl _,rfl⟩; have:=(common_le q q).1; omega))]
theorem step_ext (p q:List UInt8) (t:T):stepW (nd (.ext p t)) q=if common p q=p.length then (sumT t,q.drop p.length) else ([],[]):=by
 unfold stepW nd;simp only [pathT,kindT,valT];by_cases h:common p q=p.length
 ·rw [if_neg (by simpa using h),if_pos trivial,if_pos h];rfl
 ·rw [if_pos h,if_neg h]
theorem step_end (v:List UInt8) (kids:Fin 16→T):stepW (nd (.branch v kids)) []=([],v):=by
 unfold stepW nd;simp only [pathT,kindT,valT];rfl
theorem common_nil (q:List UInt8):common [] q=0:=by cases q<;>rfl
theorem stepW_branch (v:List UInt8) (K:List (List UInt8)) (b:UInt8) (r:List UInt8):stepW (3,[],v,K) (b::r)=if K.getD b.toNat []= [] then ([],[]) else (K.getD b.toNat [],r):=by
 unfold stepW;simp [common_nil]
theorem step_branch (v:List UInt8) (kids:Fin 16→T) (b:UInt8) (r:List UInt8) (hb:b≤15):stepW (nd (.branch v kids)) (b::r)=if sumT (kids (ix b))= [] then ([],[]) else (sumT (kids (ix b)),r):=by
 have e:(sumsT (.branch v kids)).getD b.toNat []=sumT (kids (ix b)):=by
  rw [headD_ix hb,sumsT_at];rfl
 show stepW (3,[],v,sumsT (.branch v kids)) (b::r)=_;rw [stepW_branch];simp only [e]
theorem sumT_empty {t:T}:sumT t= []↔t= .nil:=by
 constructor
 ·intro h;refine Classical.byContradiction fun hn=> ?_
  have:=sumT_len hn
  rw [h] at this;cases this
 ·intro h; subst h; rfl
theorem follow_trail (t:T):∀ (q:List UInt8) (k:Nat),t≠ .nil→wf t→small t→fit q=true→followW (sumT t) q ((trailT t q).map textT) k=(look t q,k+(trailT t q).length,true):=by
 induction t with
 |nil=>intro q k h; exact absurd rfl h
 |leaf p v=>
  intro q k hn hw hs hq;simp only [trailT,List.map_cons,List.map_nil,List.length_singleton];rw [followW_cons,decN_text hn hw hs,sum_text hn,if_neg (by simp),step_leaf,if_pos rfl]
 |ext p t ih=>
  intro q k hn hw hs hq;have hnt:t≠ .nil:=fun e=>by have:=hw.2.2.1; rw [e] at this; cases this
  simp only [trailT,List.map_cons,List.length_cons];rw [followW_cons,decN_text hn hw hs,sum_text hn,if_neg (by simp),step_ext];simp only [look];by_cases hc:common p q=p.length
  ·rw [if_pos hc,if_pos hc,if_pos hc,if_neg (fun e=>hnt (sumT_empty.1 e)),ih _ _ hnt hw.2.2.2 (small_ext hw.1 hs) (fit_drop _ hq)];simp only [Prod.mk.injEq,true_and,and_true];omega
  ·rw [if_neg hc,if_neg hc,if_neg hc,if_pos rfl];rfl
 |branch v kids ih=>
  intro q k hn hw hs hq;cases q with
  |nil=>
   simp only [trailT,List.map_cons,List.map_nil,List.length_singleton];rw [followW_cons,decN_text hn hw hs,sum_text hn,if_neg (by simp),step_end,if_pos rfl];rfl
  |cons b r=>
   obtain ⟨hb,hr⟩:=fit_cons hq;simp only [trailT,List.map_cons,List.length_cons];rw [followW_cons,decN_text hn hw hs,sum_text hn,if_neg (by simp),step_branch _ _ _ _ hb];simp only [look];by_cases he:kids (ix b)= .nil
   ·rw [if_pos (sumT_empty.2 he),if_pos rfl,he];rfl
   ·rw [if_neg (fun e=>he (sumT_empty.1 e)),if_neg (fun e=>he (sumT_empty.1 e)),ih _ _ _ he (hw.1 _) (small_kid hs _) hr];simp only [Prod.mk.injEq,true_and,and_true];omega
def knots:T→List T
 | .nil=> []
 | .leaf p v=> [.leaf p v]
 | .ext p t=> .ext p t::knots t
 | .branch v kids=> .branch v kids::(List.finRange 16).flatMap fun i=>knots (kids i)
theorem goT_knots (t:T):∀ pl,(goT allW t pl).map (·.2)=knots t:=by
 induction t with
 |nil=>intro pl; rfl
 |leaf p v=>intro pl; simp [goT,allW,knots]
 |ext p t ih=>intro pl; simp only [goT,allW,if_true,List.map_cons,knots]; rw [←ih (pl++p)]
 |branch v kids ih=>
  intro pl;simp only [goT,allW,if_true,List.map_cons,knots,List.map_flatMap]
  congr 2
  funext i
  rw [←ih i (pl++ [hb i])]
theorem told_knots (t:T):toldW allW t=(knots t).map textT:=by
 rw [←goT_knots t [],toldW,textsD,List.map_map];rfl
theorem trailW_iff {path pl:List UInt8}:trailW path pl=true↔path=pl++path.drop pl.length:=by
 unfold trailW;rw [decide_eq_true_eq];exact prefix_common
theorem goT_no (may:List UInt8→Bool) (t:T) (pl:List UInt8) (h:may pl=false):goT may t pl= []:=by
 cases t<;>simp [goT,h]
theorem goT_trail (t:T):∀ (pl q:List UInt8),wf t→fit q=true→(goT (trailW (pl++q)) t pl).map (·.2)=trailT t q:=by
 have yes:∀ pl q:List UInt8,trailW (pl++q) pl=true:=fun pl q=>trailW_iff.2 (by simp)
 induction t with
 |nil=>intro pl q _ _; rfl
 |leaf p v=>intro pl q _ _; simp [goT,yes,trailT]
 |ext p t ih=>
  intro pl q hw hq;simp only [goT,yes,if_true,List.map_cons,trailT]
  congr 1
  by_cases hc:common p q=p.length
  ·rw [if_pos hc,←ih (pl++p) (q.drop p.length) hw.2.2.2 (fit_drop _ hq),List.append_assoc,←prefix_common.1 hc]
  ·rw [if_neg hc,goT_no _ _ _ _]
   ·rfl
   ·rw [Bool.eq_false_iff];intro h
    have:=trailW_iff.1 h
    rw [List.append_assoc] at this;have h2:=List.append_cancel_left this;apply hc
    rw [prefix_common];rw [h2];simp
 |branch v kids ih=>
  intro pl q hw hq;simp only [goT,yes,if_true,List.map_cons];cases q with
  |nil=>
   show T.branch v kids::_=T.branch v kids:: []
   congr 1
   rw [List.map_eq_nil_iff,List.flatMap_eq_nil_iff];intro i _;refine goT_no _ _ _ ?_;rw [Bool.eq_false_iff];intro h
   have:=congrArg List.length (trailW_iff.1 h)
   simp at this
  |cons b r=>
   obtain ⟨hb,hr⟩:=fit_cons hq
   show T.branch v kids::_=T.branch v kids::trailT (kids (ix b)) r
   congr 1
   rw [List.map_flatMap];have key:∀ i:Fin 16,(goT (trailW (pl++b::r)) (kids i) (pl++ [Trie.hb i])).map (·.2)=if i=ix b then trailT (kids (ix b)) r else []:=by
    intro i;by_cases e:i=ix b
    ·subst e;rw [if_pos rfl,←ih (ix b) (pl++ [Trie.hb (ix b)]) r (hw.1 _) hr,List.append_assoc]
     have:Trie.hb (ix b)=b:=by
      unfold Trie.hb;apply UInt8.toNat_inj.1
      have h15:b.toNat≤15:=by rw [UInt8.le_iff_toNat_le] at hb; exact hb
      simp [ix]
      omega
     rw [this];rfl
    ·rw [if_neg e,goT_no]
     ·rfl
     ·rw [Bool.eq_false_iff];intro h
      have:=trailW_iff.1 h
      rw [List.append_assoc] at this;have h2:=List.append_cancel_left this;simp only [List.cons_append,List.nil_append,List.cons.injEq] at h2;apply e
      have h3:=(ix_of i).1;rw [←h3]
      show ix (UInt8.ofNat i.val)=ix b;rw [h2.1];rfl
   simp only [key];have h2:∀ l:List (Fin 16),l.Nodup→(l.flatMap fun j=>if j=ix b then trailT (kids (ix b)) r else [])=if ix b∈l then trailT (kids (ix b)) r else []:=by
    intro l
    induction l with
    |nil=>intro _; rfl
    |cons a l ihl=>
     intro hn;rw [List.nodup_cons] at hn;rw [List.flatMap_cons,ihl hn.2];by_cases e:a=ix b
     ·subst e; rw [if_pos rfl,if_neg hn.1]; simp
     ·rw [if_neg e];simp [show ¬ix b=a from fun h=>e h.symm]
   rw [h2 _ (List.nodup_finRange 16),if_pos (List.mem_finRange _)]
theorem told_trail {t:T} (hw:wf t) {q:List UInt8} (hq:fit q=true):toldW (trailW q) t=(trailT t q).map textT:=by
 rw [←goT_trail t [] q hw hq,List.nil_append,toldW,textsD,List.map_map];rfl
theorem verify_whole {t:T} (h:Good t) {key:List UInt8} (hk:keyedW key=true):verifyW (sumT t) key (toldW (trailW (Nib.of key)) t)=(look t (Nib.of key),decide (look t (Nib.of key)≠ []),0):=by
 unfold verifyW;rw [if_neg (by simp [hk]),told_trail h.wf (Nib.fit_of key)];by_cases hn:t= .nil
 ·subst hn;rw [if_pos (show sumT .nil= [] from rfl),if_pos (show (trailT .nil (Nib.of key)).map textT= [] from rfl)];rfl
 ·rw [if_neg (fun e=>hn (sumT_empty.1 e)),follow_trail t _ 0 hn h.wf h.small (Nib.fit_of key)];simp
end Trie
end
namespace Ex
open Pw Trie
theorem getW_put {t:T} (h:Trie.Good t) {k v:List UInt8} (hk:keyedW k=true) (hv:v≠ []) (q:List UInt8):getW (put t (Nib.of k) v) q=if q=k then (v,0) else getW t q:=by
 unfold getW;rw [(put_spec t (Nib.of k) v h.wf (Nib.fit_of k) hv).2.1 _ (Nib.fit_of q)];by_cases e:q=k
 ·subst e;rw [if_pos hk,if_pos rfl,if_pos rfl,if_neg (by simpa using hv)]
 ·rw [if_neg (fun e2=>e (Nib.of_inj e2)),if_neg e]
theorem getW_del {t:T} (h:Trie.Good t) {k:List UInt8} (hk:keyedW k=true) (hl:Trie.look t (Nib.of k)≠ []) (q:List UInt8):getW (del t (Nib.of k)) q=if q=k then ([],5) else getW t q:=by
 unfold getW;rw [(del_spec t (Nib.of k) h.wf (Nib.fit_of k) hl).2.1 _ (Nib.fit_of q)];by_cases e:q=k
 ·subst e;rw [if_pos hk,if_pos rfl,if_pos rfl]; rfl
 ·rw [if_neg (fun e2=>e (Nib.of_inj e2)),if_neg e]
theorem look_get {t:T} {k:List UInt8} (h:(getW t k).2=0):Trie.look t (Nib.of k)≠ []:=by
 unfold getW at h
 split at h
 ·split at h
  ·cases h
  ·rename_i h2; simpa using h2
 ·cases h
theorem acc_cong {t u:T} {n:List UInt8} (h:getW u (aKey n)=getW t (aKey n)):acc u n=acc t n:=by unfold acc; rw [h]
theorem aKey_inj {m n:List UInt8} (h:aKey m=aKey n):m=n:=by simpa [aKey] using h
theorem aKey_dKey (m n:List UInt8):aKey m≠dKey n:=by simp [aKey,dKey]
theorem aKey_sKey (m:List UInt8):aKey m≠sKey:=by simp [aKey,sKey]
theorem acc_putA {t:T} (h:Trie.Good t) {n:List UInt8} (hn:n.length≤6) {p:Nat × Nat} (h1:p.1≤maxA) (h2:p.2≤maxA) (m:List UInt8):acc (put t (Nib.of (aKey n)) (writA p)) m=if m=n then some p else acc t m:=by
 have hw:=writA_len (p:=p) (by unfold maxA at h1; omega) (by unfold maxA at h2; omega);unfold acc;rw [getW_put h (keyed_a hn) (ne_nil_of hw.1)];by_cases e:m=n
 ·subst e;rw [if_pos rfl,if_pos rfl,if_pos rfl];exact parseA_writA h1 h2
 ·rw [if_neg (fun e2=>e (aKey_inj e2)),if_neg e]
theorem acc_put {t:T} (h:Trie.Good t) {k v:List UInt8} (hk:keyedW k=true) (hv:v≠ []) (m:List UInt8) (hne:aKey m≠k):acc (put t (Nib.of k) v) m=acc t m:=
 acc_cong (by rw [getW_put h hk hv,if_neg hne])
structure Done (t:T) (x:Tx) where
 f:Nat × Nat
 tt:Nat × Nat
 hf:acc t x.frm=some f
 ht:accTo t x=some tt
 hs:(f.2:Int)=x.seq
 hm:f.2<maxA
 hk:(kindW t x f tt).2.1=0
 hd:doW t x=(put (kindW t x f tt).1 (Nib.of (aKey x.frm)) (writA ((kindW t x f tt).2.2,f.2+1)),0)
theorem doW_done {t:T} {x:Tx} (h:(doW t x).2=0):fineX x=true∧Nonempty (Done t x):=by
 unfold doW at h
 split at h
 ·cases h
 rename_i hx;refine ⟨by simpa using hx,?_⟩
 split at h
 ·rename_i f tt hf ht
  split at h
  ·cases h
  rename_i hs;simp only [not_or,Decidable.not_not] at hs
  split at h
  ·rename_i hk;refine ⟨f,tt,hf,ht,hs.1,?_,hk,?_⟩
   ·have:=(acc_le hf).2; have:=hs.2; omega
   ·unfold doW;rw [if_neg hx];simp only [hf,ht];rw [if_neg (by simp [hs.1]; exact hs.2),if_pos hk]
  ·rename_i hk; exact absurd h hk
 ·cases h
theorem Done.to_le {t:T} {x:Tx} (d:Done t x):d.tt.1≤maxA∧d.tt.2≤maxA:=by
 have:=d.ht
 unfold accTo at this
 split at this
 ·exact acc_le this
 ·injection this with this; rw [←this]; exact ⟨by simp,by simp⟩
theorem Done.good {t:T} {x:Tx} (d:Done t x) (h:Trie.Good t) (hx:fineX x=true):Trie.Good (kindW t x d.f d.tt).1∧(kindW t x d.f d.tt).2.2≤maxA:=
 ⟨(kindW_good h hx (acc_le d.hf).1 d.to_le).1,(kindW_good h hx (acc_le d.hf).1 d.to_le).2.2⟩
theorem kindW_get {t:T} {x:Tx} (d:Done t x) (h:Trie.Good t) (hx:fineX x=true) (q:List UInt8):
  getW (kindW t x d.f d.tt).1 q=
   if x.kind=1 then (if x.dst≠x.frm∧q=aKey x.dst then (writA (d.tt.1+x.amt.toNat,d.tt.2),0) else getW t q)
   else if x.kind=2 then (if q=dKey x.key then (x.val,0) else getW t q)
   else if x.kind=3 then (if q=dKey x.key then ([],5) else getW t q)
   else (if q=sKey then (digM x.mem,0) else getW t q):=by
 obtain ⟨_,_,_,hk⟩:=fineX_spec hx;have hz:=d.hk;have hle:=d.to_le;unfold maxA at hle;rcases hk with ⟨k,hto,ha1,ha2,_⟩|⟨k,_,_,_,v1,v2,q1,q2⟩|⟨k,_,_,_,_,q1,q2⟩|⟨k,_,_,_,_,hm⟩
 ·rw [kindW_1 k] at hz ⊢;rw [if_pos k]
  split at hz
  ·cases hz
  rename_i h1;rw [if_neg h1];by_cases h2:x.dst=x.frm
  ·rw [if_pos h2,if_neg (fun e=>e.1 h2)]
  ·rw [if_neg h2] at hz ⊢
   split at hz
   ·cases hz
   rename_i h3;rw [if_neg h3];have hw:=writA_len (p:=(d.tt.1+x.amt.toNat,d.tt.2)) (by simp only; omega) (by simp only; omega);rw [getW_put h (keyed_a (nameW_len hto).2) (ne_nil_of hw.1)];by_cases e:q=aKey x.dst
   ·rw [if_pos e,if_pos ⟨h2,e⟩]
   ·rw [if_neg e,if_neg (fun e2=>e e2.2)]
 ·rw [kindW_2 k,if_neg (show ¬x.kind=1 by omega),if_pos k];exact getW_put h (keyed_d q2) (ne_nil_of v1) q
 ·rw [kindW_3 k] at hz ⊢;rw [if_neg (show ¬x.kind=1 by omega),if_neg (show ¬x.kind=2 by omega),if_pos k]
  split at hz
  ·rename_i hg;rw [if_pos hg];exact getW_del h (keyed_d q2) (look_get hg) q
  ·rename_i hg; exact absurd hz hg
 ·rw [kindW_4 k] at hz ⊢;rw [if_neg (show ¬x.kind=1 by omega),if_neg (show ¬x.kind=2 by omega),if_neg (show ¬x.kind=3 by omega)]
  split at hz
  ·rename_i hr;rw [if_pos hr];exact getW_put h keyed_s (ne_nil_of (by rw [digM_len hm]; omega)) q
  ·cases hz
theorem do_get {t:T} {x:Tx} (d:Done t x) (h:Trie.Good t) (hx:fineX x=true) (q:List UInt8):
  getW (doW t x).1 q=if q=aKey x.frm then (writA ((kindW t x d.f d.tt).2.2,d.f.2+1),0) else getW (kindW t x d.f d.tt).1 q:=by
 rw [d.hd];obtain ⟨g1,g2⟩:=d.good h hx;have hm:=d.hm;unfold maxA at g2 hm;have hw:=writA_len (p:=((kindW t x d.f d.tt).2.2,d.f.2+1)) (by simp only; omega) (by show d.f.2+1≤2000000000000; have e:maxA=1099511627776:=rfl; omega);exact getW_put g1 (keyed_a (nameW_len (fineX_spec hx).1).2) (ne_nil_of hw.1) q
theorem do_accF {t:T} {x:Tx} (d:Done t x) (h:Trie.Good t) (hx:fineX x=true):acc (doW t x).1 x.frm=some ((kindW t x d.f d.tt).2.2,d.f.2+1):=by
 obtain ⟨g1,g2⟩:=d.good h hx;have hm:=d.hm;unfold acc;rw [do_get d h hx,if_pos rfl];exact (if_pos rfl).trans (parseA_writA g2 hm)
theorem kindW_amt {t:T} {x:Tx} (d:Done t x) (hx:fineX x=true):(kindW t x d.f d.tt).2.2=if x.kind=1∧x.dst≠x.frm then d.f.1 - x.amt.toNat else d.f.1:=by
 have hz:=d.hk;rcases (fineX_spec hx).2.2.2 with ⟨k,_⟩|⟨k,_⟩|⟨k,_⟩|⟨k,_⟩
 ·rw [kindW_1 k] at hz ⊢
  split at hz
  ·cases hz
  rename_i h1;rw [if_neg h1];by_cases h2:x.dst=x.frm
  ·rw [if_pos h2,if_neg (fun e=>e.2 h2)]
  ·rw [if_neg h2] at hz ⊢
   split at hz
   ·cases hz
   rename_i h3;rw [if_neg h3,if_pos ⟨k,h2⟩]
 ·rw [kindW_2 k,if_neg (fun e=>by omega)]
 ·rw [kindW_3 k] at hz ⊢;rw [if_neg (show ¬(x.kind=1∧x.dst≠x.frm) from fun e=>by omega)]
  split at hz
  ·rename_i hg; rw [if_pos hg]
  ·rename_i hg; exact absurd hz hg
 ·rw [kindW_4 k] at hz ⊢;rw [if_neg (show ¬(x.kind=1∧x.dst≠x.frm) from fun e=>by omega)]
  split at hz
  ·rename_i hr; rw [if_pos hr]
  ·cases hz
theorem do_accT {t:T} {x:Tx} (d:Done t x) (h:Trie.Good t) (hx:fineX x=true) (k1:x.kind=1) (hne:x.dst≠x.frm):acc (doW t x).1 x.dst=some (d.tt.1+x.amt.toNat,d.tt.2):=by
 have hle:=d.to_le;have hz:=d.hk;unfold acc;rw [do_get d h hx,if_neg (fun e=>hne (aKey_inj e)),kindW_get d h hx,if_pos k1,if_pos (show x.dst≠x.frm∧aKey x.dst=aKey x.dst from ⟨hne,rfl⟩)];refine (if_pos rfl).trans (parseA_writA ?_ hle.2);rw [kindW_1 k1] at hz
 split at hz
 ·cases hz
 split at hz
 ·cases hz
 rename_i h3;unfold maxA
 have:=(fineX_spec hx).2.2.2
 omega
theorem do_accO {t:T} {x:Tx} (d:Done t x) (h:Trie.Good t) (hx:fineX x=true) (n:List UInt8) (h1:n≠x.frm) (h2:n≠x.dst):getW (doW t x).1 (aKey n)=getW t (aKey n):=by
 rw [do_get d h hx,if_neg (fun e=>h1 (aKey_inj e)),kindW_get d h hx]
 split
 ·rw [if_neg (fun e=>h2 (aKey_inj e.2))]
 split
 ·rw [if_neg (aKey_dKey _ _)]
 split
 ·rw [if_neg (aKey_dKey _ _)]
 ·rw [if_neg (aKey_sKey _)]
def WfS (t:T):Prop:=∀ n,nameW n=true→∃ p,acc t n=some p
theorem do_wfs {t:T} (h:Trie.Good t) (hw:WfS t) (x:Tx):WfS (doW t x).1:=by
 by_cases hd:(doW t x).2=0
 ·obtain ⟨hx,⟨d⟩⟩:=doW_done hd;intro n hn;by_cases h1:n=x.frm
  ·rw [h1]; exact ⟨_,do_accF d h hx⟩
  by_cases h2:n=x.dst
  ·by_cases k1:x.kind=1
   ·rw [h2]; exact ⟨_,do_accT d h hx k1 (by rw [←h2]; exact h1)⟩
   ·obtain ⟨p,hp⟩:=hw n hn;refine ⟨p,?_⟩;rw [←hp];refine acc_cong ?_;rw [do_get d h hx,if_neg (fun e=>h1 (aKey_inj e)),kindW_get d h hx,if_neg k1]
    split
    ·rw [if_neg (aKey_dKey _ _)]
    split
    ·rw [if_neg (aKey_dKey _ _)]
    ·rw [if_neg (aKey_sKey _)]
  ·obtain ⟨p,hp⟩:=hw n hn;exact ⟨p,by rw [acc_cong (do_accO d h hx n h1 h2),hp]⟩
 ·have:(doW t x).1=t:=by
   unfold doW at hd ⊢
   split
   ·rfl
   rename_i hx;rw [if_neg hx] at hd
   split
   ·rename_i f tt hf ht;rw [hf,ht] at hd;simp only at hd
    split
    ·rfl
    rename_i hs;rw [if_neg hs] at hd
    split
    ·rename_i hk; rw [if_pos hk] at hd; exact absurd rfl hd
    ·rfl
   ·rfl
  rw [this]; exact hw
theorem doW_same {t:T} {x:Tx} (hd:(doW t x).2≠0):(doW t x).1=t:=by
 unfold doW at hd ⊢
 split
 ·rfl
 rename_i hx;rw [if_neg hx] at hd
 split
 ·rename_i f tt hf ht;rw [hf,ht] at hd;simp only at hd
  split
  ·rfl
  rename_i hs;rw [if_neg hs] at hd
  split
  ·rename_i hk; rw [if_pos hk] at hd; exact absurd rfl hd
  ·rfl
 ·rfl
end Ex
end Go.Proofs.YtnelhjfjkkdoaaaGreatDoor