import Derived.Test.YtnelhjfjkkdoaaaGreatDoorK34
set_option linter.unusedSimpArgs false
set_option linter.unusedVariables false
set_option maxHeartbeats 4000000
set_option maxRecDepth 100000
namespace Go.Proofs.YtnelhjfjkkdoaaaGreatDoor
namespace Trie
theorem kid_in {t:T} (i:Fin 16) (h:kidsT t i≠ .nil):sumT (kidsT t i)∈kidsW (sumsT t):=by
 unfold kidsW;refine List.mem_filter.2 ⟨List.mem_ofFn.2 ⟨i,rfl⟩,?_⟩;cases hs:sumT (kidsT t i) with
 |nil=>exact absurd (sumT_empty.1 hs) h
 |cons a r=>rfl
theorem kid_marked {D:List KV} {I:List UInt8→Int} {roots:List (List UInt8)} (hI:RInv D roots I []) {t:T} {pl:List UInt8} (hok:OkLd pl t) (hl:lookB D (sumT t)=some (textT t)) (hm:0<I (sumT t)) (i:Fin 16) (hn:kidsT t i≠ .nil) (hk:(lookB D (sumT (kidsT t i))).isSome=true):0<I (sumT (kidsT t i)):=by
 have hko:kidsOf D (sumT t)=kidsW (sumsT t):=by
  unfold kidsOf;rw [nodeOf_back hok hl];rfl
 rcases hI.kid _ hm _ (by rw [hko]; exact kid_in i hn) hk with h|h
 ·exact h
 ·cases h
theorem marked_all {D:List KV} {I:List UInt8→Int} {roots:List (List UInt8)} (hI:RInv D roots I []):∀ (t:T) (pl:List UInt8),OkLd pl t→(∀ k∈knots t,lookB D (sumT k)=some (textT k))→0<I (sumT t)→∀ k∈knots t,0<I (sumT k):=by
 intro t
 induction t with
 |nil=>intro pl _ _ _ k hk; cases hk
 |leaf p v=>
  intro pl _ _ hm k hk;rw [knots,List.mem_singleton] at hk;subst hk;exact hm
 |ext p t ih=>
  intro pl hok hl hm k hk;rcases List.mem_cons.1 hk with rfl|hk
  ·exact hm
  ·have hob:=hok.below;have hn:kidsT (.ext p t) 0≠ .nil:=by simp only [kidsT,if_true]; exact hob.nn
   have hk0:kidsT (.ext p t) 0=t:=by simp [kidsT]
   have h1:=kid_marked hI hok (hl _ (knots_self hok.nn)) hm 0 hn (by rw [hk0,hl _ (List.mem_cons_of_mem _ (knots_self hob.nn))]; rfl);rw [hk0] at h1;exact ih _ hob (fun k hk=>hl k (List.mem_cons_of_mem _ hk)) h1 k hk
 |branch v kids ih=>
  intro pl hok hl hm k hk;rcases List.mem_cons.1 hk with rfl|hk
  ·exact hm
  ·obtain ⟨i,_,hk⟩:=List.mem_flatMap.1 hk;have hn:kids i≠ .nil:=fun e=>by rw [e] at hk; cases hk
   have hok2:=hok.kid i hn;have hin:∀ k∈knots (kids i),k∈knots (.branch v kids):=fun k hk=>List.mem_cons_of_mem _ (List.mem_flatMap.2 ⟨i,List.mem_finRange _,hk⟩);have h1:=kid_marked hI hok (hl _ (knots_self hok.nn)) hm i hn (by rw [show kidsT (.branch v kids) i=kids i from rfl,hl _ (hin _ (knots_self hn))]; rfl);exact ih i _ hok2 (fun k hk=>hl k (hin k hk)) h1 k hk
end Trie
theorem kept_load {D D':List Trie.KV} {I:List UInt8→Int} {roots:List (List UInt8)} {l:List (List UInt8)} {X:Trie.T} (hX:Trie.Good X) (hc:Trie.count X≤1024) (hu:unlikeW l=false) (hT:∀ k s,lookB D k=some s→shaW (1::s)=k)
  (hl:∀ x∈toldW allW X,x∈l) (hD:∀ k s,lookB D k=some s→s∈l) (hH:∀ x∈toldW allW X,(lookB D (shaW (1::x))).isSome=true) (hI:RInv D roots I []) (hK:KeptD D D' I) (hr:Trie.sumT X∈roots):loadR D' (Trie.sumT X)=(X,0):=by
 unfold loadR;by_cases hn:X= .nil
 ·subst hn; rfl
 ·rw [if_neg (fun e=>hn (Trie.sumT_empty.1 e))];have hlk:∀ k∈Trie.knots X,lookB D (Trie.sumT k)=some (Trie.textT k):=fun k hk=>by
   have hm:Trie.textT k∈toldW allW X:=by rw [Trie.told_knots]; exact List.mem_map.2 ⟨k,hk,rfl⟩
   have hkn:k≠ .nil:=by
    rintro rfl;exact Trie.knots_nn X _ hk rfl
   rw [←Trie.sum_text hkn];obtain ⟨s,hs⟩:=Option.isSome_iff_exists.1 (hH _ hm);rw [hs]
   congr 1
   refine Decidable.byContradiction fun hne=> ?_
   have:=unlikeW_of (hD _ _ hs) (hl _ hm) hne (hT _ _ hs)
   rw [hu] at this;cases this
  have hroot:0<I (Trie.sumT X):=by
   rcases hI.root _ hr (by rw [hlk _ (Trie.knots_self hn)]; rfl) with h|h
   ·exact h
   ·cases h
  have hall:=Trie.marked_all hI X [] (hX.okLd hn) hlk hroot;have hback:=Trie.loadW_back (D:=D') 17 X [] false 0 (hX.okLd hn) (fun k hk=>by rw [hK.look,if_pos (hall k hk)]; exact hlk k hk) (fun h=>by cases h) (by simp) (by omega);rw [hback]
theorem putS_nd {D:List Trie.KV} (h:KeysNd D) (x:List UInt8):KeysNd (putS D x):=by
 obtain ⟨key,hk,e⟩:=putS_look D x;rw [e]
 split
 ·exact h
 ·rename_i hs;have hno:lookB D key=none:=by cases hl:lookB D key with|none=>rfl|some s=>rw [hl] at hs; simp at hs
  have e2:∀ D:List Trie.KV,lookB D key=none→putB D key x=D++ [(key,x)]:=by
   intro D
   induction D with
   |nil=>intro _; rfl
   |cons y D ih=>
    intro h;rw [lookB] at h
    split at h
    ·cases h
    ·rename_i hne;rw [putB,if_neg hne,ih h];rfl
  rw [e2 D hno];unfold KeysNd at h ⊢;rw [List.map_append,List.nodup_append];refine ⟨h,by simp,fun a ha b hb=> ?_⟩;simp only [List.map_cons,List.map_nil,List.mem_singleton] at hb;subst hb;rintro rfl;obtain ⟨y,hy,e3⟩:=List.mem_map.1 ha
  have:(lookB D a).isSome=true:=by
   clear hs e hno e2 h
   induction D with
   |nil=>cases hy
   |cons z D ih=>
    rw [lookB];by_cases hz:a=z.1
    ·rw [if_pos hz]; rfl
    ·rw [if_neg hz];refine ih (List.mem_map.2 ⟨y,?_,e3⟩) ?_
     ·exact (List.mem_cons.1 hy).resolve_left (fun e=>hz (by rw [←e]; exact e3.symm))
     ·exact (List.mem_cons.1 hy).resolve_left (fun e=>hz (by rw [←e]; exact e3.symm))
  rw [hno] at this;cases this
theorem putS_key {D:List Trie.KV} (h:∀ x∈D,x.1.length≤100) (x:List UInt8):∀ y∈putS D x,y.1.length≤100:=by
 intro y hy;unfold putS at hy
 split at hy
 ·exact h y hy
 ·rcases putB_mem hy with rfl|hy
  ·simp only; rw [shaW_length]; omega
  ·exact h y hy
theorem putB_len (D:List Trie.KV) (k v:List UInt8):(putB D k v).length≤D.length+1:=by
 induction D with
 |nil=>simp [putB]
 |cons y D ih=>
  rw [putB]
  split
  ·simp
  ·simp only [List.length_cons]; omega
theorem putS_len (D:List Trie.KV) (x:List UInt8):(putS D x).length≤D.length+1:=by
 unfold putS
 split
 ·omega
 ·exact putB_len _ _ _
theorem saveD_all:∀ (l:List (List UInt8)) {D:List Trie.KV},KeysNd D→(∀ x∈D,x.1.length≤100)→KeysNd (saveD D l)∧(∀ x∈saveD D l,x.1.length≤100)∧(saveD D l).length≤D.length+l.length∧∀ k s,lookB (saveD D l) k=some s→lookB D k=some s∨s∈l
 | [],D,h,hk=>⟨h,hk,by simp [saveD],fun k s hl=> .inl hl⟩
 |x::l,D,h,hk=>by
  obtain ⟨a,b,c,d⟩:=saveD_all l (putS_nd h x) (putS_key hk x)
  have:=putS_len D x
  refine ⟨a,b,?_,fun k s hl=> ?_⟩
  ·show (saveD (putS D x) l).length≤_;simp only [List.length_cons]; omega
  ·rcases d k s hl with h1|h1
   ·rcases putS_from h1 with h2|⟨_,h2⟩
    ·exact .inl h2
    ·exact .inr (by rw [h2]; exact List.mem_cons_self)
   ·exact .inr (List.mem_cons_of_mem _ h1)
section
open Go.RowKit Go.Instr
section
variable {w w':World} {vb g b rb:Nat} {T:Trie.T} {D:List Trie.KV} {R:List (Nat × List UInt8)} {last below:Int}
theorem VersP.apart (h:VersP w vb g b rb T D R last below) (ho:Off3 vb b rb w w') {k ty:Nat} {cs:Array Value} (hk:Blk w k ty cs) (hty:ty≠112):Blk w' k ty cs:=by
 have h1:k≠vb:=fun e=>by subst e; obtain ⟨nt,hb,_⟩:=h.blk; exact hb.typ (fun e=>hty e.symm) hk
 have h2:k≠b:=fun e=>by subst e; exact h.st.map.no_blk _ _ hk
 have h3:k≠rb:=fun e=>by subst e; obtain ⟨vs,hm,_⟩:=h.rm.ex; exact hm.no_blk hk
 have hl:=hk.lt;unfold Blk at hk ⊢;rw [ho.block k hl h1 h2 h3];exact hk
theorem VersP.trie (h:VersP w vb g b rb T D R last below) (ho:Off3 vb b rb w w') {t:Trie.T} {v:Value} (ht:TrieP w t v):TrieP w' t v:=by
 obtain ⟨h1,k,x,rfl,h2,h3⟩:=ht;exact ⟨h1,k,x,rfl,h.apart ho h2 (by decide),KnotP.far (fun b' cs hb=>h.apart ho hb (by decide)) h3⟩
theorem VersP.row (h:VersP w vb g b rb T D R last below) (ho:Off3 vb b rb w w') {base e sz n:Nat} {v:Value} {xs:List Value} (hr:w.ownsRow base e sz v n xs) (he:e≠112):w'.ownsRow base e sz v n xs:=by
 obtain ⟨h1,⟨h2,h2'⟩|⟨q,cap,cur,h2,h3,h4,h5⟩⟩:=hr
 ·exact ⟨h1,.inl ⟨h2,h2'⟩⟩
 ·have:=h.apart ho (show Blk w q e cur from h4) he
  exact ⟨h1,.inr ⟨q,cap,cur,h2,h3,this,h5⟩⟩
theorem VersP.offBlk (h:VersP w vb g b rb T D R last below) {q e:Nat} {cur:Array Value} (hq:Blk w q e cur) (h1:e≠112) (h2:e≠178) (h3:e≠115) (h4:e≠136) (h5:e≠5) (hg:w.grownBy w' (some q)):VersP w' vb g b rb T D R last below:=by
 obtain ⟨nt,hb,ht⟩:=h.blk;have nb:=hq.noByte h5;have e1:vb≠q:=fun e=>by subst e; exact hb.typ (fun e=>h1 e.symm) hq
 have e2:g≠q:=fun e=>by subst e; exact h.st.blk.typ (fun e=>h2 e.symm) hq
 have e3:b≠q:=fun e=>by subst e; exact h.st.map.no_blk _ _ hq
 have e4:rb≠q:=fun e=>by subst e; obtain ⟨vs,hm,_⟩:=h.rm.ex; exact hm.no_blk hq
 exact ⟨⟨nt,hb.grown hg (fun e=>e1 (Option.some.inj e)),ht.offB (fun cs=>hq.typ h4) (fun cs=>hq.typ h3) hg⟩,h.st.offB nb e2 e3 hg,h.rm.offB nb e4 hg,h.sh,h.tr,h.ne⟩
theorem VersP.grow (h:VersP w vb g b rb T D R last below) {base e sz n:Nat} {v:Value} {xs:List Value} (hr:w.ownsRow base e sz v n xs) (h1:e≠112) (h2:e≠178) (h3:e≠115) (h4:e≠136) (h5:e≠5) (hg:w.grownBy w' v.ownBlock):VersP w' vb g b rb T D R last below:=by
 rcases hr.2 with ⟨e1,_⟩|⟨q,cap,cur,e1,_,hh,_⟩
 ·rw [e1] at hg;exact h.next ⟨hg.os,hg.tape,hg.output,hg.size,fun k hk=>hg.block k hk (by simp [Value.ownBlock])⟩
 ·rw [e1] at hg;exact h.offBlk (show Blk w q e cur from hh) h1 h2 h3 h4 h5 hg
end
theorem TrieP.grow {w w':World} {t:Trie.T} {x:Value} (h:TrieP w t x) {base e sz n:Nat} {v:Value} {xs:List Value} (hr:w.ownsRow base e sz v n xs) (h3:e≠115) (h4:e≠136) (hg:w.grownBy w' v.ownBlock):TrieP w' t x:=by
 refine h.kept hg fun k hk=> ?_;rcases hr.2 with ⟨e1,_⟩|⟨q,cap,cur,e1,_,hh,_⟩
 ·rw [e1] at hk; cases hk
 ·rw [e1] at hk
  have:=Option.some.inj hk
  subst this;exact ⟨e,cur,hh,h3,h4⟩
theorem own_other {w w':World} {b1 e1 s1 n1 b2 e2 s2 n2:Nat} {v1 v2:Value} {x1 x2:List Value} (h1:w.ownsRow b1 e1 s1 v1 n1 x1) (h2:w.ownsRow b2 e2 s2 v2 n2 x2) (hne:e1≠e2) (hg:w.grownBy w' v2.ownBlock):w'.ownsRow b1 e1 s1 v1 n1 x1:=by
 refine h1.kept hg ?_;rcases h1.2 with ⟨a1,_⟩|⟨q,cap,cur,a1,_,hh,_⟩
 ·rw [a1]; exact .inl rfl
 ·rcases h2.2 with ⟨c1,_⟩|⟨q2,cap2,cur2,c1,_,hh2,_⟩
  ·rw [c1,a1]; exact .inr (by simp [Value.ownBlock])
  ·rw [c1,a1];refine .inr fun e=> ?_
   have:=Option.some.inj e
   subst this;rw [hh] at hh2;injection hh2 with hh2
   injection hh2 with _ hh2 _
   exact hne hh2
structure VPlay (D:List Trie.KV) (R:List (Nat × List UInt8)) (Ws:List Trie.T):Prop where
 gd:∀ W∈Ws,Trie.Good W∧Trie.count W≤64
 nd:KeysNd D
 dk:∀ x∈D,x.1.length≤100
 dl:D.length≤256*Ws.length
 din:∀ k s,lookB D k=some s→s∈Ws.flatMap (toldW allW)
 dhas:∀ W∈Ws,∀ x∈toldW allW W,(lookB D (shaW (1::x))).isSome=true
 rk:R.map (·.1)=List.range Ws.length
 rv:∀ j (hj:j<Ws.length),lookN R j=some (Trie.sumT Ws[j])
theorem VPlay.start:VPlay [] [] []:=⟨fun W h=>(by cases h),List.nodup_nil,fun x h=>(by cases h),Nat.le_refl _,fun k s h=>(by cases h),fun W h=>(by cases h),rfl,fun j h=>(by cases h)⟩
theorem told_few {W:Trie.T} (h:Trie.Good W) (hc:Trie.count W≤64):(toldW allW W).length≤256:=by
 rw [toldW,textsD,List.length_map];have h1:=Trie.goT_len allW W [];by_cases hn:W= .nil
 ·subst hn; simp [Trie.goT]
 ·have:=(Trie.nodes_le W h.wf hn).1; omega
theorem putN_new {R:List (Nat × List UInt8)} {k:Nat} {v:List UInt8} (h:k ∉ R.map (·.1)):putN R k v=R++ [(k,v)]:=by
 induction R with
 |nil=>rfl
 |cons x R ih=>
  simp only [List.map_cons,List.mem_cons,not_or] at h;rw [putN,if_neg h.1,ih h.2];rfl
theorem lookN_app {R:List (Nat × List UInt8)} {k:Nat} {v:List UInt8} (h:k ∉ R.map (·.1)) (j:Nat):lookN (R++ [(k,v)]) j=if j=k then some v else lookN R j:=by
 induction R with
 |nil=>simp [lookN]
 |cons x R ih=>
  simp only [List.map_cons,List.mem_cons,not_or] at h;rw [List.cons_append,lookN,lookN,ih h.2];by_cases h1:j=x.1
  ·rw [if_pos h1,if_pos h1,if_neg (fun e=>h.1 (e.symm.trans h1))]
  ·rw [if_neg h1,if_neg h1]
theorem VPlay.step {D:List Trie.KV} {R:List (Nat × List UInt8)} {Ws:List Trie.T} (h:VPlay D R Ws) {T:Trie.T} (hT:Trie.Good T) (hc:Trie.count T≤64):VPlay (saveD D (toldW allW T)) (putN R Ws.length (Trie.sumT T)) (Ws++ [T]):=by
 obtain ⟨a1,a2,a3,a4⟩:=saveD_all (toldW allW T) h.nd h.dk;have hl:=told_few hT hc;have hno:Ws.length ∉ R.map (·.1):=by rw [h.rk]; simp
 refine ⟨fun W hW=> ?_,a1,a2,?_,fun k s hl=> ?_,fun W hW x hx=> ?_,?_,fun j hj=> ?_⟩
 ·rcases List.mem_append.1 hW with hW|hW
  ·exact h.gd W hW
  ·rw [List.mem_singleton] at hW; subst hW; exact ⟨hT,hc⟩
 ·have:=h.dl; rw [List.length_append,List.length_singleton]; omega
 ·rw [List.flatMap_append];rcases a4 k s hl with h1|h1
  ·exact List.mem_append_left _ (h.din k s h1)
  ·exact List.mem_append_right _ (by simpa using h1)
 ·rcases List.mem_append.1 hW with hW|hW
  ·obtain ⟨s,hs⟩:=Option.isSome_iff_exists.1 (h.dhas W hW x hx);rw [saveD_old hs]; rfl
  ·rw [List.mem_singleton] at hW; subst hW; exact saveD_has hx
 ·rw [putN_new hno,List.map_append,h.rk,List.length_append,List.length_singleton,List.range_succ];rfl
 ·rw [putN_new hno,lookN_app hno];by_cases hj2:j=Ws.length
  ·subst hj2; rw [if_pos rfl]; simp
  ·rw [if_neg hj2];rw [List.length_append,List.length_singleton] at hj;rw [h.rv j (by omega),List.getElem_append_left (by omega)]
end
theorem unlikeW_ex {l:List (List UInt8)} (h:unlikeW l=true):∃ x∈l,∃ y∈l,x≠y∧shaW (1::x)=shaW (1::y):=by
 unfold unlikeW unlikeTo at h;rw [List.any_eq_true] at h;obtain ⟨i,hi,h⟩:=h;unfold oddTo at h;rw [List.any_eq_true] at h;obtain ⟨j,hj,h⟩:=h;rw [List.mem_range] at hi hj;have hj2:j<l.length:=Nat.lt_trans hj hi;unfold oddAt at h;rw [Bool.and_eq_true] at h;obtain ⟨h1,h2⟩:=h;have h1:=of_decide_eq_true h1;rw [sums1_at hi,sums1_at hj2] at h1;rw [getD_at hi,getD_at hj2] at h2;exact ⟨l[i],List.getElem_mem _,l[j],List.getElem_mem _,by simpa using h2,h1⟩
theorem unlikeW_more {l m:List (List UInt8)} (h:unlikeW l=true):unlikeW (l++m)=true:=by
 obtain ⟨x,hx,y,hy,h1,h2⟩:=unlikeW_ex h;exact unlikeW_of (List.mem_append_left _ hx) (List.mem_append_left _ hy) h1 h2
theorem left_one {D D':List Trie.KV} {R R':List (Nat × List UInt8)} {Ws:List Trie.T} (h:VPlay D R Ws) {I:List UInt8→Int} {roots:List (List UInt8)} {below last:Int} (hT:∀ k s,lookB D k=some s→shaW (1::s)=k) (hI:RInv D roots I []) (hK:KeptD D D' I)
  (hlook:∀ s,lookN R' s=if goneN below last s=true then none else lookN R s) (hroots:∀ s r,lookN R' s=some r→r∈roots) {n:Nat} (hn:n∈R'.map (·.1)):
  ∃ hw:n<Ws.length,lookN R' n=some (Trie.sumT Ws[n])∧(unlikeW (Ws.flatMap (toldW allW))=true∨loadR D' (Trie.sumT Ws[n])=(Ws[n],0)):=by
 obtain ⟨r,hr⟩:=lookN_some hn;have hr2:=hr;rw [hlook] at hr2
 split at hr2
 ·cases hr2
 ·have hin:n∈R.map (·.1):=Decidable.byContradiction fun hc=>by rw [lookN_none hc] at hr2; cases hr2
  rw [h.rk,List.mem_range] at hin;rw [h.rv n hin] at hr2;have e:=Option.some.inj hr2;subst e;refine ⟨hin,hr,?_⟩;have hm:=List.getElem_mem hin;obtain ⟨g1,g2⟩:=h.gd _ hm;cases hu:unlikeW (Ws.flatMap (toldW allW)) with
  |true=>exact .inl rfl
  |false=>exact .inr (kept_load g1 (by omega) hu hT (fun x hx=>List.mem_flatMap.2 ⟨_,hm,hx⟩) h.din (h.dhas _ hm) hI hK (hroots _ _ hr))
theorem nodup_few:∀ (n:Nat) (l:List Nat),l.Nodup→(∀ x∈l,x<n)→l.length≤n
 |0,l,_,hs=>by
  cases l with
  |nil=>simp
  |cons a r=>exact absurd (hs a List.mem_cons_self) (Nat.not_lt_zero _)
 |n+1,l,h,hs=>by
  have h1:=nodup_few n (l.erase n) (h.erase n) (fun x hx=>by
   have h2:=(h.mem_erase_iff).1 hx;have h3:=hs x h2.2;have h4:=h2.1;omega)
  rw [List.length_erase] at h1
  split at h1<;>omega
theorem left_len {R':List (Nat × List UInt8)} (h:NdN R') {n:Nat} (hs:∀ x∈R',x.1<n):R'.length≤n:=by
 have:=nodup_few n (R'.map (·.1)) (show (R'.map (·.1)).Nodup from h) (fun x hx=>by
  obtain ⟨y,hy,rfl⟩:=List.mem_map.1 hx;exact hs y hy)
 simpa using this
theorem shown_get {t:Trie.T} (h:Trie.Good t) {key:List UInt8} (hk:Trie.keyedW key=true):verifyW (Trie.sumT t) key (proveW t key).1=((Trie.getW t key).1,decide ((Trie.getW t key).2=0),0):=by
 unfold proveW;rw [if_pos hk];simp only
 rw [Trie.verify_whole h hk];unfold Trie.getW;rw [if_pos hk];by_cases he:Trie.look t (Nib.of key)= []
 ·rw [he]; simp
 ·have:(Trie.look t (Nib.of key)).isEmpty=false:=by cases hl:Trie.look t (Nib.of key) with|nil=>exact absurd hl he|cons a r=>rfl
  rw [this];simp [he]
section
open Go.RowKit Go.Instr Go.ChangeMaps
attribute [local go_sem] ba_get ByteArray.mk_append_mk
attribute [local go_sem ↓] Go.wp_at_zero Go.wp_at_succ
def keepsT:Trie.T:=Trie.put .nil (Nib.of [107]) [118]
theorem keeps_good:Trie.Good keepsT∧Trie.count keepsT≤1:=by
 refine ⟨Trie.Good.nil.put (by decide) (by decide) (by decide),?_⟩
 have:=Trie.count_put .nil (Nib.of [107]) [118]
 simpa [Trie.count,keepsT] using this
theorem keeps_commit:commitT .nil [([107],[118])]=(keepsT,0):=by
 unfold commitT commitT changedW;rw [if_pos (by decide)];rw [if_pos (by decide)];rfl
theorem keeps_load:loadR (saveD [] (toldW allW keepsT)) (Trie.sumT keepsT)=(keepsT,0):=by
 have hg:=keeps_good;have h1:toldW allW keepsT= [[1,1,2,32,107,1,1,118]]:=by decide+kernel
 have hD:∀ k s,lookB (saveD [] (toldW allW keepsT)) k=some s→s∈toldW allW keepsT:=fun k s h=>by
  have hm:(k,s)∈saveD [] (toldW allW keepsT):=by
   have:∀ D:List Trie.KV,lookB D k=some s→(k,s)∈D:=by
    intro D
    induction D with
    |nil=>intro h; cases h
    |cons x D ih=>
     intro h;rw [lookB] at h
     split at h
     ·rename_i e; injection h with h; subst h; subst e; exact List.mem_cons_self
     ·exact List.mem_cons_of_mem _ (ih h)
   exact this _ h
  rcases saveD_mem hm with h|h
  ·cases h
  ·exact h
 rcases load_back (D:=saveD [] (toldW allW keepsT)) (l:=toldW allW keepsT) hg.1 (by omega) (saveD_true (fun k s h=>by cases h)) (fun x h=>h) hD (fun x h=>saveD_has h) with hu|h
 ·rw [h1] at hu;exact absurd hu (by decide+kernel)
 ·exact h
theorem keeps_prove:proveW keepsT [107]=([[1,1,2,32,107,1,1,118]],0):=by decide+kernel
theorem keeps_verify:verifyW (Trie.sumT keepsT) [107] [[1,1,2,32,107,1,1,118]]=([118],true,0):=by
 have:=Trie.verify_whole keeps_good.1 (key:= [107]) (by decide)
 rw [show toldW (trailW (Nib.of [107])) keepsT= [[1,1,2,32,107,1,1,118]] by decide+kernel,show Trie.look keepsT (Nib.of [107])= [118] by decide+kernel] at this;rw [this];rfl
theorem top_keeps (w:World) (hT:Tbl w):
  Calls Tryz.prog 9 #[] w fun e w'=>e= .returned (.bool true)∧Below w.heap.size w w':=by
 have HP:Hid (∀ w',Below w.heap.size w w'→(fun e w'=>e=Ending.returned (.bool true)∧Below w.heap.size w w') (Ending.returned (.bool true)) w'):=ι (fun W' a2=>⟨rfl,a2⟩);generalize (fun e w'=>e=Ending.returned (.bool true)∧Below w.heap.size w w')=P at HP ⊢;have HTb:=ι hT;clear hT;go_enter Tryz.func9,Tryz.ntmps9
 go_wp2_with fail
 refine (vers_New' _).mono ?_;rintro e w1 ⟨vb,g,b,rb,rfl,hv1,hb1,hn⟩;have H1:=ι (And.intro hv1 (And.intro hb1 hn));clear hv1 hb1 hn;go_wp2_with fail
 have HA:Hid (Below w1.heap.size w1 (w1.alloc (.cells #[.string ⟨#[107]⟩,.string ⟨#[118]⟩] 37))):=ι (by go_grown);refine (vers_Commit _ vb g b rb .nil [] [] (-1) 0 (H1.out.1.next HA.out) (HTb.out.next (H1.out.2.1.nxt HA.out)) 1 (by omega) (by omega) (by omega) [([107],[118])] (by simp [Trie.count]) (by simp) (some ⟨w1.heap.size,0,none⟩) 1 (reads_blk (Blk.new _ _ _) (by simp))).mono ?_;rintro e w2 ⟨ho,hcc|⟨_,rfl,hv2⟩⟩
 ·exact absurd (by rw [keeps_commit]) hcc.1
 rw [keeps_commit] at hv2 ⊢;have H2:=ι (And.intro hv2 ((H1.out.2.1.nxt HA.out).trans (ho.below (by have:=H1.out.2.1.size; have:=HA.out.size; omega) H1.out.2.2.1 H1.out.2.2.2.1 H1.out.2.2.2.2)));clear ho hv2 HA H1;go_wp2_with fail
 have hAt:=vers_At w2 vb g b rb _ _ _ _ _ H2.out.1 (HTb.out.next H2.out.2) 1 (Trie.sumT keepsT) rfl;rw [keeps_load] at hAt;refine hAt.mono ?_;clear hAt;rintro e w3 ⟨v,rfl,hb3,hk3⟩;obtain ⟨ht3,_⟩:=hk3 rfl;obtain ⟨_,tb,tx,rfl,_⟩:=id ht3;have HB3:=ι (H2.out.2.nxt hb3);have HPr:=ι (proof_Prove w3 keepsT _ ht3 (by have:=keeps_good.2; omega) [107] (by simp));rw [keeps_prove] at HPr;clear hb3 hk3 ht3 H2;go_wp2_with fail
 refine HPr.out.mono ?_;rintro e w4 ⟨A4,n4,c4,rfl,hn4,own4,hb4⟩;obtain rfl:=hn4;have HB4:=ι (HB3.out.nxt hb4);have HVr:=ι (proof_Verify w4 (Trie.sumT keepsT) [107] (by simp) [[1,1,2,32,107,1,1,118]] A4 c4 (Reads.of_own own4) (by simp) (by simp) (HTb.out.next HB4.out));rw [keeps_verify] at HVr;clear own4 hb4 HB3 HPr;generalize Trie.sumT keepsT=sm at *;go_wp2_with fail
 refine HVr.out.mono ?_;rintro e w5 ⟨rfl,hb5⟩;have HB5:=ι (HB4.out.nxt hb5);clear hb5 HB4 HVr;go_wp2_with fail
 exact HP.out _ HB5.out
end
end Go.Proofs.YtnelhjfjkkdoaaaGreatDoor