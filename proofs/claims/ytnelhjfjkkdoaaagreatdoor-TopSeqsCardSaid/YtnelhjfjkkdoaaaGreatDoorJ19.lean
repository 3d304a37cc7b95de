import Derived.Test.YtnelhjfjkkdoaaaGreatDoorJ09
import Derived.BigFrame
import Derived.Deep.DeepCutAuto
set_option linter.unusedSimpArgs false
set_option linter.unusedVariables false
set_option maxHeartbeats 4000000
set_option maxRecDepth 100000
namespace Go.Proofs.YtnelhjfjkkdoaaaGreatDoor
section
open Go.RowKit Go.Instr
attribute [local go_sem] ba_get ByteArray.mk_append_mk
theorem Rdr.grown {w w':World} {g:Nat} {s:List UInt8 × Nat} {row:Option Nat} (h:Rdr w g s) (hg:w.grownBy w' row) (hne:some g≠row):Rdr w' g s:=by
 obtain ⟨all,a,h1,h2⟩:=h;exact ⟨all,a,Blk.grown h1 hg hne,h2⟩
theorem code_RBytes (w:World) (g:Nat) (s:List UInt8 × Nat) (h:Rdr w g s) (n:Nat) (hn:n≤1000):
  Calls Tryz.prog 149 #[.pointer (some ⟨g,0,none⟩),n] w (RdrEnd w g (.string ⟨(bytesS s n).1.toArray⟩) (bytesS s n).2):=by
 obtain ⟨rest,c⟩:=s;obtain ⟨all,a,hB,ha,hl,hr⟩:=h;simp only at hB hr;subst hr;have HP:Hid (∀ (t:List UInt8) s' w',bytesS (all.drop a,c) n=(t,s')→Rdr w' g s'→w.grownBy w' (some g)→RdrEnd w g (.string ⟨(bytesS (all.drop a,c) n).1.toArray⟩) (bytesS (all.drop a,c) n).2 (.returned (t:Value)) w'):=ι (fun n s' w' e h1 h2=>by rw [e]; exact ⟨rfl,h1,h2⟩);have HX:Hid (bytesS (all.drop a,c) n=if c≠0 then ([],(all.drop a,c)) else if n≤(all.drop a).length then ((all.drop a).take n,((all.drop a).drop n,0)) else ([],(all.drop a,20))):=ι rfl;generalize RdrEnd w g (.string ⟨(bytesS (all.drop a,c) n).1.toArray⟩) (bytesS (all.drop a,c) n).2=P at HP ⊢;generalize bytesS (all.drop a,c) n=X at *;obtain ⟨c0,c1,c2,f1,f2⟩:=hB.cells;have HB:=ι hB;have HL:=ι (And.intro ha hl);have hn0:((n:Int)<0)=False:=by simp
 by_cases hc:c=0
 ·subst hc;have HT:=ι (code_take w g all a 0 hB hl ha n (by omega));by_cases hle:n≤(all.drop a).length
  ·have HE:Hid (X=((all.drop a).take n,((all.drop a).drop n,0))):=ι (by rw [HX.out,if_neg (by simp),if_pos hle]);rw [if_pos hle,if_pos hle,decide_eq_true hle] at HT;have hle2:n≤all.length - a:=by rw [List.length_drop] at hle; exact hle
   have HA:Hid (a+n≤all.length):=ι (by omega);clear hB ha hl hle HX hle2;generalize (all.drop a).take n=t at *;go_enter Tryz.func149,Tryz.ntmps149
   go_wp2_with fail
   refine HT.out.mono ?_;rintro e w1 ⟨rfl,h1,h2⟩;have HF:=ι (HP.out t _ w1 HE.out ⟨all,a+n,h1,HA.out,HL.out.2,by rw [List.drop_drop]⟩ h2);clear h1 h2;go_wp2_with fail
   exact HF.out
  ·have HE:Hid (X=([],(all.drop a,20))):=ι (by rw [HX.out,if_neg (by simp),if_neg hle]);rw [if_neg hle,if_neg hle,decide_eq_false hle] at HT;clear hB ha hl hle HX;go_enter Tryz.func149,Tryz.ntmps149
   go_wp2_with fail
   refine HT.out.mono ?_;rintro e w1 ⟨rfl,h1,h2⟩;have HR:=ι (code_refused w1 g all a 0 h1 a 20);rw [if_pos rfl,if_pos rfl] at HR;obtain ⟨d0,d1,d2,_,_⟩:=h1.cells;have HG:=ι h2;clear h1 h2;go_wp2_with fail
   refine HR.out.mono ?_;rintro e w2 ⟨rfl,h5,h6⟩;have HF:=ι (HP.out [] _ w2 HE.out ⟨all,a,h5,HL.out.1,HL.out.2,rfl⟩ (HG.out.trans h6));clear h5 h6;go_wp2_with fail
   exact HF.out
 ·have HE:Hid (X=([],(all.drop a,c))):=ι (by rw [HX.out,if_pos hc]);have hm1:((c:Int) !=0)=true:=by simp; exact hc
  clear hB ha hl hc HX;go_enter Tryz.func149,Tryz.ntmps149
  go_wp2_with fail
  exact HP.out [] _ _ HE.out ⟨all,a,HB.out,HL.out.1,HL.out.2,rfl⟩ (World.grownBy.refl _ _)
end
section
open Go.RowKit
attribute [local go_sem] ba_get ByteArray.mk_append_mk
structure Live (w W:World) (L:List (Nat × Nat × Array Value)):Prop where
 b:Below w.heap.size w W
 l:∀ x∈L,w.heap.size≤x.1∧Blk W x.1 x.2.1 x.2.2
 d:L.Pairwise fun x y=>x.1≠y.1
section
variable {w W W':World} {L:List (Nat × Nat × Array Value)} {i g t:Nat} {cs cs':Array Value}
theorem Live.start (w:World):Live w w []:=⟨Below.refl _ _,by simp,List.Pairwise.nil⟩
theorem Live.blk (h:Live w W L) (i:Nat) (hi:L[i]?=some (g,t,cs)):Blk W g t cs:=(h.l _ (List.mem_of_getElem? hi)).2
theorem Live.own (h:Live w W L) (i:Nat) (hi:L[i]?=some (g,t,cs)):w.heap.size≤g:=(h.l _ (List.mem_of_getElem? hi)).1
theorem Live.lt (h:Live w W L) (i:Nat) (hi:L[i]?=some (g,t,cs)):g<W.heap.size:=(h.blk i hi).lt
theorem Live.cell (h:Live w W L) (i k:Nat) {v:Value} (hi:L[i]?=some (g,t,cs)) (hk:cs[k]?=some v):W.cell? ⟨g,k,none⟩=some v:=((h.blk i hi).cell k).trans hk
theorem Live.frozen (h:Live w W L) (i k:Nat) (hi:L[i]?=some (g,t,cs)):W.frozen? ⟨g,k,none⟩=false:=(h.blk i hi).frozen k
theorem Live.below (h:Live w W L) (hb:Below W.heap.size W W'):Live w W' L:=
 ⟨h.b.trans (hb.mono h.b.size),fun x hx=>⟨(h.l x hx).1,(h.l x hx).2.below hb (h.l x hx).2.lt⟩,h.d⟩
theorem Live.alloc (h:Live w W L) (cs:Array Value) (t:Nat):Live w (W.alloc (.cells cs t)) ((W.heap.size,t,cs)::L):=
 ⟨h.b.alloc h.b.size _,by
  intro x hx;rcases List.mem_cons.1 hx with rfl|hx
  ·exact ⟨h.b.size,Blk.new _ _ _⟩
  ·exact ⟨(h.l x hx).1,(h.l x hx).2.alloc _⟩,by
  refine List.pairwise_cons.2 ⟨fun x hx e=> ?_,h.d⟩
  have:=(h.l x hx).2.lt
  have e':W.heap.size=x.1:=e;omega⟩
theorem Live.drop (h:Live w W L) (k:Nat):Live w W (L.drop k):=
 ⟨h.b,fun x hx=>h.l x (List.mem_of_mem_drop hx),h.d.sublist (List.drop_sublist _ _)⟩
theorem pairwise_set_ {L:List (Nat × Nat × Array Value)} (d:L.Pairwise fun x y=>x.1≠y.1) (i:Nat) (hi:L[i]?=some (g,t,cs)):(L.set i (g,t,cs')).Pairwise fun x y=>x.1≠y.1:=by
 have e:(L.set i (g,t,cs')).map (·.1)=L.map (·.1):=by
  rw [List.map_set];apply List.ext_getElem?
  intro j;rw [List.getElem?_set]
  split
  ·rename_i hj;subst hj;obtain ⟨hl,he⟩:=List.getElem?_eq_some_iff.1 hi;simp [hl,he]
  ·rfl
 have h1:(L.map (·.1)).Pairwise (·≠·):=List.pairwise_map.2 d;rw [←e] at h1;exact List.pairwise_map.1 h1
theorem Live.grown (h:Live w W L) (i:Nat) (hi:L[i]?=some (g,t,cs)) (hg:W.grownBy W' (some g)) (hb:Blk W' g t cs'):Live w W' (L.set i (g,t,cs')):=by
 have hgo:=h.own i hi;refine ⟨h.b.grown hg h.b.size (fun k e=>by injection e with e; subst e; exact hgo),fun x hx=> ?_,pairwise_set_ h.d i hi⟩;obtain ⟨j,hj⟩:=List.getElem?_of_mem hx;rw [List.getElem?_set] at hj
 split at hj
 ·rename_i e
  split at hj
  ·injection hj with hj
   subst hj;exact ⟨hgo,hb⟩
  ·cases hj
 ·rename_i e;have hxL:=List.mem_of_getElem? hj;refine ⟨(h.l x hxL).1,(h.l x hxL).2.grown hg ?_⟩;intro e2;injection e2 with e2
  have hp:=h.d;rw [List.pairwise_iff_getElem] at hp;obtain ⟨h1,h2⟩:=List.getElem?_eq_some_iff.1 hi;obtain ⟨h3,h4⟩:=List.getElem?_eq_some_iff.1 hj;rcases Nat.lt_or_gt_of_ne e with hlt|hlt
  ·have:=hp i j h1 h3 hlt
   rw [h2,h4] at this;exact this e2.symm
  ·have:=hp j i h3 h1 hlt
   rw [h2,h4] at this;exact this e2
theorem Live.apart (h:Live w W L) {row:Option Nat} (hg:W.grownBy W' row) (hr:∀ k,row=some k→w.heap.size≤k∧∀ x∈L,x.1≠k):Live w W' L:=
 ⟨h.b.grown hg h.b.size (fun k e=>(hr k e).1),fun x hx=>⟨(h.l x hx).1,(h.l x hx).2.grown hg (fun e=>(hr _ e.symm).2 x hx rfl)⟩,h.d⟩
theorem Live.set (h:Live w W L) (i k:Nat) (u:Value) (hi:L[i]?=some (g,t,cs)):Live w (W.setCell ⟨g,k,none⟩ u) (L.set i (g,t,cs.setIfInBounds k u)):=
 h.grown i hi ⟨rfl,rfl,rfl,by simp [World.setCell],fun j hj hne=>Below.heap_setCell _ _ _ _ (fun e=>hne (by rw [e]))⟩ ((h.blk i hi).set_ k u)
theorem Live.push {base e size n:Nat} {v:Value} {xs:List Value} (h:Live w W L) (own:W.ownsRow base e size v n xs) (hbase:w.heap.size≤base) (hne:∀ x∈L,e≠x.2.1) (hg:W.grownBy W' v.ownBlock):Live w W' L:=
 h.apart hg fun k hk=>⟨Nat.le_trans hbase (own.lt k hk).1,fun x hx he=>own_blk_ne own (h.l x hx).2 (hne x hx) (by rw [he]; exact hk)⟩
theorem Live.hp {base e size n:Nat} {v:Value} {xs:List Value} (h:Hid (Live w W L)) (own:W.ownsRow base e size v n xs) (hbase:w.heap.size≤base) (hne:∀ x∈L,e≠x.2.1) (hg:W.grownBy W' v.ownBlock):Hid (Live w W' L):=ι (h.out.push own hbase hne hg)
theorem Live.hb (h:Hid (Live w W L)) (hb:Below W.heap.size W W'):Hid (Live w W' L):=ι (h.out.below hb)
theorem Live.hbd (h:Hid (Live w W L)) (hb:Below W.drew.heap.size W.drew W'):Hid (Live w W' L):=ι (h.out.below ⟨hb.os,hb.tape,hb.output,hb.size,hb.block⟩)
theorem Live.ha (h:Hid (Live w W L)) (cs:Array Value) (t:Nat):Hid (Live w (W.alloc (.cells cs t)) ((W.heap.size,t,cs)::L)):=ι (h.out.alloc cs t)
theorem Live.hs (h:Hid (Live w W L)) (i k:Nat) (u:Value) (hi:L[i]?=some (g,t,cs)):Hid (Live w (W.setCell ⟨g,k,none⟩ u) (L.set i (g,t,cs.setIfInBounds k u))):=ι (h.out.set i k u hi)
theorem Live.hg (h:Hid (Live w W L)) (i:Nat) (hi:L[i]?=some (g,t,cs)) (hg:W.grownBy W' (some g)) (hb:Blk W' g t cs'):Hid (Live w W' (L.set i (g,t,cs'))):=ι (h.out.grown i hi hg hb)
theorem Live.drew (h:Live w W L) (n:Nat):Live w (W.drewN n) L:=⟨⟨h.b.os,h.b.tape,h.b.output,h.b.size,h.b.block⟩,h.l,h.d⟩
end
open Go.Instr
theorem conv1b {w:World} {g:Nat} {x:Int} (h:Blk w g 5 #[.int .u8 x]) (h0:0≤x) (h1:x<256):(convert 118 9 (.slice (some ⟨g,0,none⟩) 1 1)).run Tryz.prog w= .ok (.string ⟨#[UInt8.ofNat x.toNat]⟩) w:=by
 refine conv_reads _ (g+1) _ _ _ [UInt8.ofNat x.toNat] ⟨rfl,fun _=>⟨_,rfl,by simp,fun j u hu=> ?_⟩⟩;have ha:(⟨g,0,none⟩:Addr).add j=⟨g,j,none⟩:=by unfold Addr.add; split<;>simp_all
 rw [ha,h.cell];simp only [bvals,List.map,u8_ofInt x h0 h1] at hu;simpa using hu
def Ret (w:World) (v:Value) (e:Ending) (w':World):Prop:=e= .returned v∧Below w.heap.size w w'
theorem step_append_row {P:Program} (wr:World) (e:TypeId) (news:List Value) {ops:Array Oper} {o:Oper} {a:Act} {K:Act→World→Prop} {Q:Exit→Act→World→Prop} {E:Prop} (hgd:o.guard=none) (s x:Operand) (t:TypeId)
  (ho:o.op= .call {callee:= .builtin .append,args:=#[s,x],argTypes:=#[t,t]})
  (base size bytes:Nat) (z:Value) (hinfo:(P.info? e).map (fun i=>(i.zero,i.size,i.bytes))=some (some z,size,bytes)) (ht:P.underlying t=some (.slice e)) (hzs:z.cells.size=size) (hsz:0<size)
  (v:Value) (n:Nat) (xs:List Value) (hs:a.eval s=v) (hown:wr.ownsRow base e size v n xs)
  (m c:Nat) (hx:a.eval x= .slice (some ⟨wr.heap.size,0,none⟩) m c) (hl:news.length=m*size) (h1:∀ u∈news,u.oneCell'=true)
  (h63:n+m≤maxLen) (hbytes:(n+m)*bytes≤140737488355328) (B:Nat) (w0:World) (hb:Below B w0 wr) (hB:B≤base) (hbase:base≤wr.heap.size)
  (h:∀ v' w',w'.ownsRow base e size v' (n+m) (xs++news)→Below B w0 w'→wr.grownBy w' v.ownBlock→(v'.ownBlock=v.ownBlock∨∃ g,v'.ownBlock=some g∧wr.heap.size≤g)→wr.heap.size<w'.heap.size→K (a.put o.dst v') w'):
  if Region.wanted o (yielded ops a.tmps)=true then Oper.wp P o a (wr.alloc (.cells news.toArray e)) K Q else E:=by
 have hw:Region.wanted o (yielded ops a.tmps)=true:=by simp [Region.wanted,hgd]
 rw [if_pos hw];exact wp_append_new wr e news s x t ho base size bytes z hinfo ht hzs hsz v n xs hs hown m c hx hl h1 h63 hbytes B w0 hb hB hbase fun v' w' h2 h3 h4 h5 h6=>h v' w' h2 h3 h4 h5 h6
end
section
open Go.RowKit
theorem Blk.setAll {g:Nat} {t:TypeId}:∀ (vs A B R:List Value) (w:World),B.length=vs.length→Blk w g t (A++(B++R)).toArray→Blk (w.setCells g A.length vs) g t (A++(vs++R)).toArray
 | [],A,B,R,w,h,hb=>by
  have:B= []:=List.eq_nil_of_length_eq_zero h
  subst this;exact hb
 |v::r,A,[],R,w,h,hb=>by simp at h
 |v::r,A,b::B,R,w,h,hb=>by
  have h1:=hb.set_ A.length v;rw [List.setIfInBounds_toArray,List.set_append_right _ _ (Nat.le_refl _),Nat.sub_self] at h1;simp only [List.cons_append,List.set_cons_zero] at h1;have h2:=Blk.setAll r (A++ [v]) B R (w.setCell ⟨g,A.length,none⟩ v) (by simpa using h) (by simpa using h1);rw [List.length_append] at h2;simpa [World.setCells] using h2
theorem grown_setAll {g:Nat} {a:World}:∀ (vs:List Value) (o:Nat) (w:World),a.grownBy w (some g)→a.grownBy (w.setCells g o vs) (some g)
 | [],_,_,h=>h
 |v::r,o,w,h=>grown_setAll r (o+1) _ ⟨h.os,h.tape,h.output,by simpa [World.setCell] using h.size,fun j hj hne=>(Below.heap_setCell _ _ _ _ (fun e=>hne (by rw [e]))).trans (h.block j hj hne)⟩
section
variable {w W:World} {L:List (Nat × Nat × Array Value)} {g t:Nat} {cs:Array Value}
theorem Live.hall (h:Hid (Live w W L)) (i:Nat) (vs:List Value) (hi:L[i]?=some (g,t,cs)) (hl:cs.size=vs.length):Hid (Live w (W.setCells g 0 vs) (L.set i (g,t,vs.toArray))):=by
 refine ι (h.out.grown i hi (grown_setAll vs 0 W (World.grownBy.refl _ _)) ?_);have hb:=h.out.blk i hi
 have:=Blk.setAll vs [] cs.toList [] W (by rw [←hl]; exact Array.length_toList) (by simpa using hb)
 simpa using this
theorem Live.there (h:Live w W L) (i:Nat) (n:Nat) (hi:L[i]?=some (g,t,cs)) (hn:n≤cs.size):W.there g 0 n:=fun j hj=>by
 rw [Nat.zero_add];refine ⟨?_,h.frozen i j hi⟩;rw [(h.blk i hi).cell,Array.getElem?_eq_getElem (by omega)]; rfl
end
theorem at_op {P:Program} {ops:Array Oper} {Q:Exit→Act→World→Prop} {rest:List Oper} {a:Act} {w:World} (n:Tmp) {op:Op} {t:TypeId} {p:String} {af:Array Edge} {g:Option (Nat × Bool)}
  (h:wpList P ops Q (⟨some n,op,t,p,af,g⟩::rest) a w):wpList P ops Q (⟨some n,op,t,p,af,g⟩::rest) a w:=h
end
section
open Go.RowKit Go.Instr
attribute [local go_sem] ba_get ByteArray.mk_append_mk
theorem nodeV_put (k:Nat) (p v:List UInt8) (K:List (List UInt8)) (i:Nat) (s:List UInt8) (hi:i<K.length):(nodeV k p v K).toArray.setIfInBounds (3+i) (.string ⟨s.toArray⟩)=(nodeV k p v (K.set i s)).toArray:=by
 rw [List.setIfInBounds_toArray,show 3+i=i+1+1+1 by omega];unfold nodeV;rw [List.set_cons_succ,List.set_cons_succ,List.set_cons_succ];unfold strv;rw [List.map_set]
def pad (D:List (List UInt8)):List (List UInt8):=D++List.replicate (16 - D.length) []
theorem pad_set (D:List (List UInt8)) (s:List UInt8) (h:D.length<16):(pad D).set D.length s=pad (D++ [s]):=by
 unfold pad;rw [List.set_append_right _ _ (Nat.le_refl _),Nat.sub_self,List.length_append,List.length_singleton];obtain ⟨m,hm⟩:∃ m,16 - D.length=m+1:=⟨15 - D.length,by omega⟩
 rw [hm,List.replicate_succ,List.set_cons_zero,show 16 - (D.length+1)=m by omega];simp
theorem pad_len (D:List (List UInt8)) (h:D.length≤16):(pad D).length=16:=by unfold pad; simp; omega
theorem pad_nil_set (D:List (List UInt8)) (h:D.length<16):pad (D++ [[]])=pad D:=by
 rw [←pad_set D [] h];unfold pad;rw [List.set_append_right _ _ (Nat.le_refl _),Nat.sub_self];obtain ⟨m,hm⟩:∃ m,16 - D.length=m+1:=⟨15 - D.length,by omega⟩
 rw [hm,List.replicate_succ,List.set_cons_zero]
theorem pad_full {D:List (List UInt8)} (h:D.length=16):pad D=D:=by unfold pad; rw [h]; simp
theorem Rdr.below' {w w':World} {g:Nat} {s:List UInt8 × Nat} (h:Rdr w g s) (hb:Below w.heap.size w w'):Rdr w' g s:=by
 obtain ⟨all,a,h1,h2⟩:=h;exact ⟨all,a,Blk.below h1 hb (Blk.lt h1),h2⟩
structure RdNd (w0 w:World) (g nb:Nat) (s:List UInt8 × Nat) (n:Nd):Prop where
 rd:Rdr w g s
 nd:Blk w nb 133 (nodeV n.1 n.2.1 n.2.2.1 n.2.2.2).toArray
 ne:g≠nb
 g0:w0.heap.size≤g
 n0:w0.heap.size≤nb
 b:Below w0.heap.size w0 w
theorem RdNd.read {w0 w w':World} {g nb:Nat} {s s':List UInt8 × Nat} {n:Nd} (h:RdNd w0 w g nb s n) (hr:Rdr w' g s') (hg:w.grownBy w' (some g)):RdNd w0 w' g nb s' n:=
 ⟨hr,h.nd.grown hg (fun e=>h.ne (by injection e with e; exact e.symm)),h.ne,h.g0,h.n0,h.b.grown hg h.b.size (fun k e=>by injection e with e; subst e; exact h.g0)⟩
theorem RdNd.below {w0 w w':World} {g nb:Nat} {s:List UInt8 × Nat} {n:Nd} (h:RdNd w0 w g nb s n) (hb:Below w.heap.size w w'):RdNd w0 w' g nb s n:=
 ⟨h.rd.below' hb,h.nd.below hb h.nd.lt,h.ne,h.g0,h.n0,h.b.nxt hb⟩
theorem RdNd.drew {w0 w:World} {g nb:Nat} {s:List UInt8 × Nat} {n:Nd} (h:RdNd w0 w g nb s n):RdNd w0 w.drew g nb s n:=⟨h.rd,h.nd,h.ne,h.g0,h.n0,h.b.drew⟩
theorem RdNd.drewN {w0 w:World} {g nb:Nat} {s:List UInt8 × Nat} {n:Nd} (h:RdNd w0 w g nb s n) (m:Nat):RdNd w0 (w.drewN m) g nb s n:=⟨h.rd,h.nd,h.ne,h.g0,h.n0,below_drewN h.b m⟩
theorem RdNd.write {w0 w:World} {g nb:Nat} {s:List UInt8 × Nat} {n m:Nd} (h:RdNd w0 w g nb s n) (i:Nat) (u:Value) (hm:(nodeV n.1 n.2.1 n.2.2.1 n.2.2.2).toArray.setIfInBounds i u=(nodeV m.1 m.2.1 m.2.2.1 m.2.2.2).toArray):RdNd w0 (w.setCell ⟨nb,i,none⟩ u) g nb s m:=by
 refine ⟨h.rd.grown (row:=some nb) ?_ (fun e=>h.ne (by injection e)),?_,h.ne,h.g0,h.n0,h.b.setCell h.n0 _⟩
 ·exact ⟨rfl,rfl,rfl,by simp [World.setCell],fun j hj hne=>Below.heap_setCell _ _ _ _ (fun e=>hne (by rw [e]))⟩
 ·have:=h.nd.set_ i u
  rwa [hm] at this
def RdNdEnd (w0:World) (g nb:Nat) (v:Value) (s:List UInt8 × Nat) (n:Nd) (e:Ending) (w':World):Prop:=e= .returned v∧RdNd w0 w' g nb s n
theorem wpList_load_want {P:Program} {ops:Array Oper} {rest:List Oper} {op:Oper} {a:Act} {w:World} {Q:Exit→Act→World→Prop} (hw:Region.wanted op (yielded ops a.tmps)=true) (ty:TypeId) (x:Operand) (ho:op.op= .load ty x)
  (b o:Nat) (hx:a.eval x= .pointer (some ⟨b,o,none⟩)) (cs:List Value) (d:TypeDesc) (hc:w.rangeAt b o cs)
  (hu:P.underlying ty=some d) (hd:d.isRow=true) (hi:(P.info? ty).map (·.size)=some cs.length)
  (h:wpList P ops Q rest (a.put op.dst (.agg cs.toArray)) w):wpList P ops Q (op::rest) a w:=
 Go.BigFrame.wpList_want hw fun _ hK=>wp_load_mid ty x ho b o hx cs d hc hu hd hi (hK _ _ h)
theorem at_put {P:Program} {ops:Array Oper} {Q:Exit→Act→World→Prop} {rest:List Oper} {a:Act} {w:World} (n:Tmp) {ty:TypeId} {x:Operand} {t:TypeId} {p:String} {af:Array Edge} {g:Option (Nat × Bool)}
  (h:wpList P ops Q (⟨none,.store ty x (.tmp n),t,p,af,g⟩::rest) a w):wpList P ops Q (⟨none,.store ty x (.tmp n),t,p,af,g⟩::rest) a w:=h
theorem i64_and_one (a:Nat) (ha:a<9223372036854775808):bits .and .i64 (a:Int) 1=((a % 2:Nat):Int):=by
 show IntKind.i64.wrap ((BitVec.ofInt 64 (a:Int) &&& BitVec.ofInt 64 ((1:Nat):Int)).toNat:Int)=_;rw [BitVec.toNat_and,ofInt_i64 a ha,ofInt_i64 1 (by omega),Nat.and_one_is_mod,IntKind.wrap_i64];omega
theorem kidsR_step (set:Nat) (sq s:List UInt8 × Nat) (D:List (List UInt8)) (i:Nat) (hi:i<16) (h:kidsR set 16 sq=(D++(kidsR set (16 - i) s).1,(kidsR set (16 - i) s).2)):
  kidsR set 16 sq=(D++ [(kidR set (15 - i) s).1]++(kidsR set (16 - (i+1)) (kidR set (15 - i) s).2).1,(kidsR set (16 - (i+1)) (kidR set (15 - i) s).2).2):=by
 rw [h,show 16 - i=(15 - i)+1 by omega,show 16 - (i+1)=15 - i by omega];simp only [kidsR,List.append_assoc,List.singleton_append]
theorem branch_loop (w0 w:World) (g nb set:Nat) (hset:set<65536) (sq:List UInt8 × Nat) (b0:ByteArray) (H0:Hid (RdNd w0 w g nb sq (3,[],[],zeroK)))
  (Q:Exit→Act→World→Prop)
  (hQ:∀ ⦃s2 s3 s4 s5 s6 s7 s8 s9 s0 s1 a0 a2 a3 a4 a5 a6 a7 a8 a9 b1 b2 b3 b4 b5 b6 b7 b8 b9 c0 c1 c2 c4 c5 c6 c7 c8 c9 d0 d1:Value⦄ (w2:World),RdNd w0 w2 g nb (kidsR set 16 sq).2 (3,[],[],(kidsR set 16 sq).1)→Q (.exit 0) {tmps:=#[.pointer (some ⟨g,0,none⟩),.pointer (some ⟨nb,0,none⟩),s2,s3,s4,s5,s6,s7,s8,s9,s0,s1,a0,a2,a3,a4,a5,a6,a7,a8,a9,b1,b2,b3,b4,b5,b6,b7,b8,b9,c0,c1,c2,c4,c5,c6,c7,c8,c9,d0,d1],defers:= []} w2)
  (s2 s3 s4 s6 s7 s8 s9 s0 s1 a0 a2 a3 a4 a5 a6 a7 a9 b1 b2 b3 b4 b5 b6 b7 b8 b9 c0 c1 c2 c4 c5 c6 c7 c8 c9 d0 d1:Value):
  Code.wp Tryz.prog (.loop (loopAt Tryz.f150 0)) Q {tmps:=#[.pointer (some ⟨g,0,none⟩),.pointer (some ⟨nb,0,none⟩),s2,s3,s4,.int .i64 (set:Int),s6,s7,s8,s9,s0,s1,a0,a2,a3,a4,a5,a6,a7,.int .i64 0,a9,b1,b2,b3,b4,b5,b6,b7,b8,b9,c0,c1,c2,c4,c5,c6,c7,c8,c9,d0,d1],defers:= []} w:=by
 have HQ:=ι hQ;clear hQ;refine wp_loop_ghost_k (fun k a wr=>∀ Φ:Act→Prop,(∀ ⦃s2 s3 s4 s6 s7 s8 s9 s0 s1 a0 a2 a3 a4 a5 a6 a7 a9 b1 b2 b3 b4 b5 b6 b7 b8 b9 c0 c1 c2 c4 c5 c6 c7 c8 c9 d0 d1:Value⦄ (i:Nat) (s:List UInt8 × Nat) (D:List (List UInt8)),(i+k=16∧D.length=i∧RdNd w0 wr g nb s (3,[],[],pad D)∧kidsR set 16 sq=(D++(kidsR set (16 - i) s).1,(kidsR set (16 - i) s).2))→Φ {tmps:=#[.pointer (some ⟨g,0,none⟩),.pointer (some ⟨nb,0,none⟩),s2,s3,s4,.int .i64 (set:Int),s6,s7,s8,s9,s0,s1,a0,a2,a3,a4,a5,a6,a7,.int .i64 (i:Int),a9,b1,b2,b3,b4,b5,b6,b7,b8,b9,c0,c1,c2,c4,c5,c6,c7,c8,c9,d0,d1],defers:= []})→Φ a) (16) ?_ ?_
 ·refine fun Φ hΦ=>hΦ (0) (sq) ([]) ?_;exact ⟨rfl,rfl,H0.out,by simp⟩
 ·intro k1 a1 wr1 hI1 J1 K1 hJ1 hK1;refine hI1 (fun a=>Code.wp _ _ _ a _) ?_;clear hI1 a1;iterate 37 (intro _)
  intro i s D hrel
  show Code.wp _ _ _ _ _;clear H0
  conv=>arg 2; whnf
  obtain ⟨h1,h2,h3,h4⟩:=hrel;by_cases hi:i<16
  ·have hi1:(i:Int)<16:=by omega
   have hx16:set / 2 ^ (15 - i)<65536:=Nat.lt_of_le_of_lt (Nat.div_le_self _ _) hset;have hand:bits .and .i64 ((set:Int) / 2 ^ (15 - i)) 1=((set / 2 ^ (15 - i) % 2:Nat):Int):=by
    rw [←i64_and_one (set / 2 ^ (15 - i)) (by omega)];simp
   have hst:=kidsR_step set sq s D i hi h4;have HI:=ι (And.intro h1 h2);have HN:=ι h3;have hm:bitAt set (15 - i)=decide (set / 2 ^ (15 - i) % 2=1):=rfl;have HK:Hid (kidR set (15 - i) s=if bitAt set (15 - i) then bytesS s 32 else ([],s)):=ι rfl;have hbit:set / 2 ^ (15 - i) % 2<2:=Nat.mod_lt _ (by omega);have HS:=ι hst;clear h4 hst h3 hset;generalize set / 2 ^ (15 - i)=x at *;generalize x % 2=bt at *;generalize kidR set (15 - i) s=kr at *;by_cases hb:bt=1
   ·subst hb;rw [hm,decide_eq_true rfl,if_pos rfl] at HK;obtain ⟨b,s'⟩:=kr;have HBy:Hid (∀ W,Rdr W g s→Calls Tryz.prog 149 #[.pointer (some ⟨g,0,none⟩),.int .i64 32] W (RdrEnd W g (.string ⟨b.toArray⟩) s')):=ι (fun W hW=>by
     have:=code_RBytes W g s hW 32 (by omega)
     rw [←HK.out] at this;exact this)
    have c3:∀ W,RdNd w0 W g nb s' (3,[],[],pad D)→W.cell? ⟨nb,3+i,none⟩=some (.string ⟨((pad D).getD i []).toArray⟩)∧W.frozen? ⟨nb,3+i,none⟩=false:=fun W hW=>⟨by
     have h5:=hW.nd.cell (3+i);rw [h5,List.getElem?_toArray]
     show (nodeV 3 [] [] (pad D))[3+i]?=_;rw [show 3+i=i+1+1+1 by omega];unfold nodeV;rw [List.getElem?_cons_succ,List.getElem?_cons_succ,List.getElem?_cons_succ,strv_at (by rw [pad_len D (by omega)]; exact hi),List.getD_eq_getElem?_getD,List.getElem?_eq_getElem (show i<(pad D).length by rw [pad_len D (by omega)]; exact hi),Option.getD_some],hW.nd.frozen (3+i)⟩
    have HC:=ι c3
    replace hand:bits .and .i64 ((set:Int) / 2 ^ (15 - i)) 1=1:=hand
    clear c3 hm HK h1 h2;go_upto_region 7 with fail
    go_region_held3 (fun _=>True) (first|trivial|go_keep) ((go_at_call 149; refine (HBy.out _ (by first|exact HN.out.rd|exact HN.out.drew.rd)).mono ?_; rintro e w2 ⟨rfl,hr2,hg2⟩; have N2:Hid (RdNd w0 w2 g nb s' (3,[],[],pad D)):=ι (by first|exact HN.out.read hr2 hg2|exact HN.out.drew.read hr2 hg2); obtain ⟨k3,f3⟩:=HC.out _ N2.out; clear hr2 hg2))
    go_wp2
    refine Handed.intro (16 - (i+1)) ?_ (hJ1 _ _ _ (fun Φ hΦ=>hΦ (i+1) (s') (D++ [b]) ?_))
    ·have:=HI.out.1; omega
    ·have hI:=HI.out;refine ⟨by omega,by rw [List.length_append,hI.2]; rfl,?_,HS.out⟩;refine N2.out.write _ _ ?_;rw [nodeV_put _ _ _ _ _ _ (by rw [pad_len D (by omega)]; omega),←hI.2,pad_set D b (by omega)]
   ·have hb0:bt=0:=by omega
    subst hb0;rw [hm,decide_eq_false (by decide),if_neg (by decide)] at HK;rw [HK.out] at HS
    replace hand:bits .and .i64 ((set:Int) / 2 ^ (15 - i)) 1=0:=hand
    clear hm HK h1 h2 hb;go_wp2
    refine Handed.intro (16 - (i+1)) ?_ (hJ1 _ _ _ (fun Φ hΦ=>hΦ (i+1) (s) (D++ [[]]) ?_))
    ·have:=HI.out.1; omega
    ·have hI:=HI.out;refine ⟨by omega,by rw [List.length_append,hI.2]; rfl,?_,HS.out⟩;rw [pad_nil_set D (by omega)];exact HN.out
  ·obtain rfl:i=16:=by omega
   have e:kidsR set 16 sq=(D,s):=by rw [h4]; simp [kidsR]
   rw [pad_full h2] at h3;rw [e] at HQ;have HN:=ι h3;clear h1 h2 h3 h4 e hi;go_wp2
   exact HQ.out _ HN.out
theorem bytesS_len (s:List UInt8 × Nat) (n:Nat):(bytesS s n).1= []∨(bytesS s n).1.length=n:=by
 unfold bytesS
 split
 ·exact .inl rfl
 ·split
  ·right; rw [List.length_take]; omega
  ·exact .inl rfl
theorem txtS_most (s:List UInt8 × Nat) (m:Nat):(txtS s m).1.length≤m:=by
 unfold txtS
 split
 ·exact Nat.zero_le _
 ·split
  ·rename_i h;exact (txtT_back (s:=s.1) (t:=(txtT s.1 m).1) (r:=(txtT s.1 m).2.1) (by rw [←h])).2
  ·exact Nat.zero_le _
theorem RdNd.at0 {w0 w:World} {g nb:Nat} {s:List UInt8 × Nat} {n:Nd} (h:RdNd w0 w g nb s n):w.cell? ⟨nb,0,none⟩=some (.int .i64 (n.1:Int))∧w.cell? ⟨nb,1,none⟩=some (n.2.1:Value)∧w.cell? ⟨nb,2,none⟩=some (n.2.2.1:Value):=
 ⟨h.nd.cell 0,h.nd.cell 1,h.nd.cell 2⟩
theorem node_branch (w0 w:World) (g nb:Nat) (s:List UInt8 × Nat) (H:RdNd w0 w g nb s (3,[],[],zeroK)):
  Calls Tryz.prog 150 #[.pointer (some ⟨g,0,none⟩),.pointer (some ⟨nb,0,none⟩)] w (RdNdEnd w0 g nb (.tuple #[]) (brR s).2 (3,[],(brR s).1.1,(brR s).1.2)):=by
 have HP:Hid (∀ w' st v K,brR s=((v,K),st)→RdNd w0 w' g nb st (3,[],v,K)→RdNdEnd w0 g nb (.tuple #[]) (brR s).2 (3,[],(brR s).1.1,(brR s).1.2) (.returned (.tuple #[])) w'):=ι (fun w' st v K e h=>⟨rfl,by rw [e]; exact h⟩);have HX:Hid (brR s=if (bytesS s 2).1= [] then (([],zeroK),(bytesS s 2).2)
 else (((txtS (kidsR (set2 (bytesS s 2).1) 16 (bytesS s 2).2).2 32).1,(kidsR (set2 (bytesS s 2).1) 16 (bytesS s 2).2).1),(txtS (kidsR (set2 (bytesS s 2).1) 16 (bytesS s 2).2).2 32).2)):=ι rfl
 generalize RdNdEnd w0 g nb (.tuple #[]) (brR s).2 (3,[],(brR s).1.1,(brR s).1.2)=P at HP ⊢;generalize brR s=X at *;have HBy:=ι (code_RBytes w g s H.rd 2 (by omega));have HN:=ι H;have hlen:=bytesS_len s 2;clear H;generalize bytesS s 2=br at *;obtain ⟨bits,s1⟩:=br;simp only at HX HBy hlen;by_cases hb:bits= []
 ·subst hb;have HE:Hid (X=(([],zeroK),s1)):=ι (by rw [HX.out,if_pos rfl]);clear HX hlen;go_enter Tryz.func150,Tryz.ntmps150
  go_wp2_with fail
  refine HBy.out.mono ?_;rintro e w1 ⟨rfl,h1,h2⟩;have HF:=ι (HP.out w1 s1 [] zeroK HE.out (HN.out.read h1 h2));clear h1 h2;go_wp2_with fail
  go_end0
  exact HF.out
 ·rw [if_neg hb] at HX;obtain ⟨x,y,rfl⟩:=two_of_len (hlen.resolve_left hb);have hx:=x.toNat_lt;have hy:=y.toNat_lt;have hset:set2 [x,y]=x.toNat*256+y.toNat:=rfl;rw [hset] at HX;have hor:=i64_or_byte x.toNat y.toNat hy (by omega);have hlt:x.toNat*256+y.toNat<65536:=by omega
  have HL:=ι hlt;clear hset hlen hb;generalize x.toNat*256+y.toNat=set at *;go_enter Tryz.func150,Tryz.ntmps150
  go_wp2_with fail
  refine HBy.out.mono ?_;rintro e w1 ⟨rfl,h1,h2⟩;have N1:=ι (HN.out.read h1 h2);clear h1 h2 hlt;go_wp2_with fail
  go_quiet (fail)
  go_wp2_with fail
  refine branch_loop w0 _ g nb set HL.out s1 ⟨#[]⟩ (ι (N1.out.drewN _)) _ ?_ _ _ _ _ _ _ _ _ _ _ _ _ _ _ _ _ _ _ _ _ _ _ _ _ _ _ _ _ _ _ _ _ _ _ _ _ _;clear hor N1;intro s2 s3 s4 s5 s6 s7 s8 s9 s10 s11 s12 s13 s14 s15 s16 s17 s18 s19 s20 s21 s22 s23 s24 s25 s26 s27 s28 s29 s30 s31 s32 s33 s34 s35 s36 s37 s38 s39 s40 w2 h2;generalize kidsR set 16 s1=kr at *;obtain ⟨K,s3⟩:=kr;simp only at HX h2;have HT:=ι (code_RText w2 g s3 h2.rd 32 (by omega));have N2:=ι h2;generalize txtS s3 32=tr at *;obtain ⟨v,s4⟩:=tr;simp only at HX HT;clear h2;go_wp2_with fail
  refine HT.out.mono ?_;rintro e w3 ⟨rfl,h3,h4⟩;have N3:=ι (N2.out.read h3 h4);have k2:w3.cell? ⟨nb,2,none⟩=some (.string ⟨#[]⟩):=N3.out.at0.2.2;have f2:w3.frozen? ⟨nb,2,none⟩=false:=N3.out.nd.frozen 2;clear h3 h4;go_wp2_with fail
  go_end0
  exact HP.out _ s4 v K HX.out (N3.out.write 2 _ rfl)
theorem otR_eq (most k:Nat) (s:List UInt8 × Nat):otR most k s=if k=1 then (((Nib.unpack (txtS s most).1).1,(txtS (txtS s most).2 32).1,zeroK),(txtS (txtS s most).2 32).2,decide ((Nib.unpack (txtS s most).1).2.2=0) && (Nib.unpack (txtS s most).1).2.1)
 else (((Nib.unpack (txtS s most).1).1,[],(bytesS (txtS s most).2 32).1::List.replicate 15 []),(bytesS (txtS s most).2 32).2,decide ((Nib.unpack (txtS s most).1).2.2=0) && !(Nib.unpack (txtS s most).1).2.1):=rfl
theorem node_other (w0 w:World) (g nb k:Nat) (s:List UInt8 × Nat) (H:RdNd w0 w g nb s (k,[],[],zeroK)):
  Calls Tryz.prog 151 #[.pointer (some ⟨g,0,none⟩),.pointer (some ⟨nb,0,none⟩)] w (RdNdEnd w0 g nb (.bool (otR 16 k s).2.2) (otR 16 k s).2.1 (k,(otR 16 k s).1)):=by
 have HP:Hid (∀ w' st n b,otR 16 k s=(n,st,b)→RdNd w0 w' g nb st (k,n)→RdNdEnd w0 g nb (.bool (otR 16 k s).2.2) (otR 16 k s).2.1 (k,(otR 16 k s).1) (.returned (.bool b)) w'):=ι (fun w' st v K e h=>by rw [e]; exact ⟨rfl,h⟩);have HX:=ι (otR_eq 16 k s);generalize RdNdEnd w0 g nb (.bool (otR 16 k s).2.2) (otR 16 k s).2.1 (k,(otR 16 k s).1)=P at HP ⊢;generalize otR 16 k s=X at *;have HT:=ι (code_RText w g s H.rd 16 (by omega));have hl:=txtS_most s 16;have HN:=ι H;clear H;generalize txtS s 16=tr at *;obtain ⟨t,s1⟩:=tr;simp only at HX HT hl;have HU:=ι (fun W=>nib_Unpack t W (by omega));clear hl;generalize Nib.unpack t=u at *;obtain ⟨p,leaf,ec⟩:=u;simp only at HX HU;by_cases hk:k=1
 ·subst hk;rw [if_pos rfl] at HX;go_enter Tryz.func151,Tryz.ntmps151
  go_wp2_with fail
  refine HT.out.mono ?_;rintro e w1 ⟨rfl,h1,h2⟩;have N1:=ι (HN.out.read h1 h2);clear h1 h2;go_wp2_with fail
  refine (HU.out _).mono ?_;rintro e w2 ⟨rfl,hb2⟩;have N2:Hid (RdNd w0 w2 g nb s1 (1,[],[],zeroK)):=ι (N1.out.below hb2);have k1:w2.cell? ⟨nb,1,none⟩=some (.string ⟨#[]⟩):=N2.out.at0.2.1;have f1:w2.frozen? ⟨nb,1,none⟩=false:=N2.out.nd.frozen 1;have k0:w2.cell? ⟨nb,0,none⟩=some (.int .i64 1):=N2.out.at0.1;clear hb2;go_upto_region 3 with fail
  have N3:Hid (RdNd w0 (w2.setCell ⟨nb,1,none⟩ (.string ⟨p.toArray⟩)) g nb s1 (1,p,[],zeroK)):=ι (N2.out.write 1 _ rfl);generalize w2.setCell ⟨nb,1,none⟩ (.string ⟨p.toArray⟩)=W3 at *;clear k0 k1 f1;have k0:W3.cell? ⟨nb,0,none⟩=some (.int .i64 1):=N3.out.at0.1;have HV:=ι (code_RText W3 g s1 N3.out.rd 32 (by omega));generalize txtS s1 32=vr at *;obtain ⟨v,s2⟩:=vr;simp only at HX HV;go_wp2_with fail
  refine HV.out.mono ?_;rintro e w4 ⟨rfl,h3,h4⟩;have N4:=ι (N3.out.read h3 h4);clear k0 h3 h4;have k0:w4.cell? ⟨nb,0,none⟩=some (.int .i64 1):=N4.out.at0.1;have k2:w4.cell? ⟨nb,2,none⟩=some (.string ⟨#[]⟩):=N4.out.at0.2.2;have f2:w4.frozen? ⟨nb,2,none⟩=false:=N4.out.nd.frozen 2;by_cases he:ec=0
  ·subst he;cases leaf with
   |true=>
    go_wp2_with fail
    exact HP.out _ s2 _ _ HX.out (N4.out.write 2 _ rfl)
   |false=>
    go_wp2_with fail
    exact HP.out _ s2 _ _ HX.out (N4.out.write 2 _ rfl)
  ·have hee:((ec:Int)==0)=false:=by simp; exact he
   rw [decide_eq_false he] at HX;clear he;go_wp2_with fail
   exact HP.out _ s2 _ _ HX.out (N4.out.write 2 _ rfl)
 ·rw [if_neg hk] at HX;have hkI:((k:Int)==1)=false:=by simp; omega
  go_enter Tryz.func151,Tryz.ntmps151
  go_wp2_with fail
  refine HT.out.mono ?_;rintro e w1 ⟨rfl,h1,h2⟩;have N1:=ι (HN.out.read h1 h2);clear h1 h2;go_wp2_with fail
  refine (HU.out _).mono ?_;rintro e w2 ⟨rfl,hb2⟩;have N2:Hid (RdNd w0 w2 g nb s1 (k,[],[],zeroK)):=ι (N1.out.below hb2);have k1:w2.cell? ⟨nb,1,none⟩=some (.string ⟨#[]⟩):=N2.out.at0.2.1;have f1:w2.frozen? ⟨nb,1,none⟩=false:=N2.out.nd.frozen 1;have k0:w2.cell? ⟨nb,0,none⟩=some (.int .i64 (k:Int)):=N2.out.at0.1;clear hb2;go_upto_region 3 with fail
  have N3:Hid (RdNd w0 (w2.setCell ⟨nb,1,none⟩ (.string ⟨p.toArray⟩)) g nb s1 (k,p,[],zeroK)):=ι (N2.out.write 1 _ rfl);generalize w2.setCell ⟨nb,1,none⟩ (.string ⟨p.toArray⟩)=W3 at *;clear k0 k1 f1;have k0:W3.cell? ⟨nb,0,none⟩=some (.int .i64 (k:Int)):=N3.out.at0.1;have HV:=ι (fun W (hW:Rdr W g s1)=>code_RBytes W g s1 hW 32 (by omega));generalize bytesS s1 32=vr at *;obtain ⟨v,s2⟩:=vr;simp only at HX HV;go_upto_region 5 with fail
  clear k0;go_region_held3 (fun _=>True) (first|trivial|go_keep) ((go_at_call 149; refine (HV.out _ (by first|exact N3.out.rd|exact N3.out.drew.rd)).mono ?_; rintro e w4 ⟨rfl,hr2,hg2⟩; have N4:Hid (RdNd w0 w4 g nb s2 (k,p,[],zeroK)):=ι (by first|exact N3.out.read hr2 hg2|exact N3.out.drew.read hr2 hg2); have k3:w4.cell? ⟨nb,3,none⟩=some (.string ⟨#[]⟩):=N4.out.nd.cell 3; have f3:w4.frozen? ⟨nb,3,none⟩=false:=N4.out.nd.frozen 3; have k0:w4.cell? ⟨nb,0,none⟩=some (.int .i64 (k:Int)):=N4.out.at0.1; clear hr2 hg2))
  by_cases he:ec=0
  ·subst he;cases leaf with
   |true=>
    go_wp2_with fail
    exact HP.out _ s2 _ _ HX.out (N4.out.write 3 _ rfl)
   |false=>
    go_wp2_with fail
    exact HP.out _ s2 _ _ HX.out (N4.out.write 3 _ rfl)
  ·have hee:((ec:Int)==0)=false:=by simp; exact he
   rw [decide_eq_false he] at HX;clear he;go_wp2_with fail
   exact HP.out _ s2 _ _ HX.out (N4.out.write 3 _ rfl)
def DecNEnd (w:World) (r:Nd × Nat) (e:Ending) (w':World):Prop:=e= .returned (.tuple #[.agg (nodeV r.1.1 r.1.2.1 r.1.2.2.1 r.1.2.2.2).toArray,r.2])∧Below w.heap.size w w'
theorem kidsR_short (set:Nat):∀ n s,∀ x∈(kidsR set n s).1,x.length≤32
 |0,s,x,h=>by simp [kidsR] at h
 |n+1,s,x,h=>by
  simp only [kidsR,List.mem_cons] at h;rcases h with rfl|h
  ·unfold kidR
   split
   ·rcases bytesS_len s 32 with h|h
    ·rw [h]; exact Nat.zero_le _
    ·omega
   ·exact Nat.zero_le _
  ·exact kidsR_short set n _ x h
theorem zeroK_short:∀ x∈zeroK,x.length≤32:=by intro x h; rw [List.eq_of_mem_replicate h]; exact Nat.zero_le _
theorem readN_short (most:Nat) (hm:most≤1000) (s:List UInt8):(readN most s).1.2.1.length≤2000∧(readN most s).1.2.2.1.length≤32∧(readN most s).1.2.2.2.length=16∧∀ x∈(readN most s).1.2.2.2,x.length≤32:=by
 unfold readN
 split
 ·refine ⟨Nat.zero_le _,?_,?_,?_⟩
  ·unfold brR
   split
   ·exact Nat.zero_le _
   ·exact txtS_most _ _
  ·unfold brR
   split
   ·rfl
   ·exact kidsR_length _ _ _
  ·unfold brR
   split
   ·exact zeroK_short
   ·exact kidsR_short _ _ _
 ·unfold otR
  split
  ·refine ⟨?_,txtS_most _ _,rfl,zeroK_short⟩;have h1:=Nib.unpack_length (txtS (bytesS (s,0) 1).2 most).1;have h2:=txtS_most (bytesS (s,0) 1).2 most
   show (Nib.unpack _).1.length≤2000;omega
  ·refine ⟨?_,Nat.zero_le _,rfl,?_⟩
   ·have h1:=Nib.unpack_length (txtS (bytesS (s,0) 1).2 most).1;have h2:=txtS_most (bytesS (s,0) 1).2 most
    show (Nib.unpack _).1.length≤2000;omega
   ·intro x hx;rcases List.mem_cons.1 hx with rfl|hx
    ·rcases bytesS_len (txtS (bytesS (s,0) 1).2 most).2 32 with h|h
     ·rw [h]; exact Nat.zero_le _
     ·omega
    ·rw [List.eq_of_mem_replicate hx]; exact Nat.zero_le _
theorem readN_3 (most:Nat) (s:List UInt8) (h:kindR s=3):readN most s=((3,[],(brR (bytesS (s,0) 1).2).1.1,(brR (bytesS (s,0) 1).2).1.2),(brR (bytesS (s,0) 1).2).2,true):=by unfold readN; rw [if_pos h]
theorem readN_o (most:Nat) (s:List UInt8) (h:kindR s≠3):readN most s=((kindR s,(otR most (kindR s) (bytesS (s,0) 1).2).1),(otR most (kindR s) (bytesS (s,0) 1).2).2):=by unfold readN; rw [if_neg h]
theorem decN_eq (s:List UInt8):decN s=if endS (readN 16 s).2.1≠0∨(readN 16 s).2.2=false∨fineD (readN 16 s).1=false then (zeroN,80) else ((readN 16 s).1,0):=rfl
theorem Live.one {w W:World} {g t:Nat} {cs:Array Value} (hb:Below w.heap.size w W) (hg:w.heap.size≤g) (h:Blk W g t cs):Live w W [(g,t,cs)]:=
 ⟨hb,fun x hx=>by rw [List.mem_singleton] at hx; subst hx; exact ⟨hg,h⟩,List.pairwise_singleton _ _⟩
theorem nodeV_one (k:Nat) (p v:List UInt8) (K:List (List UInt8)):(nodeV k p v K).toArray.all (·.oneCell')=true:=by
 refine all_oneCell_toArray fun u hu=> ?_;unfold nodeV at hu;simp only [List.mem_cons] at hu;rcases hu with rfl|rfl|rfl|hu
 ·rfl
 ·rfl
 ·rfl
 ·exact strv_one _ _ hu
theorem Blk.range0 {w:World} {g t:Nat} {cs:List Value} (h:Blk w g t cs.toArray):w.rangeAt g 0 cs:=fun j u hu=>by rw [Nat.zero_add]; exact (h.cell j).trans (by simpa using hu)
theorem results_cell2 {P:Program} {fn:Func} {tmps:Array Value} {w:World} {a b:Tmp} {t:TypeId} {p:Addr} {v u:Value} (hr:fn.results=#[.cell a t,.tmp b]) (ha:tmps.getD a undef= .pointer (some p)) (hv:(loadVar t p).run P w= .ok v w) (hb:tmps.getD b undef=u):
  (results fn tmps).run P w= .ok (.tuple #[v,u]) w:=by
 unfold results;rw [hr];rw [Array.getD_eq_getD_getElem?] at ha hb;simp [Sem.run_bind,ha,hv,hb,asAddr]
theorem zeros_eq:(#[ζ,ε,ε,ε,ε,ε,ε,ε,ε,ε,ε,ε,ε,ε,ε,ε,ε,ε,ε]:Array Value)=(nodeV 0 [] [] zeroK).toArray:=rfl
theorem z_17 {P:Prop} (h:P:=by
 have TH:=F5.out.there 0 19 rfl (by decide);have HON:(#[ζ,ε,ε,ε,ε,ε,ε,ε,ε,ε,ε,ε,ε,ε,ε,ε,ε,ε,ε]:Array Value).all (·.oneCell')=true:=by rw [zeros_eq]; exact nodeV_one _ _ _ _
 go_wp2_with (first|((with_reducible refine at_op 37 ?_); refine wpList_build_eq rfl 133 _ rfl #[ζ,ε,ε,ε,ε,ε,ε,ε,ε,ε,ε,ε,ε,ε,ε,ε,ε,ε,ε] (by simp only [List.map_toArray,List.map_cons,List.map_nil]; kernel_rfl) ?_)|((with_reducible refine at_put 37 ?_); refine wpList_store_mid rfl 133 _ _ rfl rb 0 #[ζ,ε,ε,ε,ε,ε,ε,ε,ε,ε,ε,ε,ε,ε,ε,ε,ε,ε,ε] rfl rfl TH info_node HON ?_; have F6:=Live.hall F5 0 (#[ζ,ε,ε,ε,ε,ε,ε,ε,ε,ε,ε,ε,ε,ε,ε,ε,ε,ε,ε]:Array Value).toList rfl rfl; generalize World.setCells _ rb 0 _=W6 at F6 ⊢; have ld:(loadVar 133 ⟨rb,0,none⟩).run Tryz.prog W6= .ok (.agg #[ζ,ε,ε,ε,ε,ε,ε,ε,ε,ε,ε,ε,ε,ε,ε,ε,ε,ε,ε]) W6:=run_loadVar_mid (P:=Tryz.prog) W6 rb 0 133 (#[ζ,ε,ε,ε,ε,ε,ε,ε,ε,ε,ε,ε,ε,ε,ε,ε,ε,ε,ε]:Array Value).toList _ (Blk.range0 (F6.out.blk 0 rfl)) Tryz.underlying133 rfl info_node; clear TH))
 have HF:P (.returned (.tuple #[.agg #[ζ,ε,ε,ε,ε,ε,ε,ε,ε,ε,ε,ε,ε,ε,ε,ε,ε,ε,ε],.int .i64 80])) W6:=HP.out W6 zeroN 80 HE.out F6.out.b;exact ⟨rfl,_,results_cell2 rfl rfl ld rfl,HF⟩):P:=h
theorem z_18 {P:Prop} (h:P:=by
 go_wp2_with fail
 refine HEn.out.mono ?_;rintro e w5 ⟨rfl,h5,h6⟩;have N5:=ι (N4.out.read h5 h6);clear h5 h6;have F5:Hid (Live w w5 [(rb,133,#[ζ,ε,ε,ε,ε,ε,ε,ε,ε,ε,ε,ε,ε,ε,ε,ε,ε,ε,ε])]):=ι (Live.one (b1.out.2.1.nxt N5.out.b) b1.out.2.2 (b1.out.1.below N5.out.b b1.out.1.lt));exact z_17):P:=h
theorem node_Decode (w:World) (s:List UInt8) (hs:s.length≤1000000):
  Calls Tryz.prog 112 #[s] w (DecNEnd w (decN s)):=by
 have HP:Hid (∀ w' n (c:Nat),decN s=(n,c)→Below w.heap.size w w'→DecNEnd w (decN s) (.returned (.tuple #[.agg (nodeV n.1 n.2.1 n.2.2.1 n.2.2.2).toArray,c])) w'):=ι (fun w' n c e h=>by rw [e]; exact ⟨rfl,h⟩);generalize DecNEnd w (decN s)=P at HP ⊢;have HX:=ι (decN_eq s);have HS:=ι (readN_short 16 (by omega) s);have H3:=ι (readN_3 16 s);have HO:=ι (readN_o 16 s);have HL:=ι hs;clear hs;go_enter Tryz.func112,Tryz.ntmps112
 go_upto_region 1 with fail
 obtain ⟨rb,hrb⟩:∃ rb,w.heap.size=rb:=⟨_,rfl⟩
 have b1:Hid (Blk (w.alloc (.cells #[ζ,ε,ε,ε,ε,ε,ε,ε,ε,ε,ε,ε,ε,ε,ε,ε,ε,ε,ε] 133)) rb 133 #[ζ,ε,ε,ε,ε,ε,ε,ε,ε,ε,ε,ε,ε,ε,ε,ε,ε,ε,ε]∧Below w.heap.size w (w.alloc (.cells #[ζ,ε,ε,ε,ε,ε,ε,ε,ε,ε,ε,ε,ε,ε,ε,ε,ε,ε,ε] 133))∧w.heap.size≤rb):=ι (by subst hrb; exact ⟨Blk.new w _ _,by go_grown,Nat.le_refl _⟩);rw [hrb];generalize World.alloc w _=W1 at b1 ⊢;clear hrb;go_upto_region 3 with (go_at_call 79; refine (code_Read s _).mono ?_; rintro e w2 ⟨rfl,rfl⟩)
 have N0:Hid (RdNd W1 ((W1.alloc (.cells #[s,ζ,ζ] 200)).alloc (.cells #[ζ,ε,ε,ε,ε,ε,ε,ε,ε,ε,ε,ε,ε,ε,ε,ε,ε,ε,ε] 133)) W1.heap.size (W1.heap.size+1) (s,0) zeroN):=ι ⟨⟨s,0,(Blk.new W1 _ _).alloc _,Nat.zero_le _,HL.out,rfl⟩,by have:=Blk.new (W1.alloc (.cells #[s,ζ,ζ] 200)) 133 #[ζ,ε,ε,ε,ε,ε,ε,ε,ε,ε,ε,ε,ε,ε,ε,ε,ε,ε,ε]; rw [World.size_alloc] at this; exact this,by omega,Nat.le_refl _,by omega,by go_grown⟩;generalize ((W1.alloc (.cells #[s,ζ,ζ] 200)).alloc (.cells #[ζ,ε,ε,ε,ε,ε,ε,ε,ε,ε,ε,ε,ε,ε,ε,ε,ε,ε,ε] 133))=W3 at N0 ⊢;generalize W1.heap.size+1=nb at N0 ⊢;generalize W1.heap.size=g at N0 ⊢;have HBy:=ι (code_RBytes W3 g (s,0) N0.out.rd 1 (by omega));have hkd:(s= []∧(bytesS (s,0) 1).1= [])∨∃ c r,s=c::r∧(bytesS (s,0) 1).1= [c]:=by
  cases s with
  |nil=>exact .inl ⟨rfl,rfl⟩
  |cons c r=>exact .inr ⟨c,r,rfl,by unfold bytesS; simp⟩
 generalize bytesS (s,0) 1=br at *;obtain ⟨kd,s1⟩:=br;simp only at HBy hkd H3 HO;have HKD:=ι hkd;clear hkd;go_wp2_with fail
 refine HBy.out.mono ?_;rintro e w2 ⟨rfl,h1,h2⟩;have N1:Hid (RdNd W1 w2 g nb s1 zeroN):=ι (N0.out.read h1 h2);clear h1 h2 HBy N0;go_upto_if 13 with fail
 go_cut [] (fun wx=>RdNd W1 wx g nb s1 (kindR s,[],[],zeroK))
 case first=>
  rcases HKD.out with ⟨e1,e2⟩|⟨c,r,e1,e2⟩
  ·subst e2;have hkr:kindR s=0:=by rw [e1]; rfl
   have HF:Hid (RdNd W1 w2 g nb s1 (kindR s,[],[],zeroK)):=ι (by rw [hkr]; exact N1.out);clear e1 hkr HKD;go_wp2_with fail
   go_meet
   exact HF.out
  ·subst e2;have hkr:kindR s=c.toNat:=by rw [e1]; rfl
   have HR:=ι hkr;have hw:wrap64 (c.toNat:Int)=(c.toNat:Int):=IntWalk.wrap64_in _ (by have:=c.toNat_lt; constructor<;>omega);have k0:w2.cell? ⟨nb,0,none⟩=some (.int .i64 0):=N1.out.at0.1;have f0:w2.frozen? ⟨nb,0,none⟩=false:=N1.out.nd.frozen 0;clear e1 hkr HKD;go_wp2_with fail
   go_meet
   rw [HR.out];exact N1.out.write 0 _ rfl
 case rest=>
 have N2:=ι hcut;clear hcut N1 HKD;generalize hkk:kindR s=kk at *;clear hkk;have k0:wc.cell? ⟨nb,0,none⟩=some (.int .i64 (kk:Int)):=N2.out.at0.1;go_upto_if 20 with fail
 go_cut [7] (fun s7 wx=>∃ n st b,s7= .bool b∧readN 16 s=(n,st,b)∧RdNd W1 wx g nb st n)
 case first=>
  by_cases hk:kk=3
  ·subst hk;have e:=H3.out rfl;have HB:=ι (node_branch W1 wc g nb s1 N2.out);generalize brR s1=B at e HB;obtain ⟨⟨nv,nK⟩,st⟩:=B;simp only at e HB;have HE:=ι e;clear e k0 H3 HO N2 HX HS;go_wp2_with fail
   refine HB.out.mono ?_;rintro e w4 ⟨rfl,n4⟩;have N4:=ι n4;clear n4;go_wp2_with fail
   go_meet
   exact ⟨_,_,_,rfl,HE.out,N4.out⟩
  ·have e:=HO.out hk;have hkI:((kk:Int)==3)=false:=by simp; omega
   have HB:=ι (node_other W1 wc g nb kk s1 N2.out);generalize otR 16 kk s1=B at e HB;obtain ⟨⟨np,nv,nK⟩,st,fb⟩:=B;simp only at e HB;have HE:=ι e;clear e hk k0 H3 HO N2 HX HS;go_wp2_with fail
   refine HB.out.mono ?_;rintro e w4 ⟨rfl,n4⟩;have N4:=ι n4;clear n4;go_wp2_with fail
   go_meet
   exact ⟨_,_,_,rfl,HE.out,N4.out⟩
 case rest=>
 obtain ⟨⟨k,p,v,K⟩,st,fb,h7,e,n4⟩:=hcut;subst h7;rw [e] at HX HS;simp only at HX HS;have N4:=ι n4;clear k0 N2 H3 HO e n4;have HEn:=ι (code_REnd wc g st N4.out.rd);generalize hen:endS st=en at HX HEn;clear hen;go_upto_region 10 with fail
 by_cases he:en=0
 ·subst he;cases fb with
  |false=>
   have HE:Hid (decN s=(zeroN,80)):=ι (by rw [HX.out,if_pos (.inr (.inl rfl))]);clear HX;exact z_18
  |true=>
   have HC:=ι (node_Check k p v (by have:=HS.out.1; omega) (by have:=HS.out.2.1; omega) K HS.out.2.2.1 (fun x hx=>by have:=HS.out.2.2.2 x hx; omega));have HF:Hid (fineN k p v K=fineD (k,p,v,K)):=ι rfl;rw [HF.out] at HC;have SZ:(Tryz.prog.info? 133).map (·.size)=some (nodeV k p v K).length:=by rw [nodeV_size HS.out.2.2.1]; exact info_node
   have HON:=nodeV_one k p v K;have HSz:=ι (nodeV_size (k:=k) (p:=p) (v:=v) HS.out.2.2.1);have HEq:Hid (∀ w' (c:Nat),decN s=((k,p,v,K),c)→Below w.heap.size w w'→P (.returned (.tuple #[.agg (nodeV k p v K).toArray,c])) w'):=ι (fun w' c e h=>HP.out w' (k,p,v,K) c e h);go_wp2_with fail
   refine HEn.out.mono ?_;rintro e w5 ⟨rfl,h5,h6⟩;have N5:=ι (N4.out.read h5 h6);have B5:Hid (Blk w5 nb 133 (nodeV k p v K).toArray):=ι N5.out.nd;clear h5 h6;have HE:Hid (decN s=if fineD (k,p,v,K)=true then ((k,p,v,K),0) else (zeroN,80)):=ι (by
    rw [HX.out];cases fineD (k,p,v,K)<;>simp)
   clear HX HF;generalize nodeV k p v K=NV at *;have RA:=Blk.range0 B5.out;cases hfd:fineD (k,p,v,K) with
   |true=>
    rw [hfd,if_pos rfl] at HE;rw [hfd] at HC;clear hfd;go_wp2_with (first|((with_reducible refine at_op 33 ?_); refine wpList_load_want (by rfl) 133 _ rfl nb 0 rfl _ _ RA Tryz.underlying133 rfl SZ ?_)|fail)
    refine (HC.out _).mono ?_;rintro e w6 ⟨rfl,hb6⟩;have N6:=ι (N5.out.b.nxt hb6);have B6:=ι (B5.out.below hb6 B5.out.lt);have F6:Hid (Live w w6 [(rb,133,#[ζ,ε,ε,ε,ε,ε,ε,ε,ε,ε,ε,ε,ε,ε,ε,ε,ε,ε,ε])]):=ι (Live.one (b1.out.2.1.nxt N6.out) b1.out.2.2 (b1.out.1.below N6.out b1.out.1.lt));have TH:w6.there rb 0 NV.toArray.size:=by
     rw [show NV.toArray.size=19 by rw [List.size_toArray]; exact HSz.out];exact F6.out.there 0 19 rfl (by decide)
    have SZ2:(Tryz.prog.info? 133).map (·.size)=some NV.toArray.size:=by rw [List.size_toArray]; exact SZ
    have RA6:=Blk.range0 B6.out;clear RA hb6;go_wp2_with (first|((with_reducible refine at_op 38 ?_); refine wpList_load_want (by rfl) 133 _ rfl nb 0 rfl _ _ RA6 Tryz.underlying133 rfl SZ ?_)|((with_reducible refine at_put 38 ?_); refine wpList_store_mid rfl 133 _ _ rfl rb 0 NV.toArray rfl rfl TH SZ2 HON ?_; have F7:=Live.hall F6 0 NV.toArray.toList rfl HSz.out.symm; generalize World.setCells _ rb 0 _=W7 at F7 ⊢; have ld:=run_loadVar_mid (P:=Tryz.prog) W7 rb 0 133 NV.toArray.toList _ (Blk.range0 (F7.out.blk 0 rfl)) Tryz.underlying133 rfl SZ; clear TH SZ2))
    have HF:=HEq.out W7 0 HE.out F7.out.b;exact ⟨rfl,_,results_cell2 rfl rfl ld rfl,HF⟩
   |false=>
    rw [hfd,if_neg (by decide)] at HE;rw [hfd] at HC;clear hfd;go_wp2_with (first|((with_reducible refine at_op 33 ?_); refine wpList_load_want (by rfl) 133 _ rfl nb 0 rfl _ _ RA Tryz.underlying133 rfl SZ ?_)|fail)
    refine (HC.out _).mono ?_;rintro e w6 ⟨rfl,hb6⟩;have N6:=ι (N5.out.b.nxt hb6);clear RA hb6 HON;have F5:Hid (Live w w6 [(rb,133,#[ζ,ε,ε,ε,ε,ε,ε,ε,ε,ε,ε,ε,ε,ε,ε,ε,ε,ε,ε])]):=ι (Live.one (b1.out.2.1.nxt N6.out) b1.out.2.2 (b1.out.1.below N6.out b1.out.1.lt));exact z_17
 ·have HE:Hid (decN s=(zeroN,80)):=ι (by rw [HX.out,if_pos (.inl he)]);have hen:((en:Int) !=0)=true:=by simp; exact he
  clear HX he;exact z_18
end
end Go.Proofs.YtnelhjfjkkdoaaaGreatDoor