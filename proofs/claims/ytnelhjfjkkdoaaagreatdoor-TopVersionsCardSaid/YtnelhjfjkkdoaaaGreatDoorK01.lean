import Derived.WalkKit
import Derived.WalkSpells
import Derived.Below
import Derived.Laws.OwnMore
import Derived.Deep.AppendLies
import Derived.Deep.Draws
import Derived.Laws.Rows
import Derived.Maps.AppendAt
import Derived.RegionTactic
import Derived.OwnWalk
import Derived.Deep.OwnRows
import Derived.Laws.AppendOwn
import Derived.Laws.MakeOwn
import Derived.Laws.Entries
import Derived.LaidEqlPtr
import Derived.Laws.BitsAllLaws
import Derived.Laws.BitsLemmas
import Derived.ChangeSame
import Derived.Deep.QuietTactic
import Derived.Lib.Hide
import Derived.ShutString
import Derived.Test.YtnelhjfjkkdoaaaGreatDoorRows
import Derived.WalkLawsBesides
import Derived.BigQuiet
import Derived.Deep.LoopGhost
import Derived.Deep.RegionHeld3
import Derived.ScopeJumps
import Derived.Handy
import Derived.Deep.RegionLaw
import Derived.Laws.IdiomStrings
import Derived.Laws.BytesArg
import Derived.Laws.StructEq
import Derived.Maps.OwnOps
import Derived.MapKept
import GoSem.Op.String
import Derived.Sort.Walk0
set_option linter.unusedSimpArgs false
set_option linter.unusedVariables false
namespace Go.Proofs.YtnelhjfjkkdoaaaGreatDoor
section
open Go.RowKit Go.WideShapes Go.ChangeShapes
theorem block_of_add (a:Addr) (n:Nat):(a.add n).block=a.block:=by unfold Addr.add; split<;>rfl
theorem add_of_add (a:Addr) (i j:Nat):(a.add i).add j=a.add (i+j):=by
 unfold Addr.add;by_cases hi:i=0<;>by_cases hj:j=0<;>simp [hi,hj,Nat.add_assoc]
def Reads (w:World) (B size:Nat) (A:Option Addr) (n:Nat) (xs:List Value):Prop:=
 xs.length=n*size∧(0<n→∃ ad,A=some ad∧ad.block<B∧∀ j u,xs[j]?=some u→w.cell? (ad.add j)=some u)
section
variable {w w':World} {B B' size n:Nat} {A:Option Addr} {xs:List Value}
theorem Reads.none_:Reads w B size A 0 []:=⟨by simp,fun h=>absurd h (by omega)⟩
theorem Reads.at_ {k:Nat} (h:Reads w B 1 A n xs) (hk:k<n):∃ ad u,A=some ad∧ad.block<B∧xs[k]?=some u∧w.cell? (ad.add k)=some u:=by
 obtain ⟨ad,e,hb,hc⟩:=h.2 (by omega);have hl:k<xs.length:=by have:=h.1; omega
 exact ⟨ad,xs[k],e,hb,List.getElem?_eq_getElem hl,hc k _ (List.getElem?_eq_getElem hl)⟩
theorem Reads.keep (h:Reads w B size A n xs) (hk:∀ p:Addr,p.block<B→w'.cell? p=w.cell? p):Reads w' B size A n xs:=
 ⟨h.1,fun hn=>by
  obtain ⟨ad,e,hb,hc⟩:=h.2 hn;exact ⟨ad,e,hb,fun j u hu=>(hk _ (by rw [block_of_add]; exact hb)).trans (hc j u hu)⟩⟩
theorem Reads.more (h:Reads w B size A n xs) (hB:B≤B'):Reads w B' size A n xs:=
 ⟨h.1,fun hn=>by
  obtain ⟨ad,e,hb,hc⟩:=h.2 hn;exact ⟨ad,e,by omega,hc⟩⟩
theorem Reads.below (h:Reads w B size A n xs) (hb:Below B w w'):Reads w' B size A n xs:=h.keep fun _ hp=>hb.cell hp
theorem Reads.drew (h:Reads w B size A n xs):Reads w.drew B size A n xs:=h
theorem Reads.drewN (h:Reads w B size A n xs) (k:Nat):Reads (w.drewN k) B size A n xs:=h
theorem Reads.alloc (h:Reads w B size A n xs) (hB:B≤w.heap.size) (o:Obj):Reads (w.alloc o) B size A n xs:=h.keep fun p hp=>World.cell?_alloc_lt w o p (by omega)
theorem Reads.setCell (h:Reads w B size A n xs) {p:Addr} (hB:B≤p.block) (u:Value):Reads (w.setCell p u) B size A n xs:=
 h.keep fun q hq=>World.cell?_setCell_other w p q u (fun e=>by subst e; omega)
theorem Reads.grown (h:Reads w B size A n xs) {row:Option Nat} (hg:w.grownBy w' row) (hB:B≤w.heap.size) (hr:∀ g,row=some g→B≤g):Reads w' B size A n xs:=
 h.keep fun p hp=>World.cell?_of_block (hg.block p.block (by omega) (fun e=>by have:=hr _ e.symm; omega))
theorem Reads.cut (h:Reads w B size A n xs) {k cap:Nat} (hk:k≤n) (hc:n≤cap):
  Reads w B size (if cap=k then A else A.map (·.add (k*size))) (n - k) (xs.drop (k*size)):=by
 refine ⟨by rw [List.length_drop,h.1,Nat.sub_mul],fun hn=> ?_⟩;obtain ⟨ad,rfl,hb,hcell⟩:=h.2 (by omega);rw [if_neg (by omega)];refine ⟨ad.add (k*size),rfl,by rw [block_of_add]; exact hb,fun j u hu=> ?_⟩;rw [add_of_add];exact hcell _ u (by rw [←hu,List.getElem?_drop])
theorem Reads.of_own {base:Nat} {e:TypeId} {c:Nat} (h:w.ownsRow base e size (.slice A n c) n xs):Reads w w.heap.size size A n xs:=by
 refine ⟨h.1,fun hn=> ?_⟩;obtain ⟨g,cap,hv,_,hlt⟩:=h.form hn;have hA:A=some ⟨g,0,none⟩:=by injection hv
 subst hA;exact ⟨_,rfl,hlt,h.cells (g:=g) rfl⟩
end
def Blk (w:World) (g:Nat) (t:TypeId) (cs:Array Value):Prop:=w.heap[g]?=some (.cells cs t (0,0))
section
variable {w w':World} {g:Nat} {t:TypeId} {cs:Array Value}
theorem Blk.lt (h:Blk w g t cs):g<w.heap.size:=by
 rcases Nat.lt_or_ge g w.heap.size with hlt|hge
 ·exact hlt
 ·unfold Blk at h; rw [Array.getElem?_eq_none hge] at h; cases h
theorem Blk.cell (h:Blk w g t cs) (i:Nat):w.cell? ⟨g,i,none⟩=cs[i]?:=cell_of_row w g i cs t (0,0) h
theorem Blk.frozen (h:Blk w g t cs) (i:Nat):w.frozen? ⟨g,i,none⟩=false:=by
 unfold Blk at h;simp [World.frozen?,h]
theorem Blk.new (w:World) (t:TypeId) (cs:Array Value):Blk (w.alloc (.cells cs t)) w.heap.size t cs:=heap_alloc_new w _
theorem Blk.drew (h:Blk w g t cs):Blk w.drew g t cs:=h
theorem Blk.drewN (h:Blk w g t cs) (n:Nat):Blk (w.drewN n) g t cs:=h
theorem Blk.alloc (h:Blk w g t cs) (o:Obj):Blk (w.alloc o) g t cs:=(Below.heap_alloc w o g h.lt).trans h
theorem Blk.set_ (h:Blk w g t cs) (i:Nat) (u:Value):Blk (w.setCell ⟨g,i,none⟩ u) g t (cs.setIfInBounds i u):=by
 unfold Blk at h ⊢;simp [World.setCell,Array.getElem?_modify,h]
theorem Blk.far (h:Blk w g t cs) {p:Addr} (hp:g≠p.block) (u:Value):Blk (w.setCell p u) g t cs:=(Below.heap_setCell w p u g hp).trans h
theorem Blk.below {B:Nat} (h:Blk w g t cs) (hb:Below B w w') (hg:g<B):Blk w' g t cs:=(hb.block g hg).trans h
theorem Blk.grown {row:Option Nat} (h:Blk w g t cs) (hb:w.grownBy w' row) (hg:some g≠row):Blk w' g t cs:=(hb.block g h.lt hg).trans h
theorem Blk.ne_ {g':Nat} {t':TypeId} {cs':Array Value} (h:Blk w g t cs) (h':Blk w g' t' cs') (hne:t≠t'):g≠g':=by
 rintro rfl;unfold Blk at h h';rw [h] at h';injection h' with h'
 injection h' with _ ht
 exact hne ht
theorem own_blk_ne {base:Nat} {e:TypeId} {size n:Nat} {v:Value} {xs:List Value} (h:w.ownsRow base e size v n xs) (hg:Blk w g t cs) (hne:e≠t):v.ownBlock≠some g:=by
 rcases h.2 with ⟨rfl,_⟩|⟨g',cap,cur,rfl,_,hh,_⟩
 ·simp [Value.ownBlock]
 ·intro he
  have:g'=g:=by simpa [Value.ownBlock] using he
  subst this;exact Blk.ne_ (t:=e) hh hg hne rfl
end
section
variable {P:Program} (w:World)
theorem run_append_of_nil (base:Nat) (t ty e:TypeId) (i:TypeInfo) (size:Nat) (ht:P.underlying t=some (.slice e)) (hi:P.info? e=some i)
  (v:Value) (n:Nat) (xs:List Value) (hown:w.ownsRow base e size v n xs) (c:Nat):(Builtin.append_ #[t,t] ty #[v,.slice none 0 c]).run P w= .ok v w:=by
 rcases hown.2 with ⟨rfl,rfl⟩|⟨g,cap,cur,rfl,_,_,hnc,_⟩
 ·simp [Builtin.append_,run_underlying ht,sizeOf,typeInfo,hi,Builtin.lenOf,Builtin.firstCells]
 ·simp [Builtin.append_,run_underlying ht,sizeOf,typeInfo,hi,Builtin.lenOf,Builtin.firstCells,hnc,storeCells]
theorem run_append_any (base:Nat) (t ty e:TypeId) (i:TypeInfo) (z:Value) (size bytes:Nat) (ht:P.underlying t=some (.slice e)) (hi:P.info? e=some i) (hz:i.zero=some z)
  (hsize:i.size=size) (hby:i.bytes=bytes) (hzs:z.cells.size=size) (hsz:0<size)
  (v:Value) (n:Nat) (xs:List Value) (hown:w.ownsRow base e size v n xs)
  (B:Nat) (A:Option Addr) (m c:Nat) (news:List Value) (hr:Reads w B size A m news) (h1:∀ u∈news,u.oneCell'=true)
  (h63:n+m≤maxLen) (hbytes:(n+m)*bytes≤140737488355328) (hbase:base≤w.heap.size):
  ∃ v' w',(Builtin.append_ #[t,t] ty #[v,.slice A m c]).run P w= .ok v' w'∧w'.ownsRow base e size v' (n+m) (xs++news)∧w.grownBy w' v.ownBlock∧
   (v'.ownBlock=v.ownBlock∨v'.ownBlock=some w.heap.size):=by
 rcases A with _|ad
 ·have hm:m=0:=by
   rcases Nat.eq_zero_or_pos m with h0|h0
   ·exact h0
   ·obtain ⟨ad,h,_⟩:=hr.2 h0;cases h
  subst hm;have hn:news= []:=List.eq_nil_of_length_eq_zero (by simpa using hr.1);subst hn;exact ⟨v,w,run_append_of_nil w base t ty e i size ht hi v n xs hown c,by simpa using hown,World.grownBy.refl w _,.inl rfl⟩
 ·have hcells:∀ j u,news[j]?=some u→w.cell? (ad.add j)=some u:=by
   intro j u hu;rcases Nat.eq_zero_or_pos m with h0|h0
   ·subst h0;have hn:news= []:=List.eq_nil_of_length_eq_zero (by simpa using hr.1);subst hn;simp at hu
   ·obtain ⟨ad',h,_,hc⟩:=hr.2 h0;injection h with h
    subst h;exact hc j u hu
  obtain ⟨v',w',hrun,h2,h3,_,h5⟩:=run_append_own_at (P:=P) w base t ty e i z size bytes ht hi hz hsize hby hzs hsz v n xs hown ad m c news hr.1 hcells h1 h63 hbytes hbase;exact ⟨v',w',hrun,h2,h3,h5⟩
theorem wp_append_any {o:Oper} {a:Act} {K:Act→World→Prop} {Q:Exit→Act→World→Prop} (s x:Operand) (t:TypeId)
  (ho:o.op= .call {callee:= .builtin .append,args:=#[s,x],argTypes:=#[t,t]})
  (base:Nat) (e:TypeId) (i:TypeInfo) (z:Value) (size bytes:Nat) (ht:P.underlying t=some (.slice e)) (hi:P.info? e=some i) (hz:i.zero=some z)
  (hsize:i.size=size) (hby:i.bytes=bytes) (hzs:z.cells.size=size) (hsz:0<size)
  (v:Value) (n:Nat) (xs:List Value) (hs:a.eval s=v) (hown:w.ownsRow base e size v n xs)
  (B:Nat) (A:Option Addr) (m c:Nat) (news:List Value) (hx:a.eval x= .slice A m c) (hr:Reads w B size A m news) (h1:∀ u∈news,u.oneCell'=true)
  (h63:n+m≤maxLen) (hbytes:(n+m)*bytes≤140737488355328) (hbase:base≤w.heap.size)
  (h:∀ v' w',w'.ownsRow base e size v' (n+m) (xs++news)→w.grownBy w' v.ownBlock→(v'.ownBlock=v.ownBlock∨v'.ownBlock=some w.heap.size)→K (a.put o.dst v') w'):o.wp P a w K Q:=by
 obtain ⟨v',w',hrun,h2,h3,h4⟩:=run_append_any (P:=P) w base t o.type e i z size bytes ht hi hz hsize hby hzs hsz v n xs hown B A m c news hr h1 h63 hbytes hbase;unfold Oper.wp execOp;simp only [ho,resolve,invoke,builtin,Sem.run_bind,Sem.run_pure,Result.andThen_ok,List.map_toArray,List.map_cons,List.map_nil,hs,hx,hrun];exact h v' w' h2 h3 h4
theorem wpList_append_any {ops:Array Oper} {rest:List Oper} {o:Oper} {a:Act} {Q:Exit→Act→World→Prop} (hgd:o.guard=none) (s x:Operand) (t:TypeId)
  (ho:o.op= .call {callee:= .builtin .append,args:=#[s,x],argTypes:=#[t,t]})
  (base:Nat) (e:TypeId) (i:TypeInfo) (z:Value) (size bytes:Nat) (ht:P.underlying t=some (.slice e)) (hi:P.info? e=some i) (hz:i.zero=some z)
  (hsize:i.size=size) (hby:i.bytes=bytes) (hzs:z.cells.size=size) (hsz:0<size)
  (v:Value) (n:Nat) (xs:List Value) (hs:a.eval s=v) (hown:w.ownsRow base e size v n xs)
  (B:Nat) (A:Option Addr) (m c:Nat) (news:List Value) (hx:a.eval x= .slice A m c) (hr:Reads w B size A m news) (h1:∀ u∈news,u.oneCell'=true)
  (h63:n+m≤maxLen) (hbytes:(n+m)*bytes≤140737488355328) (hbase:base≤w.heap.size)
  (h:∀ v' w',w'.ownsRow base e size v' (n+m) (xs++news)→w.grownBy w' v.ownBlock→(v'.ownBlock=v.ownBlock∨v'.ownBlock=some w.heap.size)→wpList P ops Q rest (a.put o.dst v') w'):wpList P ops Q (o::rest) a w:=
 wpList_plain hgd fun _ hK=>wp_append_any w s x t ho base e i z size bytes ht hi hz hsize hby hzs hsz v n xs hs hown B A m c news hx hr h1 h63 hbytes hbase fun v' w' h2 h3 h4=>hK _ _ (h v' w' h2 h3 h4)
theorem step_append_any {ops:Array Oper} {o:Oper} {a:Act} {K:Act→World→Prop} {Q:Exit→Act→World→Prop} {E:Prop} (hgd:o.guard=none) (s x:Operand) (t:TypeId)
  (ho:o.op= .call {callee:= .builtin .append,args:=#[s,x],argTypes:=#[t,t]})
  (base:Nat) (e:TypeId) (i:TypeInfo) (z:Value) (size bytes:Nat) (ht:P.underlying t=some (.slice e)) (hi:P.info? e=some i) (hz:i.zero=some z)
  (hsize:i.size=size) (hby:i.bytes=bytes) (hzs:z.cells.size=size) (hsz:0<size)
  (v:Value) (n:Nat) (xs:List Value) (hs:a.eval s=v) (hown:w.ownsRow base e size v n xs)
  (B:Nat) (A:Option Addr) (m c:Nat) (news:List Value) (hx:a.eval x= .slice A m c) (hr:Reads w B size A m news) (h1:∀ u∈news,u.oneCell'=true)
  (h63:n+m≤maxLen) (hbytes:(n+m)*bytes≤140737488355328) (hbase:base≤w.heap.size)
  (h:∀ v' w',w'.ownsRow base e size v' (n+m) (xs++news)→w.grownBy w' v.ownBlock→(v'.ownBlock=v.ownBlock∨v'.ownBlock=some w.heap.size)→K (a.put o.dst v') w'):
  if Region.wanted o (yielded ops a.tmps)=true then Oper.wp P o a w K Q else E:=by
 have hw:Region.wanted o (yielded ops a.tmps)=true:=by simp [Region.wanted,hgd]
 rw [if_pos hw];exact wp_append_any w s x t ho base e i z size bytes ht hi hz hsize hby hzs hsz v n xs hs hown B A m c news hx hr h1 h63 hbytes hbase h
end
theorem below_drewN {B:Nat} {a w:World} (h:Below B a w) (n:Nat):Below B a (w.drewN n):=⟨h.os,h.tape,h.output,h.size,h.block⟩
theorem only_drewN {a w:World} {row:Option Nat} (h:a.grownBy w row) (n:Nat):a.grownBy (w.drewN n) row:=⟨h.os,h.tape,h.output,h.size,h.block⟩
theorem only_drew {a w:World} {row:Option Nat} (h:a.grownBy w row):a.grownBy w.drew row:=⟨h.os,h.tape,h.output,h.size,h.block⟩
theorem only_setCell {a w:World} {g:Nat} (h:a.grownBy w (some g)) {p:Addr} (hp:p.block=g∨a.heap.size≤p.block) (u:Value):a.grownBy (w.setCell p u) (some g):=
 ⟨h.os,h.tape,h.output,by simpa [World.setCell] using h.size,fun i hi hne=>(Below.heap_setCell w p u i (by
  rintro rfl;rcases hp with hp|hp
  ·exact hne (by rw [hp])
  ·omega)).trans (h.block i hi hne)⟩
theorem only_of_below {a w:World} (h:Below a.heap.size a w) (row:Option Nat):a.grownBy w row:=⟨h.os,h.tape,h.output,h.size,fun i hi _=>h.block i hi⟩
theorem run_make_rowN {P:Program} (t e:TypeId) (i:TypeInfo) (z:Value) (ht:P.underlying t=some (.slice e)) (hi:P.info? e=some i) (hz:i.zero=some z)
  (kl kc:IntKind) (n c:Nat) (hnc:n≤c) (hbytes:i.bytes*c≤281474976710656) (h63:c≤9223372036854775807) (w:World):
  (Instr.makeSlice t (.int kl (n:Int)) (.int kc (c:Int))).run P w= .ok (.slice (some ⟨w.heap.size,0,none⟩) n c) (w.alloc (.cells (madeCells z.cells (c*i.size)) e)):=by
 have hb:(i.bytes:Int)*(c:Int)≤281474976710656:=by
  have h:((i.bytes*c:Nat):Int)≤281474976710656:=by omega
  rwa [Int.natCast_mul] at h
 have hr:=run_make (P:=P) w t e i z ht hi hz kl kc n c (by omega) (by omega) hb (by omega);simp only [Int.toNat_natCast] at hr;exact hr
theorem ofInt_i64 (a:Nat) (ha:a<9223372036854775808):(BitVec.ofInt 64 (a:Int)).toNat=a:=by
 rw [BitVec.ofInt_natCast,BitVec.toNat_ofNat]; exact Nat.mod_eq_of_lt (by omega)
theorem i64_or_nat (a b:Nat) (ha:a<9223372036854775808) (hb:b<9223372036854775808):bits .or .i64 (a:Int) (b:Int)=((a|||b:Nat):Int):=by
 have hx:a|||b<2 ^ 63:=Nat.or_lt_two_pow (by omega) (by omega)
 show IntKind.i64.wrap ((BitVec.ofInt 64 (a:Int)|||BitVec.ofInt 64 (b:Int)).toNat:Int)=_;rw [BitVec.toNat_or,ofInt_i64 a ha,ofInt_i64 b hb,IntKind.wrap_i64];omega
section
variable {H:Type} {enc:TypeId × Value→H} {P:Program}
theorem post_of_below {f:Func} {s:ChangeSpec} {apart fresh handsOn again:Bool} {W W':World} {args:Array Value} {v:Value} {ds gs:List (DataW H)} {before pa pv:List MemPlace}
  (hW:DataW.Whole enc P f.params.toList s.vars apart W args.toList ds gs before)
  (hres:∀ (b:Nat) (sp:Nat→Bool) (hd:Bool),DataW.TrodAll enc P W' b sp hd f.resultTypes.toList (v.resultList f.resultTypes.size) (s.fn H (ds++gs)).results [])
  (hargs:∀ sp:Nat→Bool,(∀ p∈before,sp p.block=true)→DataW.TrodAll enc P W' 0 sp true f.params.toList args.toList (s.fn H (ds++gs)).args pa)
  (hvars:∀ sp:Nat→Bool,(∀ p∈before,sp p.block=true)→DataW.TrodVars enc P W' sp s.vars (s.fn H (ds++gs)).vars pv)
  (hps:before=pa++pv) (hb:Below W.heap.size W W')
  (hok:∀ (j:Nat) (t:TypeId) (r:Value),f.resultTypes[j]?=some t→(v.resultList f.resultTypes.size)[j]?=some r→Value.okWide P W' .any 0 t r):
  s.post enc P f apart fresh handsOn again W args v W':=by
 have hlt:∀ p∈before,p.block<W.heap.size:=fun p hp=>hW.lt p hp;have hold:∀ p∈before,(fun b=>decide (b<W.heap.size)) p.block=true:=fun p hp=>by simpa using hlt p hp
 refine ⟨ds,gs,before,[],pa,pv,hW,hres _ _ _,hargs _ hold,hvars _ hold,World.keptBut_mono (fun p hp=>⟨hp,?_⟩) (hb.frame (·∈before)),fun _=> ?_⟩
 ·rw [hps,List.mem_append] at hp;exact Or.inr hp
 ·obtain ⟨_,_,_,_,_,hz,hn⟩:=hW;refine ⟨hok,_,_,([]++pa)++pv,⟨[]++pa,pv,trodAll_append (hargs _ (fun _ _=>rfl)) (hres _ _ _),hvars _ (fun _ _=>rfl),rfl,?_,?_⟩,?_⟩
  ·intro b off hp;have hin:MemPlace.cell b off∈before:=by rw [hps]; simpa using hp
   rw [hb.frozen (hlt _ hin)];exact hz b off hin
  ·intro ha
   have:=hn ha
   rw [hps] at this;simpa using this
  ·intro p hp _;rw [hps];simpa using hp
end
end
section
open Go.RowKit
theorem ret_int {k:IntKind} {a b:Int} (h:a=b):Ending.returned (.int k a)= .returned (.int k b):=by rw [h]
theorem ret_bool {a b:Bool} (h:a=b):Ending.returned (.bool a)= .returned (.bool b):=by rw [h]
theorem ret_string {a b:ByteArray} (h:a=b):Ending.returned (.string a)= .returned (.string b):=by rw [h]
def ints (l:List Nat):List Value:=l.map fun (n:Nat)=>Value.int .i64 (n:Int)
theorem ints_length (l:List Nat):(ints l).length=l.length:=by simp [ints]
theorem ba_get (s:List UInt8) (i:Nat) (h:i<(ByteArray.mk s.toArray).size):(ByteArray.mk s.toArray)[i]=s[i]'(by simpa [ByteArray.size] using h):=rfl
theorem and15_fin:∀ n:Fin 256,bits .and .u8 ((n.val:Nat):Int) 15=((n.val % 16:Nat):Int):=by decide+kernel
theorem u8_and15 (b:UInt8):bits .and .u8 (b.toNat:Int) 15=(b.toNat:Int) % 16:=by
 have:=and15_fin ⟨b.toNat,b.toNat_lt⟩
 simpa using this
theorem pack_fin:∀ n m:Fin 16,bits .or .u8 (IntKind.u8.wrap (((n.val:Nat):Int)*16)) ((m.val:Nat):Int)=(((n.val*16+m.val) % 256:Nat):Int):=by decide+kernel
theorem u8_pack (a b:UInt8) (ha:a≤15) (hb:b≤15):bits .or .u8 (IntKind.u8.wrap ((a.toNat:Int)*16)) (b.toNat:Int)=((a*16+b).toNat:Int):=by
 rw [UInt8.le_iff_toNat_le] at ha hb
 have:=pack_fin ⟨a.toNat,by simp at ha; omega⟩ ⟨b.toNat,by simp at hb; omega⟩
 simpa [UInt8.toNat_add,UInt8.toNat_mul] using this
theorem or16_fin:∀ n:Fin 16,bits .or .u8 16 ((n.val:Nat):Int)=((16+n.val:Nat):Int)∧bits .or .u8 0 ((16+n.val:Nat):Int)=((16+n.val:Nat):Int)∧bits .or .u8 32 ((16+n.val:Nat):Int)=((48+n.val:Nat):Int):=by decide+kernel
theorem u8_or16 (a:UInt8) (ha:a≤15):bits .or .u8 16 (a.toNat:Int)=((16+a.toNat:Nat):Int)∧bits .or .u8 0 ((16+a.toNat:Nat):Int)=((16+a.toNat:Nat):Int)∧bits .or .u8 32 ((16+a.toNat:Nat):Int)=((48+a.toNat:Nat):Int):=by
 rw [UInt8.le_iff_toNat_le] at ha;exact or16_fin ⟨a.toNat,by simp at ha; omega⟩
theorem and12_fin:∀ n:Fin 256,bits .and .u8 (((n.val:Nat):Int) / 16) 1=((n.val / 16 % 2:Nat):Int)∧bits .and .u8 (((n.val:Nat):Int) / 16) 2=((n.val / 16 / 2 % 2*2:Nat):Int):=by decide+kernel
theorem u8_and12 (b:UInt8):bits .and .u8 ((b.toNat:Int) / 16) 1=((b.toNat / 16 % 2:Nat):Int)∧bits .and .u8 ((b.toNat:Int) / 16) 2=((b.toNat / 16 / 2 % 2*2:Nat):Int):=
 and12_fin ⟨b.toNat,b.toNat_lt⟩
def bvals (l:List UInt8):List Value:=l.map fun (b:UInt8)=>Value.int .u8 (b.toNat:Int)
theorem bvals_one (l:List UInt8):∀ u∈bvals l,u.oneCell'=true:=by
 intro u hu;simp [bvals] at hu
 obtain ⟨n,_,rfl⟩:=hu;rfl
theorem bvals_length (l:List UInt8):(bvals l).length=l.length:=by simp [bvals]
theorem u8_ofInt (x:Int) (h0:0≤x) (h1:x<256):((UInt8.ofNat x.toNat).toNat:Int)=x:=by
 have:x.toNat<256:=by omega
 simp [Nat.mod_eq_of_lt this]; omega
theorem conv_reads (w:World) (B:Nat) (A:Option Addr) (n c:Nat) (l:List UInt8) (h:Reads w B 1 A n (bvals l)):
  (convert 118 9 (.slice A n c)).run Tryz.prog w= .ok (.string ⟨l.toArray⟩) w:=by
 have hl:l.length=n:=by have:=h.1; rw [bvals_length] at this; omega
 subst hl;rcases Nat.eq_zero_or_pos l.length with h0|h0
 ·have hl:l= []:=List.eq_nil_of_length_eq_zero h0;subst hl;cases A with
  |none=>exact run_convert_bytes_nil w 118 5 Tryz.underlying118 Tryz.underlying5 0 c 9 Tryz.underlying9
  |some a=>exact run_convert_bytes_back w 118 9 5 a c [] Tryz.underlying118 Tryz.underlying5 Tryz.underlying9 (by simp)
 ·obtain ⟨ad,rfl,_,hc⟩:=h.2 h0;refine run_convert_bytes_back w 118 9 5 ad c l Tryz.underlying118 Tryz.underlying5 Tryz.underlying9 (fun j hj=>hc j _ ?_);simp [bvals,List.getElem?_eq_getElem hj]
theorem conv1 (w:World) (x:Int) (h0:0≤x) (h1:x<256):(convert 118 9 (.slice (some ⟨w.heap.size,0,none⟩) 1 1)).run Tryz.prog (w.alloc (.cells #[.int .u8 x] 5))= .ok (.string ⟨#[UInt8.ofNat x.toNat]⟩) (w.alloc (.cells #[.int .u8 x] 5)):=by
 refine conv_reads _ (w.heap.size+1) _ _ _ [UInt8.ofNat x.toNat] ⟨rfl,fun _=>⟨_,rfl,by simp,fun j u hu=> ?_⟩⟩;have ha:(⟨w.heap.size,0,none⟩:Addr).add j=⟨w.heap.size,j,none⟩:=by unfold Addr.add; split<;>simp_all
 rw [ha,World.cell?_alloc_at _ _ _ _ rfl];simp only [bvals,List.map,u8_ofInt x h0 h1] at hu;simpa using hu
theorem conv2 (w:World) (x y:Int) (h0:0≤x) (h1:x<256) (h2:0≤y) (h3:y<256):(convert 118 9 (.slice (some ⟨w.heap.size,0,none⟩) 2 2)).run Tryz.prog (w.alloc (.cells #[.int .u8 x,.int .u8 y] 5))= .ok (.string ⟨#[UInt8.ofNat x.toNat,UInt8.ofNat y.toNat]⟩) (w.alloc (.cells #[.int .u8 x,.int .u8 y] 5)):=by
 refine conv_reads _ (w.heap.size+1) _ _ _ [UInt8.ofNat x.toNat,UInt8.ofNat y.toNat] ⟨rfl,fun _=>⟨_,rfl,by simp,fun j u hu=> ?_⟩⟩;have ha:(⟨w.heap.size,0,none⟩:Addr).add j=⟨w.heap.size,j,none⟩:=by unfold Addr.add; split<;>simp_all
 rw [ha,World.cell?_alloc_at _ _ _ _ rfl];simp only [bvals,List.map,u8_ofInt x h0 h1,u8_ofInt y h2 h3] at hu;simpa using hu
theorem conv1d (w:World) (x:Int) (h0:0≤x) (h1:x<256):(convert 118 9 (.slice (some ⟨w.heap.size,0,none⟩) 1 1)).run Tryz.prog (w.alloc (.cells #[.int .u8 x] 5)).drew= .ok (.string ⟨#[UInt8.ofNat x.toNat]⟩) (w.alloc (.cells #[.int .u8 x] 5)).drew:=conv1 w.drew x h0 h1
theorem conv1_below (w w1:World) (x:Int) (h0:0≤x) (h1:x<256) (hb:Below (w.heap.size+1) (w.alloc (.cells #[.int .u8 x] 5)).drew w1):
  (convert 118 9 (.slice (some ⟨w.heap.size,0,none⟩) 1 1)).run Tryz.prog w1= .ok (.string ⟨#[UInt8.ofNat x.toNat]⟩) w1:=by
 refine conv_reads _ (w.heap.size+1) _ _ _ [UInt8.ofNat x.toNat] ⟨rfl,fun _=>⟨_,rfl,by simp,fun j u hu=> ?_⟩⟩;have ha:(⟨w.heap.size,0,none⟩:Addr).add j=⟨w.heap.size,j,none⟩:=by unfold Addr.add; split<;>simp_all
 rw [ha,hb.cell (p:=⟨w.heap.size,j,none⟩) (by simp)]
 show (w.alloc (.cells #[.int .u8 x] 5)).cell? _=_;rw [World.cell?_alloc_at _ _ _ _ rfl];simp only [bvals,List.map,u8_ofInt x h0 h1] at hu;simpa using hu
theorem _root_.Go.RowKit.Below.start {B:Nat} {a b:World} (h:Below B a.drew b):Below B a b:=⟨h.os,h.tape,h.output,h.size,h.block⟩
theorem _root_.Go.RowKit.Below.nxt {a b c:World} (g:Below a.heap.size a b) (h:Below b.heap.size b c):Below a.heap.size a c:=g.trans (h.mono g.size)
theorem _root_.Go.RowKit.Below.start_drewN {n:Nat} {a b:World} (h:Below (a.drewN n).heap.size (a.drewN n) b):Below a.heap.size a b:=⟨h.os,h.tape,h.output,h.size,h.block⟩
theorem Reads.form {w:World} {B size n:Nat} {A:Option Addr} {xs:List Value} (h:Reads w B size A n xs) (hn:0<n) (hs:0<size):
  ∃ b off,A=some ⟨b,off,none⟩∧b<B∧∀ (j:Nat) (hj:j<xs.length),w.cell? ⟨b,off+j,none⟩=some xs[j]:=by
 obtain ⟨⟨b,off,sp⟩,rfl,hb,hc⟩:=h.2 hn;have hl:0<xs.length:=by rw [h.1]; exact Nat.mul_pos hn hs
 have h0:=hc 0 _ (List.getElem?_eq_getElem hl);have hsp:sp=none:=by
  cases sp with
  |none=>rfl
  |some q=>
   have e:(⟨b,off,some q⟩:Addr).add 0=⟨b,off,some q⟩:=rfl;rw [e] at h0;simp only [World.cell?] at h0
   split at h0<;>simp at h0
 subst hsp;refine ⟨b,off,rfl,hb,fun j hj=> ?_⟩
 have:=hc j _ (List.getElem?_eq_getElem hj)
 rwa [show (⟨b,off,none⟩:Addr).add j=⟨b,off+j,none⟩ from by unfold Addr.add; split<;>simp_all] at this
theorem own_form {w:World} {base e size n:Nat} {v:Value} {xs:List Value} (h:w.ownsRow base e size v n xs):∃ A c,v= .slice A n c∧Reads w w.heap.size size A n xs∧n≤c∧∀ a,A=some a→base≤a.block:=by
 rcases h.2 with ⟨rfl,rfl⟩|⟨g,cap,cur,rfl,hg,_,hc,_⟩
 ·exact ⟨none,0,rfl,Reads.of_own h,Nat.le_refl _,by simp⟩
 ·exact ⟨_,cap,rfl,Reads.of_own h,hc,by intro a ha; injection ha with ha; subst ha; exact hg⟩
theorem own_below {w w1:World} {base e size n:Nat} {v:Value} {xs:List Value} (h:w.ownsRow base e size v n xs) (hb:Below w.heap.size w w1):w1.ownsRow base e size v n xs:=
 h.kept (only_of_below hb none) (by cases hv:v.ownBlock<;>simp)
theorem wp_scope_ghost {P:Program} {a:Act} {w:World} {Q:Exit→Act→World→Prop} {c rest:Code} (l:Nat) (J:Nat→Act→World→Prop) (hf:findLabel c l=some rest)
  (first:∀ K:Act→World→Prop,(∀ k a' w',J k a' w'→K a' w')→c.wp P (Exit.jump l K Q) a w)
  (pass:∀ n a w,J n a w→∀ K:Act→World→Prop,(∀ k a' w',k<n→J k a' w'→K a' w')→rest.wp P (Exit.jump l K Q) a w):(Code.scope c).wp P Q a w:=by
 refine wp_scope_jumps l (fun a w=>∃ n,J n a w) (fun a w=>leastOf (fun n=>J n a w)) hf (first _ fun k a' w' h=>⟨k,h⟩) ?_;intro a w hI;refine pass _ a w (leastOf_spec hI).1 _ ?_;intro k a' w' hlt hJ;exact ⟨⟨k,hJ⟩,Nat.lt_of_le_of_lt ((leastOf_spec ⟨k,hJ⟩).2 k hJ) hlt⟩
theorem wp_append_new {P:Program} (wr:World) (e:TypeId) (news:List Value) {o:Oper} {a:Act} {K:Act→World→Prop} {Q:Exit→Act→World→Prop} (s x:Operand) (t:TypeId)
  (ho:o.op= .call {callee:= .builtin .append,args:=#[s,x],argTypes:=#[t,t]})
  (base size bytes:Nat) (z:Value) (hinfo:(P.info? e).map (fun i=>(i.zero,i.size,i.bytes))=some (some z,size,bytes)) (ht:P.underlying t=some (.slice e)) (hzs:z.cells.size=size) (hsz:0<size)
  (v:Value) (n:Nat) (xs:List Value) (hs:a.eval s=v) (hown:wr.ownsRow base e size v n xs)
  (m c:Nat) (hx:a.eval x= .slice (some ⟨wr.heap.size,0,none⟩) m c) (hl:news.length=m*size) (h1:∀ u∈news,u.oneCell'=true)
  (h63:n+m≤maxLen) (hbytes:(n+m)*bytes≤140737488355328) (B:Nat) (w0:World) (hb:Below B w0 wr) (hB:B≤base) (hbase:base≤wr.heap.size)
  (h:∀ v' w',w'.ownsRow base e size v' (n+m) (xs++news)→Below B w0 w'→wr.grownBy w' v.ownBlock→(v'.ownBlock=v.ownBlock∨∃ g,v'.ownBlock=some g∧wr.heap.size≤g)→wr.heap.size<w'.heap.size→K (a.put o.dst v') w'):
  o.wp P a (wr.alloc (.cells news.toArray e)) K Q:=by
 obtain ⟨i,hi,hz,hsize,hby⟩:=info_parts hinfo;have hn:∀ j u,news[j]?=some u→(wr.alloc (.cells news.toArray e)).cell? ((⟨wr.heap.size,0,none⟩:Addr).add j)=some u:=by
  intro j u hu;have ha:(⟨wr.heap.size,0,none⟩:Addr).add j=⟨wr.heap.size,j,none⟩:=by unfold Addr.add; split<;>simp_all
  rw [ha,World.cell?_alloc_at _ _ _ _ rfl];simpa using hu
 obtain ⟨v',w',hrun,h2,h3,_,h5⟩:=run_append_own_at (P:=P) (wr.alloc (.cells news.toArray e)) base t o.type e i z size bytes ht hi hz hsize hby hzs hsz v n xs (hown.alloc _) ⟨wr.heap.size,0,none⟩ m c news hl hn h1 h63 hbytes (by simp; omega);unfold Oper.wp execOp;simp only [ho,resolve,invoke,builtin,Sem.run_bind,Sem.run_pure,Result.andThen_ok,List.map_toArray,List.map_cons,List.map_nil,hs,hx,hrun];have hlt:=hown.lt;have hsize':wr.heap.size<w'.heap.size:=by have:=h3.size; simp at this; omega
 have hg:wr.grownBy w' v.ownBlock:=⟨h3.os,h3.tape,h3.output,by omega,fun k hk hne=>(h3.block k (by simp; omega) hne).trans (Below.heap_alloc _ _ _ hk)⟩
 refine h v' w' h2 (hb.grown hg (by omega) (fun k hk=>by have:=(hlt k hk).1; omega)) hg ?_ hsize';rcases h5 with h5|h5
 ·exact .inl h5
 ·exact .inr ⟨_,h5,by simp⟩
theorem wpList_append_new {P:Program} (wr:World) (e:TypeId) (news:List Value) {ops:Array Oper} {rest:List Oper} {o:Oper} {a:Act} {Q:Exit→Act→World→Prop} (hgd:o.guard=none) (s x:Operand) (t:TypeId)
  (ho:o.op= .call {callee:= .builtin .append,args:=#[s,x],argTypes:=#[t,t]})
  (base size bytes:Nat) (z:Value) (hinfo:(P.info? e).map (fun i=>(i.zero,i.size,i.bytes))=some (some z,size,bytes)) (ht:P.underlying t=some (.slice e)) (hzs:z.cells.size=size) (hsz:0<size)
  (v:Value) (n:Nat) (xs:List Value) (hs:a.eval s=v) (hown:wr.ownsRow base e size v n xs)
  (m c:Nat) (hx:a.eval x= .slice (some ⟨wr.heap.size,0,none⟩) m c) (hl:news.length=m*size) (h1:∀ u∈news,u.oneCell'=true)
  (h63:n+m≤maxLen) (hbytes:(n+m)*bytes≤140737488355328) (B:Nat) (w0:World) (hb:Below B w0 wr) (hB:B≤base) (hbase:base≤wr.heap.size)
  (h:∀ v' w',w'.ownsRow base e size v' (n+m) (xs++news)→Below B w0 w'→wr.grownBy w' v.ownBlock→(v'.ownBlock=v.ownBlock∨∃ g,v'.ownBlock=some g∧wr.heap.size≤g)→wr.heap.size<w'.heap.size→wpList P ops Q rest (a.put o.dst v') w'):
  wpList P ops Q (o::rest) a (wr.alloc (.cells news.toArray e)):=
 wpList_plain hgd fun _ hK=>wp_append_new wr e news s x t ho base size bytes z hinfo ht hzs hsz v n xs hs hown m c hx hl h1 h63 hbytes B w0 hb hB hbase fun v' w' h2 h3 h4 h5 h6=>hK _ _ (h v' w' h2 h3 h4 h5 h6)
theorem step_append_new {P:Program} (wr:World) (e:TypeId) (news:List Value) {ops:Array Oper} {o:Oper} {a:Act} {K:Act→World→Prop} {Q:Exit→Act→World→Prop} {E:Prop} (hgd:o.guard=none) (s x:Operand) (t:TypeId)
  (ho:o.op= .call {callee:= .builtin .append,args:=#[s,x],argTypes:=#[t,t]})
  (base size bytes:Nat) (z:Value) (hinfo:(P.info? e).map (fun i=>(i.zero,i.size,i.bytes))=some (some z,size,bytes)) (ht:P.underlying t=some (.slice e)) (hzs:z.cells.size=size) (hsz:0<size)
  (v:Value) (n:Nat) (xs:List Value) (hs:a.eval s=v) (hown:wr.ownsRow base e size v n xs)
  (m c:Nat) (hx:a.eval x= .slice (some ⟨wr.heap.size,0,none⟩) m c) (hl:news.length=m*size) (h1:∀ u∈news,u.oneCell'=true)
  (h63:n+m≤maxLen) (hbytes:(n+m)*bytes≤140737488355328) (B:Nat) (w0:World) (hb:Below B w0 wr) (hB:B≤base) (hbase:base≤wr.heap.size)
  (h:∀ v' w',w'.ownsRow base e size v' (n+m) (xs++news)→Below B w0 w'→wr.grownBy w' v.ownBlock→(v'.ownBlock=v.ownBlock∨∃ g,v'.ownBlock=some g∧wr.heap.size≤g)→wr.heap.size<w'.heap.size→K (a.put o.dst v') w'):
  if Region.wanted o (yielded ops a.tmps)=true then Oper.wp P o a (wr.alloc (.cells news.toArray e)).drew K Q else E:=by
 have hw:Region.wanted o (yielded ops a.tmps)=true:=by simp [Region.wanted,hgd]
 rw [if_pos hw];refine wp_append_new wr.drew e news s x t ho base size bytes z hinfo ht hzs hsz v n xs hs hown m c hx hl h1 h63 hbytes B w0 hb.drew hB hbase fun v' w' h2 h3 h4 h5 h6=>h v' w' h2 h3 ⟨h4.os,h4.tape,h4.output,h4.size,h4.block⟩ h5 h6
theorem info_byte:(Tryz.prog.info? 5).map (fun i=>(i.zero,i.size,i.bytes))=some (some (.int .u8 0),1,1):=by kernel_rfl
end
section
open Go.RowKit Go.Instr
section
variable {κ:Type} {kv:κ→Value}
def MapIs (w:World) (kv:κ→Value) (b:Nat) (l:List (κ × Value)):Prop:=
 ∃ E clock,w.heap[b]?=some (.map E clock)∧E.toList.map (fun e=>(e.key,e.val))=l.map (fun x=>(kv x.1,x.2))∧Go.MapKept.Stamped E clock
theorem MapIs.kept {w w':World} {b:Nat} {l:List (κ × Value)} (hm:MapIs w kv b l) (h:w'.heap[b]?=w.heap[b]?):MapIs w' kv b l:=by
 obtain ⟨E,clock,hb,hE⟩:=hm;exact ⟨E,clock,h.trans hb,hE⟩
theorem MapIs.lt {w:World} {b:Nat} {l:List (κ × Value)} (hm:MapIs w kv b l):b<w.heap.size:=by
 obtain ⟨E,clock,hb,_⟩:=hm;rcases Nat.lt_or_ge b w.heap.size with g|g
 ·exact g
 ·rw [Array.getElem?_eq_none g] at hb; cases hb
theorem MapIs.made (w:World) (c:Nat):MapIs (w.alloc (.map #[] c)) kv w.heap.size []:=⟨#[],c,heap_alloc_new w _,rfl,Go.MapKept.stamped_empty c⟩
end
def assoc {κ:Type} [DecidableEq κ] (k:κ):List (κ × Value)→Nat→Option (Nat × Value)
 | [],_=>none
 |x::l,i=>if k=x.1 then some (i,x.2) else assoc k l (i+1)
structure KeyType (P:Program) (kt:TypeId) {κ:Type} [DecidableEq κ] (kv:κ→Value):Prop where
 check:∀ e w k,(checkKey e 10000 kt (kv k)).run P w= .ok () w
 equal:∀ w a b,(Op.equal kt (kv a) (kv b)).run P w= .ok (decide (a=b)) w
 now:∃ u,P.underlying kt=some u∧∀ k (E:List MapEntry) (l:List (κ × Value)) i,E.map (fun e=>(e.key,e.val))=l.map (fun x=>(kv x.1,x.2))→findNow u (kv k) E i=none∨findNow u (kv k) E i=some (assoc k l i)
 stays:∀ k,sameBits 10000 (kv k) (kv k)=true
section
variable {P:Program} {kt:TypeId} {κ:Type} [DecidableEq κ] {kv:κ→Value}
theorem run_findAsking_is (h:KeyType P kt kv) (w:World) (k:κ):∀ (E:List MapEntry) (l:List (κ × Value)) (i:Nat),E.map (fun e=>(e.key,e.val))=l.map (fun x=>(kv x.1,x.2))→(findAsking kt (kv k) E i).run P w= .ok (assoc k l i) w
 | [],[],i,_=>by simp [findAsking,assoc]
 | [],_::_,_,hE=>by simp at hE
 |_::_,[],_,hE=>by simp at hE
 |e::E,x::l,i,hE=>by
  simp only [List.map_cons,List.cons.injEq,Prod.mk.injEq] at hE;obtain ⟨⟨h1,h2⟩,h3⟩:=hE;have ih:=run_findAsking_is h w k E l (i+1) h3;simp only [findAsking,Sem.run_bind,h1,h.equal,Result.andThen_ok,assoc];by_cases hk:k=x.1
  ·simp [hk,h2]
  ·simp [hk,ih]
theorem run_findKey_is (h:KeyType P kt kv) (w:World) (k:κ) (E:List MapEntry) (l:List (κ × Value)) (hE:E.map (fun e=>(e.key,e.val))=l.map (fun x=>(kv x.1,x.2))):(findKey kt (kv k) E).run P w= .ok (assoc k l 0) w:=by
 obtain ⟨u,hu,hn⟩:=h.now;have hf:=run_findAsking_is h w k E l 0 hE;unfold findKey;simp only [Sem.run_bind,run_underlying hu,Result.andThen_ok];rcases hn k E l 0 hE with e|e
 ·simp [e,hf]
 ·simp [e]
theorem MapIs.look {w:World} {b:Nat} {l:List (κ × Value)} (hm:MapIs w kv b l) (h:KeyType P kt kv) (t el:TypeId) (ht:P.underlying t=some (.map kt el)) (z:Value) (hz:(zeroValue el).run P w= .ok z w) (k:κ) (ok:Bool):
  (lookup t (.map (some b)) (kv k) ok).run P w= .ok (let r:=match assoc k l 0 with|some (_,v)=>(v,true)|none=>(z,false); if ok then .tuple #[r.1,.bool r.2] else r.1) w:=by
 obtain ⟨E,clock,hb,hE,_⟩:=hm;have hf:=run_findKey_is h w k E.toList l hE;have hg:(getObj b:Sem Obj).run P w= .ok (.map E clock) w:=by simp [getObj,Sem.run,hb]
 unfold lookup;simp only [Sem.run_bind,run_underlying ht,Result.andThen_ok,hg,Sem.run_pure,h.check,hf];cases assoc k l 0 with
 |none=>simp [hz]
 |some r=>simp
def aput (k:κ) (v:Value):List (κ × Value)→List (κ × Value)
 | []=> [(k,v)]
 |x::l=>if k=x.1 then (k,v)::l else x::aput k v l
theorem assoc_some {k:κ}:∀ {l:List (κ × Value)} {i j:Nat} {v:Value},assoc k l i=some (j,v)→∃ n,j=i+n∧l[n]?=some (k,v)∧∀ u,aput k u l=l.set n (k,u)
 | [],_,_,_,h=>by simp [assoc] at h
 |x::l,i,j,v,h=>by
  simp only [assoc] at h;by_cases hk:k=x.1
  ·rw [if_pos hk] at h;injection h with h
   injection h with h1 h2
   exact ⟨0,by omega,by simp [hk,←h2],fun u=>by simp [aput,hk]⟩
  ·rw [if_neg hk] at h;obtain ⟨n,h1,h2,h3⟩:=assoc_some h;exact ⟨n+1,by omega,by simpa using h2,fun u=>by simp [aput,hk,h3 u]⟩
theorem assoc_none {k:κ}:∀ {l:List (κ × Value)} {i:Nat},assoc k l i=none→∀ u,aput k u l=l++ [(k,u)]
 | [],_,_,u=>rfl
 |x::l,i,h,u=>by
  simp only [assoc] at h;by_cases hk:k=x.1
  ·rw [if_pos hk] at h; simp at h
  ·rw [if_neg hk] at h;simp [aput,hk,assoc_none h u]
theorem assoc_ne {k:κ}:∀ {l:List (κ × Value)} {i:Nat},assoc k l i=none→∀ y∈l,k≠y.1
 | [],_,_,y,hy=>by cases hy
 |x::l,i,h,y,hy=>by
  simp only [assoc] at h;by_cases hk:k=x.1
  ·rw [if_pos hk] at h; simp at h
  ·rw [if_neg hk] at h;rcases List.mem_cons.1 hy with rfl|hy
   ·exact hk
   ·exact assoc_ne h y hy
theorem KeyType.inj (h:KeyType P kt kv) (w:World) {a b:κ} (e:kv a=kv b):a=b:=by
 have h1:=h.equal w a b;have h2:=h.equal w b b;rw [e,h2] at h1;injection h1 with h1 _
 simpa using h1.symm
theorem MapIs.store {w:World} {b:Nat} {l:List (κ × Value)} (hm:MapIs w kv b l) (h:KeyType P kt kv) (t el:TypeId) (ht:P.underlying t=some (.map kt el)) (k:κ) (v:Value):
  ∃ w',(mapUpdate t (.map (some b)) (kv k) v).run P w= .ok () w'∧MapIs w' kv b (aput k v l)∧w.grownBy w' (some b)∧w'.heap.size=w.heap.size:=by
 obtain ⟨E,clock,hb,hE,hS⟩:=hm;have hf:=run_findKey_is h w k E.toList l hE;have hg:(getObj b:Sem Obj).run P w= .ok (.map E clock) w:=by simp [getObj,Sem.run,hb]
 have hlt:b<w.heap.size:=by
  rcases Nat.lt_or_ge b w.heap.size with g|g
  ·exact g
  ·rw [Array.getElem?_eq_none g] at hb; cases hb
 have hset:∀ (o':Obj) (E':Array MapEntry) (c':Nat),o'= .map E' c'→(setObj b o':Sem Unit).run P w= .ok () {w with heap:=w.heap.setIfInBounds b o'}:=by
  intro o' E' c' e; simp [setObj,Sem.run,hb]
 have fin:∀ (E':Array MapEntry) (c':Nat),E'.toList.map (fun e=>(e.key,e.val))=(aput k v l).map (fun x=>(kv x.1,x.2))→Go.MapKept.Stamped E' c'→
   MapIs {w with heap:=w.heap.setIfInBounds b (.map E' c')} kv b (aput k v l)∧w.grownBy {w with heap:=w.heap.setIfInBounds b (.map E' c')} (some b)∧({w with heap:=w.heap.setIfInBounds b (.map E' c')}:World).heap.size=w.heap.size:=by
  intro E' c' hE' hS';refine ⟨⟨E',c',by simp [hlt],hE',hS'⟩,⟨rfl,rfl,rfl,by simp,fun j hj hne=> ?_⟩,by simp⟩
  show (w.heap.setIfInBounds b _)[j]?=_;rw [Array.getElem?_setIfInBounds_ne (fun e=>hne (by rw [e]))]
 unfold mapUpdate;simp only [Sem.run_bind,run_underlying ht,Result.andThen_ok,hg,h.check,hf];cases ha:assoc k l 0 with
 |none=>
  have:=fin (E.push {key:=kv k,val:=v,born:=clock}) (clock+1) (by
   rw [assoc_none ha v]; simp [hE]) (Go.MapKept.stamped_push hS (fun x hx e=>by
   have hm:(x.key,x.val)∈E.toList.map (fun e=>(e.key,e.val)):=List.mem_map.2 ⟨x,hx,rfl⟩;rw [hE] at hm;obtain ⟨y,hy,e2⟩:=List.mem_map.1 hm;injection e2 with e2 _
   exact assoc_ne ha y hy (h.inj w (e2.trans e).symm)))
  exact ⟨_,hset _ _ _ rfl,this⟩
 |some r=>
  obtain ⟨j,u⟩:=r;obtain ⟨n,hj,hn,hp⟩:=assoc_some ha;have hjn:j=n:=by omega
  subst hjn;have hl:E.toList.length=l.length:=by have:=congrArg List.length hE; simpa using this
  have hnl:j<l.length:=(List.getElem?_eq_some_iff.1 hn).1;have hkey:((E[j]?).map (·.key)).getD (kv k)=kv k:=by
   have h1:=congrArg (fun x=>x[j]?) hE;simp only [List.getElem?_map,hn] at h1;have h2:j<E.size:=by have e:E.toList.length=E.size:=Array.length_toList; omega
   simp [Array.getElem?_eq_getElem h2] at h1 ⊢
   exact h1.1
  have:=fin (E.modify j fun e=>{e with key:=kv k,val:=v}) clock (by
   rw [hp v];apply List.ext_getElem?
   intro m;have h1:=congrArg (fun x=>x[m]?) hE;simp only [List.getElem?_map] at h1;by_cases hm:j=m
   ·subst hm;have h2:j<E.size:=by have e:E.toList.length=E.size:=Array.length_toList; omega
    simp [Array.toList_modify,h2,hnl]
   ·simp [Array.toList_modify,hm,List.getElem?_set_ne hm]
    simpa using h1) (Go.MapKept.stamped_modify hS j _ (fun e _=>rfl) (fun e he hej=>by
   rw [hej] at hkey;exact hkey.symm))
  refine ⟨_,?_,this⟩;simp only [hkey,keyThatStays,h.stays,if_true];exact hset _ _ _ rfl
theorem wp_mapUpdate_is {o:Oper} {a:Act} {K:Act→World→Prop} {Q:Exit→Act→World→Prop} (w:World) (m x v:Operand) (t:TypeId) (hop:o.op=Op.mapUpdate t m x v)
  (h:KeyType P kt kv) (el:TypeId) (ht:P.underlying t=some (.map kt el)) (b:Nat) (l:List (κ × Value)) (hmap:MapIs w kv b l) (k:κ) (val:Value)
  (hm:a.eval m= .map (some b)) (hx:a.eval x=kv k) (hv:a.eval v=val)
  (hK:∀ w',MapIs w' kv b (aput k val l)→w.grownBy w' (some b)→w'.heap.size=w.heap.size→K (a.put o.dst undef) w'):o.wp P a w K Q:=by
 obtain ⟨w',hrun,r1,r2,r3⟩:=hmap.store h t el ht k val;unfold Oper.wp;simp [execOp,hop,hm,hx,hv,hrun,Result.andThen]
 exact hK w' r1 r2 r3
theorem wpList_mapUpdate_is {ops:Array Oper} {rest:List Oper} {o:Oper} {a:Act} {Q:Exit→Act→World→Prop} (w:World) (hg:o.guard=none) (m x v:Operand) (t:TypeId) (hop:o.op=Op.mapUpdate t m x v)
  (h:KeyType P kt kv) (el:TypeId) (ht:P.underlying t=some (.map kt el)) (b:Nat) (l:List (κ × Value)) (hmap:MapIs w kv b l) (k:κ) (val:Value)
  (hm:a.eval m= .map (some b)) (hx:a.eval x=kv k) (hv:a.eval v=val)
  (hK:∀ w',MapIs w' kv b (aput k val l)→w.grownBy w' (some b)→w'.heap.size=w.heap.size→wpList P ops Q rest (a.put o.dst undef) w'):wpList P ops Q (o::rest) a w:=
 wpList_plain hg fun K' hK'=>wp_mapUpdate_is w m x v t hop h el ht b l hmap k val hm hx hv fun w' r1 r2 r3=>hK' _ _ (hK w' r1 r2 r3)
end
end
namespace Nib
def of (l:List UInt8):List UInt8:=l.flatMap fun b=> [b / 16,b % 16]
theorem of_snoc (l:List UInt8) (b:UInt8):of (l++ [b])=of l++ [b / 16,b % 16]:=by simp [of]
theorem of_length (l:List UInt8):(of l).length=2*l.length:=by
 induction l with
 |nil=>rfl
 |cons b l ih=>
  have:of (b::l)= [b / 16,b % 16]++of l:=by simp [of]
  rw [this,List.length_append,ih]; simp; omega
def fit (l:List UInt8):Bool:=l.all fun b=>decide (b≤15)
def joined:List UInt8→List UInt8
 |a::b::l=>(a*16+b)::joined l
 |_=> []
def common:List UInt8→List UInt8→Nat
 |a::x,b::y=>if a=b then common x y+1 else 0
 |_,_=>0
theorem common_le (x:List UInt8):∀ y,common x y≤x.length∧common x y≤y.length:=by
 induction x with
 |nil=>intro y; simp [common]
 |cons a x ih=>
  intro y;cases y with
  |nil=>simp [common]
  |cons b y=>
   unfold common
   split
   ·have:=ih y; simp; omega
   ·simp
theorem common_take (x:List UInt8):∀ (y:List UInt8) (n:Nat),n≤common x y↔(n≤x.length∧n≤y.length∧x.take n=y.take n):=by
 induction x with
 |nil=>
  intro y n;cases n with
  |zero=>simp
  |succ n=>simp [common]
 |cons a x ih=>
  intro y n;cases y with
  |nil=>
   cases n with
   |zero=>simp
   |succ n=>simp [common]
  |cons b y=>
   cases n with
   |zero=>simp
   |succ n=>
    unfold common;by_cases hab:a=b
    ·subst hab
     have:=ih y n
     simp only [if_pos,List.length_cons,List.take_succ_cons,List.cons.injEq,true_and,Nat.add_le_add_iff_right];exact this
    ·simp [hab]
theorem common_step {x y:List UInt8} {n:Nat} (h:n≤common x y) (hx:n<x.length) (hy:n<y.length):(n+1≤common x y)↔x[n]=y[n]:=by
 rw [common_take] at h ⊢;rw [List.take_succ_eq_append_getElem hx,List.take_succ_eq_append_getElem hy,h.2.2]
 constructor
 ·intro e; simpa using List.append_cancel_left e.2.2
 ·intro e; exact ⟨hx,hy,by rw [e]⟩
theorem joined_length (l:List UInt8):(joined l).length=l.length / 2:=by
 fun_induction joined l with
 |case1 a b l ih=>simp [ih]; omega
 |case2 l h=>
  match l,h with
  | [],_=>rfl
  | [a],_=>simp
  |a::b::l,h=>exact absurd rfl (h a b l)
theorem joined_cons (a b:UInt8) (l:List UInt8):joined (a::b::l)=(a*16+b)::joined l:=rfl
theorem joined_take (l:List UInt8):∀ i,(h:2*i+1<l.length)→joined (l.take (2*(i+1)))=joined (l.take (2*i))++ [l[2*i]*16+l[2*i+1]]:=by
 fun_induction joined l with
 |case1 a b l ih=>
  intro i h;cases i with
  |zero=>simp [joined]
  |succ i=>
   have:=ih i (by simp at h; omega)
   have e1:2*(i+1+1)=2*(i+1)+2:=by omega
   have e2:2*(i+1)=2*i+2:=by omega
   rw [e1,List.take_succ_cons,List.take_succ_cons,joined_cons,this];simp only [e2,List.take_succ_cons,joined_cons,List.cons_append];simp [show 2*i+2+1=(2*i+1)+1+1 from by omega]
 |case2 l h=>
  intro i hl
  match l,h with
  | [],_=>simp at hl
  | [a],_=>simp at hl
  |a::b::l,h=>exact absurd rfl (h a b l)
theorem joined_half (l:List UInt8):joined (l.take (2*(l.length / 2)))=joined l:=by
 fun_induction joined l with
 |case1 a b l ih=>
  have e:2*((a::b::l).length / 2)=2*(l.length / 2)+1+1:=by simp; omega
  rw [e,List.take_succ_cons,List.take_succ_cons,joined_cons,ih]
 |case2 l h=>
  match l,h with
  | [],_=>rfl
  | [a],_=>simp [joined]
  |a::b::l,h=>exact absurd rfl (h a b l)
theorem fit_take (l:List UInt8) (i:Nat) (h:i<l.length):fit (l.take (i+1))=(fit (l.take i) && decide (l[i]≤15)):=by
 unfold fit;rw [List.take_succ_eq_append_getElem h,List.all_append];simp
theorem fit_false {l:List UInt8} {i:Nat} (h:i<l.length) (hb:¬l[i]≤15):fit l=false:=by
 unfold fit;rw [List.all_eq_false];exact ⟨l[i],List.getElem_mem h,by simpa using hb⟩
def key (l:List UInt8):List UInt8 × Nat:=if fit l then (if l.length % 2=1 then ([],4) else (joined l,0)) else ([],3)
def packed (l:List UInt8) (leaf:Bool):List UInt8:=
 match l,l.length % 2 with
 |a::r,1=>(if leaf then 48+a else 16+a)::joined r
 |_,_=>(if leaf then 32 else 0)::joined l
def pack (l:List UInt8) (leaf:Bool):List UInt8 × Nat:=if fit l then (packed l leaf,0) else ([],3)
def unpack:List UInt8→List UInt8 × Bool × Nat
 | []=>([],false,3)
 |b::r=>if 3<b.toNat / 16∨(b.toNat / 16 % 2=0∧b.toNat % 16≠0) then ([],false,3) else ((if b.toNat / 16 % 2=1 then (b % 16)::of r else of r),decide (2≤b.toNat / 16),0)
theorem unpack_cons (b:UInt8) (r:List UInt8):unpack (b::r)=if 3<b.toNat / 16∨(b.toNat / 16 % 2=0∧b.toNat % 16≠0) then ([],false,3) else ((if b.toNat / 16 % 2=1 then (b % 16)::of r else of r),decide (2≤b.toNat / 16),0):=rfl
theorem packed_odd {a:UInt8} {r:List UInt8} {leaf:Bool} (h:(a::r).length % 2=1):packed (a::r) leaf=(if leaf then 48+a else 16+a)::joined r:=by
 unfold packed; rw [h]; rfl
theorem packed_even {l:List UInt8} {leaf:Bool} (h:l.length % 2=0):packed l leaf=(if leaf then 32 else 0)::joined l:=by
 unfold packed; rw [h]; cases l<;>rfl
theorem fit_of (l:List UInt8):fit (of l)=true:=by
 unfold fit of;rw [List.all_eq_true];intro x hx;simp only [List.mem_flatMap,List.mem_cons,List.not_mem_nil,or_false] at hx;obtain ⟨b,_,rfl|rfl⟩:=hx
 ·have:=b.toNat_lt
  simp [UInt8.le_iff_toNat_le]; omega
 ·simp [UInt8.le_iff_toNat_le]; omega
theorem half_back (b:UInt8):b / 16*16+b % 16=b:=by
 apply UInt8.toNat_inj.1
 have:=b.toNat_lt
 simp [UInt8.toNat_add,UInt8.toNat_mul]
 omega
theorem joined_of (l:List UInt8):joined (of l)=l:=by
 induction l with
 |nil=>rfl
 |cons b l ih=>
  have e:of (b::l)=b / 16::b % 16::of l:=by simp [of]
  rw [e,joined_cons,ih,half_back]
theorem pair_back (a b:UInt8) (ha:a≤15) (hb:b≤15):(a*16+b) / 16=a∧(a*16+b) % 16=b:=by
 rw [UInt8.le_iff_toNat_le] at ha hb;simp at ha hb
 constructor<;>(apply UInt8.toNat_inj.1; simp [UInt8.toNat_add,UInt8.toNat_mul]; omega)
theorem of_joined (l:List UInt8) (hf:fit l=true) (he:l.length % 2=0):of (joined l)=l:=by
 fun_induction joined l with
 |case1 a b l ih=>
  unfold fit at hf;simp only [List.all_cons,Bool.and_eq_true,decide_eq_true_eq] at hf;obtain ⟨h1,h2⟩:=pair_back a b hf.1 hf.2.1;have e:of ((a*16+b)::joined l)=(a*16+b) / 16::(a*16+b) % 16::of (joined l):=by simp [of]
  rw [e,h1,h2,ih (by unfold fit; exact hf.2.2) (by simp at he; omega)]
 |case2 l h=>
  match l,h with
  | [],_=>rfl
  | [a],_=>simp at he
  |a::b::l,h=>exact absurd rfl (h a b l)
theorem packed_length (l:List UInt8) (leaf:Bool):(packed l leaf).length=l.length / 2+1:=by
 by_cases h:l.length % 2=1
 ·cases l with
  |nil=>simp at h
  |cons a r=>
   rw [packed_odd h,List.length_cons,joined_length];simp at h ⊢; omega
 ·rw [packed_even (by omega),List.length_cons,joined_length]
theorem fit_cons {a:UInt8} {r:List UInt8} (h:fit (a::r)=true):a≤15∧fit r=true:=by
 unfold fit at h ⊢;simpa using h
theorem unpack_packed (l:List UInt8) (leaf:Bool) (hf:fit l=true):unpack (packed l leaf)=(l,leaf,0):=by
 by_cases h:l.length % 2=1
 ·cases l with
  |nil=>simp at h
  |cons a r=>
   obtain ⟨ha,hr⟩:=fit_cons hf;rw [packed_odd h,unpack_cons];rw [UInt8.le_iff_toNat_le] at ha;simp at ha h
   have he:r.length % 2=0:=by omega
   cases leaf
   ·have e:(16+a).toNat=16+a.toNat:=by rw [UInt8.toNat_add]; simp; omega
    have e2:(16+a) % 16=a:=by apply UInt8.toNat_inj.1; rw [UInt8.toNat_mod,e]; simp; omega
    simp only [Bool.false_eq_true,if_false,e,e2];rw [if_neg (by omega),if_pos (by omega),of_joined r hr he,decide_eq_false (by omega)]
   ·have e:(48+a).toNat=48+a.toNat:=by rw [UInt8.toNat_add]; simp; omega
    have e2:(48+a) % 16=a:=by apply UInt8.toNat_inj.1; rw [UInt8.toNat_mod,e]; simp; omega
    simp only [if_true,e,e2];rw [if_neg (by omega),if_pos (by omega),of_joined r hr he,decide_eq_true (by omega)]
 ·have he:l.length % 2=0:=by omega
  rw [packed_even he,unpack_cons,of_joined l hf he];cases leaf<;>simp
theorem pack_unpack (s:List UInt8) (h:(unpack s).2.2=0):pack (unpack s).1 (unpack s).2.1=(s,0):=by
 cases s with
 |nil=>simp [unpack] at h
 |cons b r=>
  have hlt:=b.toNat_lt;rw [unpack_cons] at h ⊢;by_cases hc:3<b.toNat / 16∨(b.toNat / 16 % 2=0∧b.toNat % 16≠0)
  ·rw [if_pos hc] at h; simp at h
  ·rw [if_neg hc];have hb16:(b % 16:UInt8)≤15:=by rw [UInt8.le_iff_toNat_le]; simp; omega
   by_cases ho:b.toNat / 16 % 2=1
   ·simp only [if_pos ho];have hl:((b % 16)::of r).length % 2=1:=by rw [List.length_cons,of_length]; omega
    have hf:fit ((b % 16)::of r)=true:=by
     have:=fit_of r
     unfold fit at this ⊢;simp only [List.all_cons,this,Bool.and_true,decide_eq_true_eq]; exact hb16
    unfold pack;rw [if_pos hf,packed_odd hl,joined_of]
    congr 2
    by_cases h2:2≤b.toNat / 16
    ·rw [decide_eq_true h2,if_pos rfl];apply UInt8.toNat_inj.1; simp [UInt8.toNat_add]; omega
    ·rw [decide_eq_false h2,if_neg (by simp)];apply UInt8.toNat_inj.1; simp [UInt8.toNat_add]; omega
   ·simp only [if_neg ho];unfold pack;rw [if_pos (fit_of r),packed_even (by rw [of_length]; omega),joined_of]
    congr 2
    by_cases h2:2≤b.toNat / 16
    ·rw [decide_eq_true h2,if_pos rfl];apply UInt8.toNat_inj.1; simp; omega
    ·rw [decide_eq_false h2,if_neg (by simp)];apply UInt8.toNat_inj.1; simp; omega
theorem unpack_length (s:List UInt8):(unpack s).1.length≤2*s.length:=by
 cases s with
 |nil=>simp [unpack]
 |cons b r=>
  rw [unpack_cons]
  split
  ·simp
  ·split
   ·simp [of_length]; omega
   ·simp [of_length]; omega
theorem common_symm (a:List UInt8):∀ b,common a b=common b a:=by
 induction a with
 |nil=>intro b; cases b<;>simp [common]
 |cons x a ih=>
  intro b;cases b with
  |nil=>simp [common]
  |cons y b=>
   unfold common;by_cases h:x=y
   ·subst h; simp [ih b]
   ·simp [h,Ne.symm h]
end Nib
namespace Trie
open Nib
inductive T where
 |nil
 |leaf (p v:List UInt8)
 |ext (p:List UInt8) (t:T)
 |branch (v:List UInt8) (kids:Fin 16→T)
def isNil:T→Bool
 | .nil=>true
 |_=>false
def isBranch:T→Bool
 | .branch _ _=>true
 |_=>false
def ix (b:UInt8):Fin 16:=⟨b.toNat % 16,Nat.mod_lt _ (by omega)⟩
def setKid (kids:Fin 16→T) (b:UInt8) (t:T):Fin 16→T:=fun i=>if i=ix b then t else kids i
def noKids:Fin 16→T:=fun _=> .nil
def look:T→List UInt8→List UInt8
 | .nil,_=> []
 | .leaf p v,q=>if q=p then v else []
 | .ext p t,q=>if common p q=p.length then look t (q.drop p.length) else []
 | .branch v kids,q=>match q with
  | []=>v
  |b::r=>look (kids (ix b)) r
def joined (path:List UInt8) (t:T):T:=
 if path= [] then t else match t with
  | .leaf p v=> .leaf (path++p) v
  | .ext p s=> .ext (path++p) s
  |t=> .ext path t
def oneOwn (old:List UInt8) (w:List UInt8):List UInt8:=match old with
 | []=>w
 |_::_=> []
def oneKids (old:List UInt8) (f:List UInt8→T):Fin 16→T:=match old with
 | []=>noKids
 |b::r=>setKid noKids b (f r)
def partedG (old:List UInt8) (f:List UInt8→T) (w path v:List UInt8):T:=match path with
 | []=> .branch v (oneKids old f)
 |b::r=> .branch (oneOwn old w) (setKid (oneKids old f) b (.leaf r v))
def parted (t:T) (c:Nat) (path v:List UInt8):T:=match t with
 | .leaf p w=>partedG (p.drop c) (fun r=> .leaf r w) w path v
 | .ext p s=>partedG (p.drop c) (fun r=>joined r s) [] path v
 |t=>t
def put:T→List UInt8→List UInt8→T
 | .nil,q,v=> .leaf q v
 | .branch w kids,q,v=>match q with
  | []=> .branch v kids
  |b::r=> .branch w (setKid kids b (put (kids (ix b)) r v))
 | .ext p t,q,v=>if common p q=p.length then joined p (put t (q.drop (common p q)) v) else joined (q.take (common p q)) (parted (.ext p t) (common p q) (q.drop (common p q)) v)
 | .leaf p w,q,v=>if common p q=p.length∧common p q=q.length then .leaf q v else joined (q.take (common p q)) (parted (.leaf p w) (common p q) (q.drop (common p q)) v)
def many (kids:Fin 16→T):Nat:=((List.finRange 16).filter fun i=> !isNil (kids i)).length
def lastKid (kids:Fin 16→T):Fin 16:=(((List.finRange 16).filter fun i=> !isNil (kids i)).getLast?).getD 0
def shrunk (v:List UInt8) (kids:Fin 16→T):T:=
 if many kids=0 then .leaf [] v
 else if many kids=1∧v= [] then joined [UInt8.ofNat (lastKid kids).val] (kids (lastKid kids))
 else .branch v kids
def del:T→List UInt8→T
 | .nil,_=> .nil
 | .leaf _ _,_=> .nil
 | .ext p t,q=>joined p (del t (q.drop p.length))
 | .branch v kids,q=>match q with
  | []=>shrunk [] kids
  |b::r=>shrunk v (setKid kids b (del (kids (ix b)) r))
def wf:T→Prop
 | .nil=>True
 | .leaf p v=>fit p=true∧v≠ []
 | .ext p t=>fit p=true∧p≠ []∧isBranch t=true∧wf t
 | .branch v kids=>(∀ i,wf (kids i))∧2≤many kids+(if v= [] then 0 else 1)
theorem fit_append {a b:List UInt8}:fit (a++b)=true↔fit a=true∧fit b=true:=by
 unfold fit; rw [List.all_append,Bool.and_eq_true]
theorem fit_cons' {a:UInt8} {r:List UInt8}:fit (a::r)=true↔a≤15∧fit r=true:=by
 unfold fit; simp
theorem fit_drop {a:List UInt8} (n:Nat) (h:fit a=true):fit (a.drop n)=true:=by
 have:fit (a.take n++a.drop n)=true:=by rw [List.take_append_drop]; exact h
 exact (fit_append.1 this).2
theorem fit_take {a:List UInt8} (n:Nat) (h:fit a=true):fit (a.take n)=true:=by
 have:fit (a.take n++a.drop n)=true:=by rw [List.take_append_drop]; exact h
 exact (fit_append.1 this).1
theorem ix_of (i:Fin 16):ix (UInt8.ofNat i.val)=i∧UInt8.ofNat i.val≤15:=by
 have:=i.isLt
 constructor
 ·apply Fin.ext; simp [ix]
 ·rw [UInt8.le_iff_toNat_le]; simp; omega
theorem ix_inj {a b:UInt8} (ha:a≤15) (hb:b≤15) (h:ix a=ix b):a=b:=by
 rw [UInt8.le_iff_toNat_le] at ha hb;simp at ha hb
 have:=congrArg Fin.val h
 simp [ix] at this
 exact UInt8.toNat_inj.1 (by omega)
theorem prefix_common {p q:List UInt8}:common p q=p.length↔q=p++q.drop p.length:=by
 constructor
 ·intro h;have h1:=(common_take p q p.length).1 (by omega)
  conv=>lhs; rw [←List.take_append_drop p.length q,←h1.2.2]
  simp
 ·intro h;have hcl:=common_le p q
  have:p.length≤common p q:=by
   rw [common_take];refine ⟨Nat.le_refl _,?_,?_⟩
   ·rw [h]; simp
   ·rw [h]; simp
  omega
theorem common_self_append (p r:List UInt8):common p (p++r)=p.length:=prefix_common.2 (by simp)
theorem many_two {kids:Fin 16→T} {v:List UInt8} (h:2≤many kids+(if v= [] then 0 else 1)) (b:UInt8):v≠ []∨∃ i,i≠ix b∧isNil (kids i)=false:=by
 by_cases hv:v= []
 ·right
  rw [if_pos hv] at h;unfold many at h;have hn:((List.finRange 16).filter fun i=> !isNil (kids i)).Nodup:=(List.nodup_finRange 16).sublist List.filter_sublist;generalize hl:((List.finRange 16).filter fun i=> !isNil (kids i))=l at *;have hmem:∀ i∈l,isNil (kids i)=false:=by
   intro i hi;rw [←hl,List.mem_filter] at hi;simpa using hi.2
  match l,h,hn with
  |x::y::l,_,hn=>
   by_cases hx:x=ix b
   ·refine ⟨y,fun e=> ?_,hmem y (by simp)⟩;rw [List.nodup_cons] at hn;exact hn.1 (by rw [hx,←e]; simp)
   ·exact ⟨x,hx,hmem x (by simp)⟩
 ·exact .inl hv
theorem look_some (t:T):wf t→isNil t=false→∃ q,fit q=true∧look t q≠ []:=by
 induction t with
 |nil=>intro _ h; simp [isNil] at h
 |leaf p v=>intro h _; exact ⟨p,h.1,by simp [look]; exact h.2⟩
 |ext p t ih=>
  intro h _;obtain ⟨h1,h2,h3,h4⟩:=h;obtain ⟨q,g1,g2⟩:=ih h4 (by cases t<;>simp_all [isBranch,isNil]);refine ⟨p++q,fit_append.2 ⟨h1,g1⟩,?_⟩;simp only [look,common_self_append,if_pos];simpa using g2
 |branch v kids ih=>
  intro h _;rcases many_two h.2 0 with hv|⟨i,_,hi⟩
  ·exact ⟨[],rfl,hv⟩
  ·obtain ⟨q,g1,g2⟩:=ih i (h.1 i) hi;obtain ⟨e1,e2⟩:=ix_of i;exact ⟨UInt8.ofNat i.val::q,fit_cons'.2 ⟨e2,g1⟩,by simp only [look,e1]; exact g2⟩
theorem branch_of {t:T} (h:isBranch t=true):∃ v kids,t= .branch v kids:=by
 cases t with
 |branch v kids=>exact ⟨v,kids,rfl⟩
 |nil=>simp [isBranch] at h
 |leaf _ _=>simp [isBranch] at h
 |ext _ _=>simp [isBranch] at h
theorem look_ext_some {p:List UInt8} {t:T} {q:List UInt8} (h:look (.ext p t) q≠ []):q=p++q.drop p.length∧look t (q.drop p.length)≠ []:=by
 simp only [look] at h
 split at h
 ·rename_i hc; exact ⟨prefix_common.1 hc,h⟩
 ·exact absurd rfl h
theorem look_ext (p:List UInt8) (t:T) (r:List UInt8):look (.ext p t) (p++r)=look t r:=by
 simp [look,common_self_append]
end Trie
namespace Trie
open Nib
theorem joined_look (path : List UInt8) (t : T) (h : t ≠ .nil) : ∀ q, look (joined path t) q = if q = path ++ q.drop path.length then look t (q.drop path.length) else [] := by
  intro q
  by_cases hp : path = []
  · subst hp; simp [joined]
  · have hcm : common path q = path.length ↔ q = path ++ q.drop path.length := prefix_common
    cases t with
    | nil => exact absurd rfl h
    | leaf p v =>
      simp only [joined, if_neg hp, look]
      by_cases hq : q = path ++ q.drop path.length
      · rw [if_pos hq]
        by_cases h2 : q.drop path.length = p
        · rw [if_pos h2, if_pos (by rw [← h2]; exact hq)]
        · rw [if_neg h2, if_neg (fun e => h2 (by rw [e]; simp))]
      · rw [if_neg hq, if_neg (fun e => hq (by rw [e]; simp))]
    | ext p s =>
      simp only [joined, if_neg hp, look]
      by_cases hq : q = path ++ q.drop path.length
      · rw [if_pos hq]
        generalize q.drop path.length = r at hq
        subst hq
        by_cases h2 : common p r = p.length
        · have h3 := prefix_common.1 h2
          rw [if_pos h2, if_pos (prefix_common.2 (by rw [h3]; simp)), List.length_append, ← List.drop_drop, List.drop_append_of_le_length (Nat.le_refl _), List.drop_length, List.nil_append]
        · rw [if_neg h2, if_neg]
          intro h3
          have h4 := prefix_common.1 h3
          rw [List.append_assoc] at h4
          have h5 := List.append_cancel_left h4
          exact h2 (prefix_common.2 (by
            conv => lhs; rw [h5]
            congr 1
            rw [List.length_append, ← List.drop_drop, List.drop_append_of_le_length (Nat.le_refl _), List.drop_length, List.nil_append]))
      · rw [if_neg hq, if_neg]
        intro h3
        have h4 := prefix_common.1 h3
        exact hq (by conv => lhs; rw [h4]
                     conv => rhs; rw [h4]
                     simp)
    | branch v kids =>
      simp only [joined, if_neg hp]
      show look (.ext path _) q = _
      simp only [look]
      by_cases hq : q = path ++ q.drop path.length
      · rw [if_pos hq, if_pos (hcm.2 hq)]
      · rw [if_neg hq, if_neg (fun e => hq (hcm.1 e))]
theorem joined_wf {path:List UInt8} {t:T} (hp:fit path=true) (h:wf t) (hn:t≠ .nil):wf (joined path t):=by
 by_cases h0:path= []
 ·subst h0; simpa [joined] using h
 ·cases t with
  |nil=>exact absurd rfl hn
  |leaf p v=>simp only [joined,if_neg h0]; exact ⟨fit_append.2 ⟨hp,h.1⟩,h.2⟩
  |ext p s=>simp only [joined,if_neg h0]; exact ⟨fit_append.2 ⟨hp,h.1⟩,by simp [h0],h.2.2⟩
  |branch v kids=>simp only [joined,if_neg h0]; exact ⟨hp,h0,rfl,h⟩
theorem joined_nn {path:List UInt8} {t:T} (hn:t≠ .nil):joined path t≠ .nil:=by
 unfold joined
 split
 ·exact hn
 ·cases t<;>simp_all
theorem many_pos {kids:Fin 16→T} {i:Fin 16} (h:isNil (kids i)=false):1≤many kids:=by
 unfold many;exact List.length_pos_of_mem (List.mem_filter.2 ⟨List.mem_finRange i,by simp [h]⟩)
theorem two_of {l:List (Fin 16)} {i j:Fin 16} (hi:i∈l) (hj:j∈l) (hne:i≠j):2≤l.length:=by
 match l,hi,hj with
 | [x],hi,hj=>
  simp at hi hj
  exact absurd (hi.trans hj.symm) hne
 |x::y::l,_,_=>simp
theorem many_ge_two {kids:Fin 16→T} {i j:Fin 16} (hi:isNil (kids i)=false) (hj:isNil (kids j)=false) (hne:i≠j):2≤many kids:=
 two_of (List.mem_filter.2 ⟨List.mem_finRange i,by simp [hi]⟩) (List.mem_filter.2 ⟨List.mem_finRange j,by simp [hj]⟩) hne
theorem many_mono {k1 k2:Fin 16→T} (h:∀ i,isNil (k1 i)=false→isNil (k2 i)=false):many k1≤many k2:=by
 unfold many;have e:((List.finRange 16).filter fun i=> !isNil (k1 i))=(((List.finRange 16).filter fun i=> !isNil (k2 i))).filter fun i=> !isNil (k1 i):=by
  rw [List.filter_filter];apply List.filter_congr
  intro i _;cases h1:isNil (k1 i) with
  |true=>rfl
  |false=>simp [h i h1]
 rw [e];exact List.length_filter_le _ _
theorem setKid_same (kids:Fin 16→T) (b:UInt8) (t:T):setKid kids b t (ix b)=t:=by simp [setKid]
theorem setKid_other {kids:Fin 16→T} {b:UInt8} {t:T} {i:Fin 16} (h:i≠ix b):setKid kids b t i=kids i:=by simp [setKid,h]
theorem partedG_spec (old w path v:List UInt8) (f:List UInt8→T) (g:List UInt8→List UInt8) (hfo:fit old=true) (hfp:fit path=true) (hv:v≠ []) (hc:common old path=0) (hnn:¬(old= []∧path= []))
  (h0:old= []→w≠ []∧∀ s,g s=if s= [] then w else [])
  (h1:∀ b r,old=b::r→wf (f r)∧f r≠ .nil∧(∀ s,fit s=true→look (f r) s=g (b::s))∧g []= []∧∀ c s,c≠b→g (c::s)= []):
  wf (partedG old f w path v)∧(∀ r,fit r=true→look (partedG old f w path v) r=if r=path then v else g r)∧isBranch (partedG old f w path v)=true:=by
 have isn:∀ t:T,t≠ .nil→isNil t=false:=fun t h=>by cases t<;>simp_all [isNil]
 cases path with
 |nil=>
  cases old with
  |nil=>exact absurd ⟨rfl,rfl⟩ hnn
  |cons b r=>
   obtain ⟨k1,k2,k3,k4,k5⟩:=h1 b r rfl;have hb:=(fit_cons'.1 hfo).1;refine ⟨⟨fun i=> ?_,?_⟩,fun s hs=> ?_,rfl⟩
   ·simp only [oneKids,setKid]; split
    ·exact k1
    ·trivial
   ·rw [if_neg hv];exact Nat.succ_le_succ (many_pos (i:=ix b) (by simp only [oneKids,setKid_same]; exact isn _ k2))
   ·cases s with
    |nil=>simp [partedG,look]
    |cons x s=>
     have hx:=fit_cons'.1 hs;simp only [partedG,look,oneKids];rw [if_neg (by simp)];by_cases hxb:x=b
     ·subst hxb; rw [setKid_same]; exact k3 s hx.2
     ·rw [setKid_other (fun e=>hxb (ix_inj hx.1 hb e)),k5 x s hxb]; rfl
 |cons b r=>
  have hb:=fit_cons'.1 hfp;cases old with
  |nil=>
   obtain ⟨k1,k2⟩:=h0 rfl;refine ⟨⟨fun i=> ?_,?_⟩,fun s hs=> ?_,rfl⟩
   ·simp only [oneKids,setKid]; split
    ·exact ⟨hb.2,hv⟩
    ·trivial
   ·rw [if_neg (show ¬oneOwn [] w= [] from k1)];exact Nat.succ_le_succ (many_pos (i:=ix b) (by rw [setKid_same]; rfl))
   ·cases s with
    |nil=>simp [partedG,look,oneOwn,k2]
    |cons x s=>
     have hx:=fit_cons'.1 hs;simp only [partedG,look,oneKids];rw [k2,if_neg (show ¬(x::s= []) by simp)];by_cases hxb:x=b
     ·subst hxb;rw [setKid_same];simp only [look,List.cons.injEq,true_and]
     ·rw [setKid_other (fun e=>hxb (ix_inj hx.1 hb.1 e)),if_neg (by simp [hxb])]; rfl
  |cons a o=>
   obtain ⟨k1,k2,k3,k4,k5⟩:=h1 a o rfl;have ha:=(fit_cons'.1 hfo).1;have hab:a≠b:=by
    intro e; subst e; simp [common] at hc
   have hix:ix a≠ix b:=fun e=>hab (ix_inj ha hb.1 e);refine ⟨⟨fun i=> ?_,?_⟩,fun s hs=> ?_,rfl⟩
   ·simp only [oneKids,setKid]; split
    ·exact ⟨hb.2,hv⟩
    ·split
     ·exact k1
     ·trivial
   ·exact Nat.le_add_right_of_le (many_ge_two (i:=ix a) (j:=ix b) (by rw [setKid_other hix]; simp only [oneKids]; rw [setKid_same]; exact isn _ k2) (by rw [setKid_same]; rfl) hix)
   ·cases s with
    |nil=>simp [partedG,look,oneOwn,k4]
    |cons x s=>
     have hx:=fit_cons'.1 hs;simp only [partedG,look,oneKids];by_cases hxb:x=b
     ·subst hxb;rw [setKid_same,k5 x s (fun e=>hab e.symm)];simp only [look,List.cons.injEq,true_and]
     ·rw [setKid_other (fun e=>hxb (ix_inj hx.1 hb.1 e)),if_neg (by simp [hxb])];by_cases hxa:x=a
      ·subst hxa; rw [setKid_same]; exact k3 s hx.2
      ·rw [setKid_other (fun e=>hxa (ix_inj hx.1 ha e)),k5 x s hxa]; rfl
theorem put_nn (t:T) (q v:List UInt8):put t q v≠ .nil:=by
 have pg:∀ old f w path v,partedG old f w path v≠ .nil:=by
  intro old f w path v; cases path<;>simp [partedG]
 induction t generalizing q with
 |nil=>simp [put]
 |leaf p w=>
  simp only [put]; split
  ·simp
  ·exact joined_nn (pg _ _ _ _ _)
 |ext p t ih=>
  simp only [put]; split
  ·exact joined_nn (ih _)
  ·exact joined_nn (pg _ _ _ _ _)
 |branch w kids ih=>cases q<;>simp [put]
theorem drop_common (p q:List UInt8):common (p.drop (common p q)) (q.drop (common p q))=0:=by
 induction p generalizing q with
 |nil=>simp [common]
 |cons a p ih=>
  cases q with
  |nil=>simp [common]
  |cons b q=>
   by_cases h:a=b
   ·subst h;rw [show common (a::p) (a::q)=common p q+1 from by simp [common]];simpa using ih q
   ·rw [show common (a::p) (b::q)=0 from by simp [common,h]];simp [common,h]
theorem take_common (p q:List UInt8):p.take (common p q)=q.take (common p q):=((common_take p q (common p q)).1 (Nat.le_refl _)).2.2
theorem split_common (p q r:List UInt8):(r=p↔r=q.take (common p q)++r.drop (q.take (common p q)).length∧r.drop (q.take (common p q)).length=p.drop (common p q)):=by
 have hcl:=common_le p q;have ht:=take_common p q;have hl:(q.take (common p q)).length=common p q:=by rw [List.length_take]; omega
 rw [hl,←ht]
 constructor
 ·intro e;subst e;exact ⟨by rw [List.take_append_drop],rfl⟩
 ·rintro ⟨e1,e2⟩;rw [e1,e2,List.take_append_drop]
theorem put_spec (t:T):∀ q v,wf t→fit q=true→v≠ []→wf (put t q v)∧(∀ r,fit r=true→look (put t q v) r=if r=q then v else look t r)∧(isBranch t=true→isBranch (put t q v)=true):=by
 induction t with
 |nil=>
  intro q v _ hq hv;exact ⟨⟨hq,hv⟩,fun r _=>by simp [put,look],fun h=>by simp [isBranch] at h⟩
 |leaf p w=>
  intro q v h hq hv;simp only [put];have hcl:=common_le p q;by_cases hc:common p q=p.length∧common p q=q.length
  ·rw [if_pos hc];have hpq:p=q:=by
    have:=take_common p q
    rw [List.take_of_length_le (by omega),List.take_of_length_le (by omega)] at this;exact this
   subst hpq;exact ⟨⟨hq,hv⟩,fun r _=>by simp only [look]; split<;>rfl,fun h=>by simp [isBranch] at h⟩
  ·rw [if_neg hc];have hl:(q.take (common p q)).length=common p q:=by rw [List.length_take]; omega
   obtain ⟨s1,s2,s3⟩:=partedG_spec (p.drop (common p q)) w (q.drop (common p q)) v (fun r=> .leaf r w) (fun s=>if s=p.drop (common p q) then w else [])
    (fit_drop _ h.1) (fit_drop _ hq) hv (drop_common p q)
    (by
     rintro ⟨e1,e2⟩;have l1:=congrArg List.length e1;have l2:=congrArg List.length e2;simp at l1 l2
     exact hc ⟨by omega,by omega⟩)
    (by intro e; exact ⟨h.2,fun s=>by simp only [e]⟩)
    (by
     intro b r e;refine ⟨⟨?_,h.2⟩,by simp,?_,?_,?_⟩
     ·have:=fit_drop (common p q) h.1
      rw [e] at this;exact (fit_cons'.1 this).2
     ·intro s _; simp only [look,e,List.cons.injEq,true_and]
     ·rw [e,if_neg (by simp)]
     ·intro c s hcb; rw [e,if_neg (by simp [hcb])])
   refine ⟨joined_wf (fit_take _ hq) s1 (by intro e; simp only [parted] at e; rw [e] at s3; simp [isBranch] at s3),fun r hr=> ?_,fun h=>by simp [isBranch] at h⟩;rw [joined_look _ _ (by intro e; simp only [parted] at e; rw [e] at s3; simp [isBranch] at s3)];simp only [parted,look];rw [s2 _ (fit_drop _ hr)];have e1:=split_common p q r;have e2:=split_common q p r;have hcs:=common_symm p q;rw [hl] at e1 ⊢;by_cases hr1:r=q.take (common p q)++r.drop (common p q)
   ·rw [if_pos hr1];by_cases h1:r.drop (common p q)=q.drop (common p q)
    ·have:r=q:=by rw [hr1,h1,List.take_append_drop]
     rw [if_pos h1,if_pos this]
    ·rw [if_neg h1,if_neg (show ¬r=q from fun e=>h1 (by rw [e]))];by_cases h2:r.drop (common p q)=p.drop (common p q)
     ·rw [if_pos h2,if_pos (e1.2 ⟨hr1,h2⟩)]
     ·rw [if_neg h2,if_neg (show ¬r=p from fun e=>h2 (e1.1 e).2)]
   ·rw [if_neg hr1,if_neg (show ¬r=q from fun e=>hr1 (by rw [e,List.take_append_drop])),if_neg (show ¬r=p from fun e=>hr1 (e1.1 e).1)]
 |ext p t ih=>
  intro q v h hq hv;obtain ⟨h1,h2,h3,h4⟩:=h;simp only [put];have hcl:=common_le p q;have htn:t≠ .nil:=fun e=>by rw [e] at h3; simp [isBranch] at h3
  by_cases hc:common p q=p.length
  ·rw [if_pos hc];obtain ⟨s1,s2,s3⟩:=ih (q.drop (common p q)) v h4 (fit_drop _ hq) hv;have hpq:=prefix_common.1 hc;refine ⟨joined_wf h1 s1 (put_nn _ _ _),fun r hr=> ?_,fun h=>by simp [isBranch] at h⟩;rw [joined_look _ _ (put_nn _ _ _),hc];simp only [look];by_cases hr1:r=p++r.drop p.length
   ·rw [if_pos hr1,if_pos (prefix_common.2 hr1)];rw [hc] at s2;rw [s2 _ (fit_drop _ hr)];by_cases h5:r.drop p.length=q.drop p.length
    ·rw [if_pos h5,if_pos (by rw [hr1,h5,←hpq])]
    ·rw [if_neg h5,if_neg (show ¬r=q from fun e=>h5 (by rw [e]))]
   ·rw [if_neg hr1,if_neg (show ¬r=q from fun e=>hr1 (by rw [e]; exact hpq)),if_neg (fun e=>hr1 (prefix_common.1 e))]
  ·rw [if_neg hc];have hl:(q.take (common p q)).length=common p q:=by rw [List.length_take]; omega
   have hop:p.drop (common p q)≠ []:=by
    intro e; have:=congrArg List.length e; simp at this; omega
   obtain ⟨s1,s2,s3⟩:=partedG_spec (p.drop (common p q)) [] (q.drop (common p q)) v (fun r=>joined r t) (fun s=>look (.ext (p.drop (common p q)) t) s)
    (fit_drop _ h1) (fit_drop _ hq) hv (drop_common p q)
    (fun e=>hop e.1) (fun e=>absurd e hop)
    (by
     intro b r e;have hfr:fit r=true:=by
      have:=fit_drop (common p q) h1
      rw [e] at this;exact (fit_cons'.1 this).2
     refine ⟨joined_wf hfr h4 htn,joined_nn htn,?_,?_,?_⟩
     ·intro s _;rw [joined_look _ _ htn,e];simp only [look,common,if_true,List.length_cons,List.drop_succ_cons];by_cases h5:s=r++s.drop r.length
      ·rw [if_pos h5,if_pos (by rw [prefix_common.2 h5])]
      ·rw [if_neg h5,if_neg (fun e=>h5 (prefix_common.1 (by omega)))]
     ·rw [e]; simp [look,common]
     ·intro c s hcb;rw [e];simp [look,common,Ne.symm hcb])
   have hne:partedG (p.drop (common p q)) (fun r=>joined r t) [] (q.drop (common p q)) v≠ .nil:=by intro e; rw [e] at s3; simp [isBranch] at s3
   refine ⟨joined_wf (fit_take _ hq) s1 hne,fun r hr=> ?_,fun h=>by simp [isBranch] at h⟩;simp only [parted];rw [joined_look _ _ hne];rw [s2 _ (fit_drop _ hr),hl];by_cases hr1:r=q.take (common p q)++r.drop (common p q)
   ·rw [if_pos hr1];by_cases h5:r.drop (common p q)=q.drop (common p q)
    ·rw [if_pos h5,if_pos (by rw [hr1,h5,List.take_append_drop])]
    ·rw [if_neg h5,if_neg (show ¬r=q from fun e=>h5 (by rw [e]))];simp only [look,List.length_drop];have ht:=take_common p q;by_cases h6:common p r=p.length
     ·have h7:=prefix_common.1 h6;have h8:common (p.drop (common p q)) (r.drop (common p q))=p.length - common p q:=by
       have:=prefix_common (p:=p.drop (common p q)) (q:=r.drop (common p q))
       rw [List.length_drop] at this;refine this.2 ?_
       conv=>lhs; rw [h7]
       rw [List.drop_append_of_le_length hcl.1,List.drop_drop]
       congr 2
       omega
      rw [if_pos h8,if_pos h6,List.drop_drop]
      congr 2
      omega
     ·rw [if_neg h6,if_neg];intro h8
      have:=prefix_common (p:=p.drop (common p q)) (q:=r.drop (common p q))
      rw [List.length_drop] at this;have h9:=this.1 h8;refine h6 (prefix_common.2 ?_)
      conv=>lhs; rw [hr1,←ht,h9]
      rw [←List.append_assoc,List.take_append_drop,List.drop_drop]
      congr 2
      omega
   ·rw [if_neg hr1,if_neg (show ¬r=q from fun e=>hr1 (by rw [e,List.take_append_drop]))];simp only [look];rw [if_neg];intro h6;have h7:=prefix_common.1 h6;refine hr1 ?_;have ht:=take_common p q
    have:r.take (common p q)=q.take (common p q):=by
     rw [h7,List.take_append_of_le_length hcl.1,ht]
    rw [←this,List.take_append_drop]
 |branch w kids ih=>
  intro q v h hq hv;cases q with
  |nil=>
   simp only [put];refine ⟨⟨h.1,?_⟩,fun r _=> ?_,fun _=>rfl⟩
   ·have:=h.2
    rw [if_neg hv]
    split at this<;>omega
   ·cases r<;>simp [look]
  |cons b q=>
   have hb:=fit_cons'.1 hq;obtain ⟨s1,s2,_⟩:=ih (ix b) q v (h.1 _) hb.2 hv;have isn:isNil (put (kids (ix b)) q v)=false:=by
    have:=put_nn (kids (ix b)) q v
    generalize put (kids (ix b)) q v=t at *;cases t<;>simp_all [isNil]
   simp only [put];refine ⟨⟨fun i=> ?_,?_⟩,fun r hr=> ?_,fun _=>rfl⟩
   ·simp only [setKid]; split
    ·exact s1
    ·exact h.1 i
   ·have h2:=h.2;have hm:many kids≤many (setKid kids b (put (kids (ix b)) q v)):=many_mono (fun i hi=>by
     by_cases e:i=ix b
     ·subst e; rw [setKid_same]; exact isn
     ·rw [setKid_other e]; exact hi)
    omega
   ·cases r with
    |nil=>simp [look]
    |cons x r=>
     have hx:=fit_cons'.1 hr;simp only [look];by_cases hxb:x=b
     ·subst hxb;rw [setKid_same,s2 r hx.2];simp only [List.cons.injEq,true_and]
     ·rw [setKid_other (fun e=>hxb (ix_inj hx.1 hb.1 e)),if_neg (by simp [hxb])]
theorem isNil_iff {t:T}:isNil t=true↔t= .nil:=by cases t<;>simp [isNil]
theorem many_zero {kids:Fin 16→T} (h:many kids=0) (i:Fin 16):kids i= .nil:=by
 cases hi:isNil (kids i) with
 |true=>exact isNil_iff.1 hi
 |false=>have:=many_pos hi; omega
theorem lastKid_one {kids:Fin 16→T} (h:many kids=1):isNil (kids (lastKid kids))=false∧∀ i,i≠lastKid kids→kids i= .nil:=by
 unfold many at h;unfold lastKid;have hm:∀ i,i∈((List.finRange 16).filter fun i=> !isNil (kids i))↔isNil (kids i)=false:=by
  intro i; rw [List.mem_filter]; simp [List.mem_finRange]
 generalize ((List.finRange 16).filter fun i=> !isNil (kids i))=l at *
 match l,h with
 | [x],_=>
  refine ⟨by simpa using (hm x).1 (by simp),fun i hi=> ?_⟩;cases hn:isNil (kids i) with
  |true=>exact isNil_iff.1 hn
  |false=>
   have:=(hm i).2 hn
   simp at this
   exact absurd this (by simpa using hi)
theorem shrunk_spec (v:List UInt8) (kids:Fin 16→T) (h:∀ i,wf (kids i)) (h1:1≤many kids+(if v= [] then 0 else 1)):
  wf (shrunk v kids)∧(∀ r,fit r=true→look (shrunk v kids) r=look (.branch v kids) r)∧shrunk v kids≠ .nil:=by
 unfold shrunk;by_cases m0:many kids=0
 ·rw [if_pos m0];have hv:v≠ []:=by intro e; rw [m0,if_pos e] at h1; omega
  refine ⟨⟨rfl,hv⟩,fun r _=> ?_,by simp⟩;cases r with
  |nil=>simp [look]
  |cons b r=>simp [look,many_zero m0]
 ·rw [if_neg m0];by_cases m1:many kids=1∧v= []
  ·rw [if_pos m1];obtain ⟨g1,g2⟩:=lastKid_one m1.1;have hn:kids (lastKid kids)≠ .nil:=fun e=>by rw [e] at g1; simp [isNil] at g1
   obtain ⟨e1,e2⟩:=ix_of (lastKid kids);generalize lastKid kids=l at *;refine ⟨joined_wf (fit_cons'.2 ⟨e2,rfl⟩) (h _) hn,fun r hr=> ?_,joined_nn hn⟩;rw [joined_look _ _ hn];cases r with
   |nil=>rw [if_neg (by simp)]; simp [look,m1.2]
   |cons b r=>
    have hb:=fit_cons'.1 hr;simp only [look,List.length_singleton,List.drop_succ_cons,List.drop_zero,List.singleton_append,List.cons.injEq,and_true];by_cases hbl:b=UInt8.ofNat l.val
    ·rw [if_pos hbl,hbl,e1]
    ·rw [if_neg hbl,g2 (ix b) (fun e=>hbl (ix_inj hb.1 e2 (by rw [e,e1])))]; rfl
  ·rw [if_neg m1];refine ⟨⟨h,?_⟩,fun r _=>rfl,by simp⟩;by_cases hv:v= []
   ·rw [if_pos hv]
    have:many kids≠1:=fun e=>m1 ⟨e,hv⟩
    omega
   ·rw [if_neg hv]; omega
theorem del_spec (t:T):∀ q,wf t→fit q=true→look t q≠ []→wf (del t q)∧(∀ r,fit r=true→look (del t q) r=if r=q then [] else look t r)∧(isBranch t=true→del t q≠ .nil):=by
 induction t with
 |nil=>intro q _ _ h; exact absurd rfl h
 |leaf p w=>
  intro q _ _ h;refine ⟨trivial,fun r _=> ?_,fun h=>by simp [isBranch] at h⟩;simp only [look] at h ⊢;simp only [del,look];by_cases hq:q=p
  ·subst hq; split<;>rfl
  ·rw [if_neg hq] at h; exact absurd rfl h
 |ext p t ih=>
  intro q hw hq h;obtain ⟨h1,h2,h3,h4⟩:=hw;obtain ⟨e1,e2⟩:=look_ext_some h;obtain ⟨s1,s2,s3⟩:=ih (q.drop p.length) h4 (fit_drop _ hq) e2;have hn:=s3 h3;refine ⟨joined_wf h1 s1 hn,fun r hr=> ?_,fun h=>by simp [isBranch] at h⟩;simp only [del];rw [joined_look _ _ hn];simp only [look];by_cases hr1:r=p++r.drop p.length
  ·rw [if_pos hr1,if_pos (prefix_common.2 hr1),s2 _ (fit_drop _ hr)];by_cases h5:r.drop p.length=q.drop p.length
   ·rw [if_pos h5,if_pos (by rw [hr1,h5,←e1])]
   ·rw [if_neg h5,if_neg (show ¬r=q from fun e=>h5 (by rw [e]))]
  ·rw [if_neg hr1,if_neg (show ¬common p r=p.length from fun e=>hr1 (prefix_common.1 e))]
   split<;>rfl
 |branch v kids ih=>
  intro q hw hq h;cases q with
  |nil=>
   simp only [del];have hm:1≤many kids+(if ([]:List UInt8)= [] then 0 else 1):=by
    have:=hw.2
    rw [if_pos rfl]
    split at this<;>omega
   obtain ⟨s1,s2,s3⟩:=shrunk_spec [] kids hw.1 hm;refine ⟨s1,fun r hr=> ?_,fun _=>s3⟩;rw [s2 r hr];cases r<;>simp [look]
  |cons b q=>
   have hb:=fit_cons'.1 hq;simp only [look] at h;obtain ⟨i1,i2,_⟩:=ih (ix b) q (hw.1 _) hb.2 h;simp only [del];have hk:∀ i,wf (setKid kids b (del (kids (ix b)) q) i):=by
    intro i; simp only [setKid]; split
    ·exact i1
    ·exact hw.1 i
   have hm:1≤many (setKid kids b (del (kids (ix b)) q))+(if v= [] then 0 else 1):=by
    rcases many_two hw.2 b with hv|⟨i,hne,hi⟩
    ·rw [if_neg hv]; omega
    ·have:=many_pos (kids:=setKid kids b (del (kids (ix b)) q)) (i:=i) (by rw [setKid_other hne]; exact hi)
     omega
   obtain ⟨s1,s2,s3⟩:=shrunk_spec v _ hk hm;refine ⟨s1,fun r hr=> ?_,fun _=>s3⟩;rw [s2 r hr];cases r with
   |nil=>simp [look]
   |cons x r=>
    have hx:=fit_cons'.1 hr;simp only [look];by_cases hxb:x=b
    ·subst hxb;rw [setKid_same,i2 r hx.2];simp only [List.cons.injEq,true_and]
    ·rw [setKid_other (fun e=>hxb (ix_inj hx.1 hb.1 e)),if_neg (by simp [hxb])]
end Trie
namespace Trie
open Nib
def hb (i:Fin 16):UInt8:=UInt8.ofNat i.val
def count:T→Nat
 | .nil=>0
 | .leaf _ _=>1
 | .ext _ t=>count t
 | .branch v kids=>(if v= [] then 0 else 1)+((List.finRange 16).map fun i=>count (kids i)).sum
end Trie
end Go.Proofs.YtnelhjfjkkdoaaaGreatDoor