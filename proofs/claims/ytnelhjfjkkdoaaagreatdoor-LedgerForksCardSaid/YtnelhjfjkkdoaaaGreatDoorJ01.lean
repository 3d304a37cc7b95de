import Derived.WalkKit
import Derived.WalkSpells
import Derived.Below
import Derived.Laws.OwnMore
import Derived.Deep.AppendLies
import Derived.Deep.Draws
import Derived.Laws.Rows
import Derived.Maps.AppendAt
import Derived.RegionTactic
import Derived.OwnWalk
import Derived.Deep.OwnRows
import Derived.Laws.AppendOwn
import Derived.Laws.MakeOwn
import Derived.Laws.Entries
import Derived.LaidEqlPtr
import Derived.Laws.BitsAllLaws
import Derived.Laws.BitsLemmas
import Derived.ChangeSame
import Derived.Deep.QuietTactic
import Derived.Lib.Hide
import Derived.ShutString
import Derived.Test.YtnelhjfjkkdoaaaGreatDoorRows
import Derived.WalkLawsBesides
import Derived.BigQuiet
import Derived.Deep.LoopGhost
import Derived.Deep.RegionHeld3
import Derived.ScopeJumps
import Derived.Handy
import Derived.Deep.RegionLaw
import Derived.Laws.IdiomStrings
import Derived.Laws.BytesArg
import Derived.StillTailTactics
set_option linter.unusedSimpArgs false
set_option linter.unusedVariables false
namespace Go.Proofs.YtnelhjfjkkdoaaaGreatDoor
open Go.RowKit Go.WideShapes Go.ChangeShapes
theorem block_of_add (a : Addr) (n : Nat) : (a.add n).block = a.block:=by unfold Addr.add; split <;> rfl
theorem add_of_add (a : Addr) (i j : Nat) : (a.add i).add j = a.add (i + j):=by
 unfold Addr.add
 by_cases hi : i = 0 <;> by_cases hj : j = 0 <;> simp [hi,hj,Nat.add_assoc]
def Reads (w : World) (B size : Nat) (A : Option Addr) (n : Nat) (xs : List Value) : Prop :=
 xs.length = n * size ∧ (0 < n → ∃ ad,A = some ad ∧ ad.block < B ∧ ∀ j u,xs[j]? = some u → w.cell? (ad.add j) = some u)
section
variable {w w' : World} {B B' size n : Nat} {A : Option Addr} {xs : List Value}
theorem Reads.none_ : Reads w B size A 0 []:=⟨by simp,fun h=>absurd h (by omega)⟩
theorem Reads.at_ {k : Nat} (h : Reads w B 1 A n xs) (hk : k < n) : ∃ ad u,A = some ad ∧ ad.block < B ∧ xs[k]? = some u ∧ w.cell? (ad.add k) = some u:=by
 obtain ⟨ad,e,hb,hc⟩:=h.2 (by omega)
 have hl : k < xs.length:=by have:=h.1; omega
 exact ⟨ad,xs[k],e,hb,List.getElem?_eq_getElem hl,hc k _ (List.getElem?_eq_getElem hl)⟩
theorem Reads.keep (h : Reads w B size A n xs) (hk : ∀ p : Addr,p.block < B → w'.cell? p = w.cell? p) : Reads w' B size A n xs :=
 ⟨h.1,fun hn=>by
  obtain ⟨ad,e,hb,hc⟩:=h.2 hn
  exact ⟨ad,e,hb,fun j u hu=>(hk _ (by rw [block_of_add]; exact hb)).trans (hc j u hu)⟩⟩
theorem Reads.more (h : Reads w B size A n xs) (hB : B ≤ B') : Reads w B' size A n xs :=
 ⟨h.1,fun hn=>by
  obtain ⟨ad,e,hb,hc⟩:=h.2 hn
  exact ⟨ad,e,by omega,hc⟩⟩
theorem Reads.below (h : Reads w B size A n xs) (hb : Below B w w') : Reads w' B size A n xs:=h.keep fun _ hp=>hb.cell hp
theorem Reads.drew (h : Reads w B size A n xs) : Reads w.drew B size A n xs:=h
theorem Reads.drewN (h : Reads w B size A n xs) (k : Nat) : Reads (w.drewN k) B size A n xs:=h
theorem Reads.alloc (h : Reads w B size A n xs) (hB : B ≤ w.heap.size) (o : Obj) : Reads (w.alloc o) B size A n xs:=h.keep fun p hp=>World.cell?_alloc_lt w o p (by omega)
theorem Reads.setCell (h : Reads w B size A n xs) {p : Addr} (hB : B ≤ p.block) (u : Value) : Reads (w.setCell p u) B size A n xs :=
 h.keep fun q hq=>World.cell?_setCell_other w p q u (fun e=>by subst e; omega)
theorem Reads.grown (h : Reads w B size A n xs) {row : Option Nat} (hg : w.grownBy w' row) (hB : B ≤ w.heap.size) (hr : ∀ g,row = some g → B ≤ g) : Reads w' B size A n xs :=
 h.keep fun p hp=>World.cell?_of_block (hg.block p.block (by omega) (fun e=>by have:=hr _ e.symm; omega))
theorem Reads.cut (h : Reads w B size A n xs) {k cap : Nat} (hk : k ≤ n) (hc : n ≤ cap) :
  Reads w B size (if cap = k then A else A.map (·.add (k * size))) (n - k) (xs.drop (k * size)):=by
 refine ⟨by rw [List.length_drop,h.1,Nat.sub_mul],fun hn => ?_⟩
 obtain ⟨ad,rfl,hb,hcell⟩:=h.2 (by omega)
 rw [if_neg (by omega)]
 refine ⟨ad.add (k * size),rfl,by rw [block_of_add]; exact hb,fun j u hu => ?_⟩
 rw [add_of_add]
 exact hcell _ u (by rw [← hu,List.getElem?_drop])
theorem Reads.of_own {base : Nat} {e : TypeId} {c : Nat} (h : w.ownsRow base e size (.slice A n c) n xs) : Reads w w.heap.size size A n xs:=by
 refine ⟨h.1,fun hn => ?_⟩
 obtain ⟨g,cap,hv,_,hlt⟩:=h.form hn
 have hA : A = some ⟨g,0,none⟩:=by injection hv
 subst hA
 exact ⟨_,rfl,hlt,h.cells (g:=g) rfl⟩
end
def Blk (w : World) (g : Nat) (t : TypeId) (cs : Array Value) : Prop:=w.heap[g]? = some (.cells cs t (0,0))
section
variable {w w' : World} {g : Nat} {t : TypeId} {cs : Array Value}
theorem Blk.lt (h : Blk w g t cs) : g < w.heap.size:=by
 rcases Nat.lt_or_ge g w.heap.size with hlt | hge
 ·exact hlt
 ·unfold Blk at h; rw [Array.getElem?_eq_none hge] at h; cases h
theorem Blk.cell (h : Blk w g t cs) (i : Nat) : w.cell? ⟨g,i,none⟩ = cs[i]?:=cell_of_row w g i cs t (0,0) h
theorem Blk.frozen (h : Blk w g t cs) (i : Nat) : w.frozen? ⟨g,i,none⟩ = false:=by
 unfold Blk at h
 simp [World.frozen?,h]
theorem Blk.new (w : World) (t : TypeId) (cs : Array Value) : Blk (w.alloc (.cells cs t)) w.heap.size t cs:=heap_alloc_new w _
theorem Blk.drew (h : Blk w g t cs) : Blk w.drew g t cs:=h
theorem Blk.drewN (h : Blk w g t cs) (n : Nat) : Blk (w.drewN n) g t cs:=h
theorem Blk.alloc (h : Blk w g t cs) (o : Obj) : Blk (w.alloc o) g t cs:=(Below.heap_alloc w o g h.lt).trans h
theorem Blk.set_ (h : Blk w g t cs) (i : Nat) (u : Value) : Blk (w.setCell ⟨g,i,none⟩ u) g t (cs.setIfInBounds i u):=by
 unfold Blk at h ⊢
 simp [World.setCell,Array.getElem?_modify,h]
theorem Blk.far (h : Blk w g t cs) {p : Addr} (hp : g ≠ p.block) (u : Value) : Blk (w.setCell p u) g t cs:=(Below.heap_setCell w p u g hp).trans h
theorem Blk.below {B : Nat} (h : Blk w g t cs) (hb : Below B w w') (hg : g < B) : Blk w' g t cs:=(hb.block g hg).trans h
theorem Blk.grown {row : Option Nat} (h : Blk w g t cs) (hb : w.grownBy w' row) (hg : some g ≠ row) : Blk w' g t cs:=(hb.block g h.lt hg).trans h
theorem Blk.ne_ {g' : Nat} {t' : TypeId} {cs' : Array Value} (h : Blk w g t cs) (h' : Blk w g' t' cs') (hne : t ≠ t') : g ≠ g':=by
 rintro rfl
 unfold Blk at h h'
 rw [h] at h'
 injection h' with h'
 injection h' with _ ht
 exact hne ht
theorem own_blk_ne {base : Nat} {e : TypeId} {size n : Nat} {v : Value} {xs : List Value} (h : w.ownsRow base e size v n xs) (hg : Blk w g t cs) (hne : e ≠ t) : v.ownBlock ≠ some g:=by
 rcases h.2 with ⟨rfl,_⟩ | ⟨g',cap,cur,rfl,_,hh,_⟩
 ·simp [Value.ownBlock]
 ·intro he
  have : g' = g:=by simpa [Value.ownBlock] using he
  subst this
  exact Blk.ne_ (t:=e) hh hg hne rfl
end
section
variable {P : Program} (w : World)
theorem run_append_of_nil (base : Nat) (t ty e : TypeId) (i : TypeInfo) (size : Nat) (ht : P.underlying t = some (.slice e)) (hi : P.info? e = some i)
  (v : Value) (n : Nat) (xs : List Value) (hown : w.ownsRow base e size v n xs) (c : Nat) : (Builtin.append_ #[t,t] ty #[v,.slice none 0 c]).run P w = .ok v w:=by
 rcases hown.2 with ⟨rfl,rfl⟩ | ⟨g,cap,cur,rfl,_,_,hnc,_⟩
 ·simp [Builtin.append_,run_underlying ht,sizeOf,typeInfo,hi,Builtin.lenOf,Builtin.firstCells]
 ·simp [Builtin.append_,run_underlying ht,sizeOf,typeInfo,hi,Builtin.lenOf,Builtin.firstCells,hnc,storeCells]
theorem run_append_any (base : Nat) (t ty e : TypeId) (i : TypeInfo) (z : Value) (size bytes : Nat) (ht : P.underlying t = some (.slice e)) (hi : P.info? e = some i) (hz : i.zero = some z)
  (hsize : i.size = size) (hby : i.bytes = bytes) (hzs : z.cells.size = size) (hsz : 0 < size)
  (v : Value) (n : Nat) (xs : List Value) (hown : w.ownsRow base e size v n xs)
  (B : Nat) (A : Option Addr) (m c : Nat) (news : List Value) (hr : Reads w B size A m news) (h1 : ∀ u ∈ news,u.oneCell' = true)
  (h63 : n + m ≤ maxLen) (hbytes : (n + m) * bytes ≤ 140737488355328) (hbase : base ≤ w.heap.size) :
  ∃ v' w',(Builtin.append_ #[t,t] ty #[v,.slice A m c]).run P w = .ok v' w' ∧ w'.ownsRow base e size v' (n + m) (xs ++ news) ∧ w.grownBy w' v.ownBlock ∧
   (v'.ownBlock = v.ownBlock ∨ v'.ownBlock = some w.heap.size):=by
 rcases A with _ | ad
 ·have hm : m = 0:=by
   rcases Nat.eq_zero_or_pos m with h0 | h0
   ·exact h0
   ·obtain ⟨ad,h,_⟩:=hr.2 h0
    cases h
  subst hm
  have hn : news = []:=List.eq_nil_of_length_eq_zero (by simpa using hr.1)
  subst hn
  exact ⟨v,w,run_append_of_nil w base t ty e i size ht hi v n xs hown c,by simpa using hown,World.grownBy.refl w _,.inl rfl⟩
 ·have hcells : ∀ j u,news[j]? = some u → w.cell? (ad.add j) = some u:=by
   intro j u hu
   rcases Nat.eq_zero_or_pos m with h0 | h0
   ·subst h0
    have hn : news = []:=List.eq_nil_of_length_eq_zero (by simpa using hr.1)
    subst hn
    simp at hu
   ·obtain ⟨ad',h,_,hc⟩:=hr.2 h0
    injection h with h
    subst h
    exact hc j u hu
  obtain ⟨v',w',hrun,h2,h3,_,h5⟩:=run_append_own_at (P:=P) w base t ty e i z size bytes ht hi hz hsize hby hzs hsz v n xs hown ad m c news hr.1 hcells h1 h63 hbytes hbase
  exact ⟨v',w',hrun,h2,h3,h5⟩
theorem wp_append_any {o : Oper} {a : Act} {K : Act → World → Prop} {Q : Exit → Act → World → Prop} (s x : Operand) (t : TypeId)
  (ho : o.op = .call { callee:=.builtin .append,args:=#[s,x],argTypes:=#[t,t] })
  (base : Nat) (e : TypeId) (i : TypeInfo) (z : Value) (size bytes : Nat) (ht : P.underlying t = some (.slice e)) (hi : P.info? e = some i) (hz : i.zero = some z)
  (hsize : i.size = size) (hby : i.bytes = bytes) (hzs : z.cells.size = size) (hsz : 0 < size)
  (v : Value) (n : Nat) (xs : List Value) (hs : a.eval s = v) (hown : w.ownsRow base e size v n xs)
  (B : Nat) (A : Option Addr) (m c : Nat) (news : List Value) (hx : a.eval x = .slice A m c) (hr : Reads w B size A m news) (h1 : ∀ u ∈ news,u.oneCell' = true)
  (h63 : n + m ≤ maxLen) (hbytes : (n + m) * bytes ≤ 140737488355328) (hbase : base ≤ w.heap.size)
  (h : ∀ v' w',w'.ownsRow base e size v' (n + m) (xs ++ news) → w.grownBy w' v.ownBlock → (v'.ownBlock = v.ownBlock ∨ v'.ownBlock = some w.heap.size) → K (a.put o.dst v') w') : o.wp P a w K Q:=by
 obtain ⟨v',w',hrun,h2,h3,h4⟩:=run_append_any (P:=P) w base t o.type e i z size bytes ht hi hz hsize hby hzs hsz v n xs hown B A m c news hr h1 h63 hbytes hbase
 unfold Oper.wp execOp
 simp only [ho,resolve,invoke,builtin,Sem.run_bind,Sem.run_pure,Result.andThen_ok,List.map_toArray,List.map_cons,List.map_nil,hs,hx,hrun]
 exact h v' w' h2 h3 h4
theorem wpList_append_any {ops : Array Oper} {rest : List Oper} {o : Oper} {a : Act} {Q : Exit → Act → World → Prop} (hgd : o.guard = none) (s x : Operand) (t : TypeId)
  (ho : o.op = .call { callee:=.builtin .append,args:=#[s,x],argTypes:=#[t,t] })
  (base : Nat) (e : TypeId) (i : TypeInfo) (z : Value) (size bytes : Nat) (ht : P.underlying t = some (.slice e)) (hi : P.info? e = some i) (hz : i.zero = some z)
  (hsize : i.size = size) (hby : i.bytes = bytes) (hzs : z.cells.size = size) (hsz : 0 < size)
  (v : Value) (n : Nat) (xs : List Value) (hs : a.eval s = v) (hown : w.ownsRow base e size v n xs)
  (B : Nat) (A : Option Addr) (m c : Nat) (news : List Value) (hx : a.eval x = .slice A m c) (hr : Reads w B size A m news) (h1 : ∀ u ∈ news,u.oneCell' = true)
  (h63 : n + m ≤ maxLen) (hbytes : (n + m) * bytes ≤ 140737488355328) (hbase : base ≤ w.heap.size)
  (h : ∀ v' w',w'.ownsRow base e size v' (n + m) (xs ++ news) → w.grownBy w' v.ownBlock → (v'.ownBlock = v.ownBlock ∨ v'.ownBlock = some w.heap.size) → wpList P ops Q rest (a.put o.dst v') w') : wpList P ops Q (o :: rest) a w :=
 wpList_plain hgd fun _ hK=>wp_append_any w s x t ho base e i z size bytes ht hi hz hsize hby hzs hsz v n xs hs hown B A m c news hx hr h1 h63 hbytes hbase fun v' w' h2 h3 h4=>hK _ _ (h v' w' h2 h3 h4)
theorem step_append_any {ops : Array Oper} {o : Oper} {a : Act} {K : Act → World → Prop} {Q : Exit → Act → World → Prop} {E : Prop} (hgd : o.guard = none) (s x : Operand) (t : TypeId)
  (ho : o.op = .call { callee:=.builtin .append,args:=#[s,x],argTypes:=#[t,t] })
  (base : Nat) (e : TypeId) (i : TypeInfo) (z : Value) (size bytes : Nat) (ht : P.underlying t = some (.slice e)) (hi : P.info? e = some i) (hz : i.zero = some z)
  (hsize : i.size = size) (hby : i.bytes = bytes) (hzs : z.cells.size = size) (hsz : 0 < size)
  (v : Value) (n : Nat) (xs : List Value) (hs : a.eval s = v) (hown : w.ownsRow base e size v n xs)
  (B : Nat) (A : Option Addr) (m c : Nat) (news : List Value) (hx : a.eval x = .slice A m c) (hr : Reads w B size A m news) (h1 : ∀ u ∈ news,u.oneCell' = true)
  (h63 : n + m ≤ maxLen) (hbytes : (n + m) * bytes ≤ 140737488355328) (hbase : base ≤ w.heap.size)
  (h : ∀ v' w',w'.ownsRow base e size v' (n + m) (xs ++ news) → w.grownBy w' v.ownBlock → (v'.ownBlock = v.ownBlock ∨ v'.ownBlock = some w.heap.size) → K (a.put o.dst v') w') :
  if Region.wanted o (yielded ops a.tmps) = true then Oper.wp P o a w K Q else E:=by
 have hw : Region.wanted o (yielded ops a.tmps) = true:=by simp [Region.wanted,hgd]
 rw [if_pos hw]
 exact wp_append_any w s x t ho base e i z size bytes ht hi hz hsize hby hzs hsz v n xs hs hown B A m c news hx hr h1 h63 hbytes hbase h
end
theorem below_drewN {B : Nat} {a w : World} (h : Below B a w) (n : Nat) : Below B a (w.drewN n):=⟨h.os,h.tape,h.output,h.size,h.block⟩
theorem only_drewN {a w : World} {row : Option Nat} (h : a.grownBy w row) (n : Nat) : a.grownBy (w.drewN n) row:=⟨h.os,h.tape,h.output,h.size,h.block⟩
theorem only_drew {a w : World} {row : Option Nat} (h : a.grownBy w row) : a.grownBy w.drew row:=⟨h.os,h.tape,h.output,h.size,h.block⟩
theorem only_setCell {a w : World} {g : Nat} (h : a.grownBy w (some g)) {p : Addr} (hp : p.block = g ∨ a.heap.size ≤ p.block) (u : Value) : a.grownBy (w.setCell p u) (some g) :=
 ⟨h.os,h.tape,h.output,by simpa [World.setCell] using h.size,fun i hi hne=>(Below.heap_setCell w p u i (by
  rintro rfl
  rcases hp with hp | hp
  ·exact hne (by rw [hp])
  ·omega)).trans (h.block i hi hne)⟩
theorem only_of_below {a w : World} (h : Below a.heap.size a w) (row : Option Nat) : a.grownBy w row:=⟨h.os,h.tape,h.output,h.size,fun i hi _=>h.block i hi⟩
theorem ofInt_i64 (a : Nat) (ha : a < 9223372036854775808) : (BitVec.ofInt 64 (a : Int)).toNat = a:=by
 rw [BitVec.ofInt_natCast,BitVec.toNat_ofNat]; exact Nat.mod_eq_of_lt (by omega)
theorem i64_or_nat (a b : Nat) (ha : a < 9223372036854775808) (hb : b < 9223372036854775808) : bits .or .i64 (a : Int) (b : Int) = ((a ||| b : Nat) : Int):=by
 have hx : a ||| b < 2 ^ 63:=Nat.or_lt_two_pow (by omega) (by omega)
 show IntKind.i64.wrap ((BitVec.ofInt 64 (a : Int) ||| BitVec.ofInt 64 (b : Int)).toNat : Int) = _
 rw [BitVec.toNat_or,ofInt_i64 a ha,ofInt_i64 b hb,IntKind.wrap_i64]
 omega
section
variable {H : Type} {enc : TypeId × Value → H} {P : Program}
theorem post_of_below {f : Func} {s : ChangeSpec} {apart fresh handsOn again : Bool} {W W' : World} {args : Array Value} {v : Value} {ds gs : List (DataW H)} {before pa pv : List MemPlace}
  (hW : DataW.Whole enc P f.params.toList s.vars apart W args.toList ds gs before)
  (hres : ∀ (b : Nat) (sp : Nat → Bool) (hd : Bool),DataW.TrodAll enc P W' b sp hd f.resultTypes.toList (v.resultList f.resultTypes.size) (s.fn H (ds ++ gs)).results [])
  (hargs : ∀ sp : Nat → Bool,(∀ p ∈ before,sp p.block = true) → DataW.TrodAll enc P W' 0 sp true f.params.toList args.toList (s.fn H (ds ++ gs)).args pa)
  (hvars : ∀ sp : Nat → Bool,(∀ p ∈ before,sp p.block = true) → DataW.TrodVars enc P W' sp s.vars (s.fn H (ds ++ gs)).vars pv)
  (hps : before = pa ++ pv) (hb : Below W.heap.size W W')
  (hok : ∀ (j : Nat) (t : TypeId) (r : Value),f.resultTypes[j]? = some t → (v.resultList f.resultTypes.size)[j]? = some r → Value.okWide P W' .any 0 t r) :
  s.post enc P f apart fresh handsOn again W args v W':=by
 have hlt : ∀ p ∈ before,p.block < W.heap.size:=fun p hp=>hW.lt p hp
 have hold : ∀ p ∈ before,(fun b=>decide (b < W.heap.size)) p.block = true:=fun p hp=>by simpa using hlt p hp
 refine ⟨ds,gs,before, [],pa,pv,hW,hres _ _ _,hargs _ hold,hvars _ hold,World.keptBut_mono (fun p hp=>⟨hp, ?_⟩) (hb.frame (· ∈ before)),fun _ => ?_⟩
 ·rw [hps,List.mem_append] at hp
  exact Or.inr hp
 ·obtain ⟨_,_,_,_,_,hz,hn⟩:=hW
  refine ⟨hok,_,_,([] ++ pa) ++ pv,⟨[] ++ pa,pv,trodAll_append (hargs _ (fun _ _=>rfl)) (hres _ _ _),hvars _ (fun _ _=>rfl),rfl, ?_, ?_⟩, ?_⟩
  ·intro b off hp
   have hin : MemPlace.cell b off ∈ before:=by rw [hps]; simpa using hp
   rw [hb.frozen (hlt _ hin)]
   exact hz b off hin
  ·intro ha
   have:=hn ha
   rw [hps] at this
   simpa using this
  ·intro p hp _
   rw [hps]
   simpa using hp
end
end Go.Proofs.YtnelhjfjkkdoaaaGreatDoor
namespace Go.Proofs.YtnelhjfjkkdoaaaGreatDoor
open Go.RowKit
theorem ret_int {k : IntKind} {a b : Int} (h : a = b) : Ending.returned (.int k a) = .returned (.int k b):=by rw [h]
theorem ret_bool {a b : Bool} (h : a = b) : Ending.returned (.bool a) = .returned (.bool b):=by rw [h]
theorem ret_string {a b : ByteArray} (h : a = b) : Ending.returned (.string a) = .returned (.string b):=by rw [h]
def ints (l : List Nat) : List Value:=l.map fun (n : Nat)=>Value.int .i64 (n : Int)
theorem ints_snoc (l : List Nat) (n : Nat) : ints (l ++ [n]) = ints l ++ [.int .i64 n]:=by simp [ints]
theorem ints_length (l : List Nat) : (ints l).length = l.length:=by simp [ints]
theorem ba_get (s : List UInt8) (i : Nat) (h : i < (ByteArray.mk s.toArray).size) : (ByteArray.mk s.toArray)[i] = s[i]'(by simpa [ByteArray.size] using h):=rfl
theorem and15_fin : ∀ n : Fin 256,bits .and .u8 ((n.val : Nat) : Int) 15 = ((n.val % 16 : Nat) : Int):=by decide +kernel
theorem u8_and15 (b : UInt8) : bits .and .u8 (b.toNat : Int) 15 = (b.toNat : Int) % 16:=by
 have:=and15_fin ⟨b.toNat,b.toNat_lt⟩
 simpa using this
theorem pack_fin : ∀ n m : Fin 16,bits .or .u8 (IntKind.u8.wrap (((n.val : Nat) : Int) * 16)) ((m.val : Nat) : Int) = (((n.val * 16 + m.val) % 256 : Nat) : Int):=by decide +kernel
theorem u8_pack (a b : UInt8) (ha : a ≤ 15) (hb : b ≤ 15) : bits .or .u8 (IntKind.u8.wrap ((a.toNat : Int) * 16)) (b.toNat : Int) = ((a * 16 + b).toNat : Int):=by
 rw [UInt8.le_iff_toNat_le] at ha hb
 have:=pack_fin ⟨a.toNat,by simp at ha; omega⟩ ⟨b.toNat,by simp at hb; omega⟩
 simpa [UInt8.toNat_add,UInt8.toNat_mul] using this
theorem or16_fin : ∀ n : Fin 16,bits .or .u8 16 ((n.val : Nat) : Int) = ((16 + n.val : Nat) : Int) ∧ bits .or .u8 0 ((16 + n.val : Nat) : Int) = ((16 + n.val : Nat) : Int) ∧ bits .or .u8 32 ((16 + n.val : Nat) : Int) = ((48 + n.val : Nat) : Int):=by decide +kernel
theorem u8_or16 (a : UInt8) (ha : a ≤ 15) : bits .or .u8 16 (a.toNat : Int) = ((16 + a.toNat : Nat) : Int) ∧ bits .or .u8 0 ((16 + a.toNat : Nat) : Int) = ((16 + a.toNat : Nat) : Int) ∧ bits .or .u8 32 ((16 + a.toNat : Nat) : Int) = ((48 + a.toNat : Nat) : Int):=by
 rw [UInt8.le_iff_toNat_le] at ha
 exact or16_fin ⟨a.toNat,by simp at ha; omega⟩
def bvals (l : List UInt8) : List Value:=l.map fun (b : UInt8)=>Value.int .u8 (b.toNat : Int)
theorem bvals_one (l : List UInt8) : ∀ u ∈ bvals l,u.oneCell' = true:=by
 intro u hu
 simp [bvals] at hu
 obtain ⟨n,_,rfl⟩:=hu
 rfl
theorem bvals_length (l : List UInt8) : (bvals l).length = l.length:=by simp [bvals]
theorem u8_ofInt (x : Int) (h0 : 0 ≤ x) (h1 : x < 256) : ((UInt8.ofNat x.toNat).toNat : Int) = x:=by
 have : x.toNat < 256:=by omega
 simp [Nat.mod_eq_of_lt this]; omega
theorem conv_reads (w : World) (B : Nat) (A : Option Addr) (n c : Nat) (l : List UInt8) (h : Reads w B 1 A n (bvals l)) :
  (convert 118 9 (.slice A n c)).run Tryz.prog w = .ok (.string ⟨l.toArray⟩) w:=by
 have hl : l.length = n:=by have:=h.1; rw [bvals_length] at this; omega
 subst hl
 rcases Nat.eq_zero_or_pos l.length with h0 | h0
 ·have hl : l = []:=List.eq_nil_of_length_eq_zero h0
  subst hl
  cases A with
  | none=>exact run_convert_bytes_nil w 118 5 Tryz.underlying118 Tryz.underlying5 0 c 9 Tryz.underlying9
  | some a=>exact run_convert_bytes_back w 118 9 5 a c [] Tryz.underlying118 Tryz.underlying5 Tryz.underlying9 (by simp)
 ·obtain ⟨ad,rfl,_,hc⟩:=h.2 h0
  refine run_convert_bytes_back w 118 9 5 ad c l Tryz.underlying118 Tryz.underlying5 Tryz.underlying9 (fun j hj=>hc j _ ?_)
  simp [bvals,List.getElem?_eq_getElem hj]
theorem conv1 (w : World) (x : Int) (h0 : 0 ≤ x) (h1 : x < 256) : (convert 118 9 (.slice (some ⟨w.heap.size,0,none⟩) 1 1)).run Tryz.prog (w.alloc (.cells #[.int .u8 x] 5)) = .ok (.string ⟨#[UInt8.ofNat x.toNat]⟩) (w.alloc (.cells #[.int .u8 x] 5)):=by
 refine conv_reads _ (w.heap.size + 1) _ _ _ [UInt8.ofNat x.toNat] ⟨rfl,fun _=>⟨_,rfl,by simp,fun j u hu => ?_⟩⟩
 have ha : (⟨w.heap.size,0,none⟩ : Addr).add j = ⟨w.heap.size,j,none⟩:=by unfold Addr.add; split <;> simp_all
 rw [ha,World.cell?_alloc_at _ _ _ _ rfl]
 simp only [bvals,List.map,u8_ofInt x h0 h1] at hu
 simpa using hu
theorem conv2 (w : World) (x y : Int) (h0 : 0 ≤ x) (h1 : x < 256) (h2 : 0 ≤ y) (h3 : y < 256) : (convert 118 9 (.slice (some ⟨w.heap.size,0,none⟩) 2 2)).run Tryz.prog (w.alloc (.cells #[.int .u8 x,.int .u8 y] 5)) = .ok (.string ⟨#[UInt8.ofNat x.toNat,UInt8.ofNat y.toNat]⟩) (w.alloc (.cells #[.int .u8 x,.int .u8 y] 5)):=by
 refine conv_reads _ (w.heap.size + 1) _ _ _ [UInt8.ofNat x.toNat,UInt8.ofNat y.toNat] ⟨rfl,fun _=>⟨_,rfl,by simp,fun j u hu => ?_⟩⟩
 have ha : (⟨w.heap.size,0,none⟩ : Addr).add j = ⟨w.heap.size,j,none⟩:=by unfold Addr.add; split <;> simp_all
 rw [ha,World.cell?_alloc_at _ _ _ _ rfl]
 simp only [bvals,List.map,u8_ofInt x h0 h1,u8_ofInt y h2 h3] at hu
 simpa using hu
theorem conv1d (w : World) (x : Int) (h0 : 0 ≤ x) (h1 : x < 256) : (convert 118 9 (.slice (some ⟨w.heap.size,0,none⟩) 1 1)).run Tryz.prog (w.alloc (.cells #[.int .u8 x] 5)).drew = .ok (.string ⟨#[UInt8.ofNat x.toNat]⟩) (w.alloc (.cells #[.int .u8 x] 5)).drew:=conv1 w.drew x h0 h1
theorem conv1_below (w w1 : World) (x : Int) (h0 : 0 ≤ x) (h1 : x < 256) (hb : Below (w.heap.size + 1) (w.alloc (.cells #[.int .u8 x] 5)).drew w1) :
  (convert 118 9 (.slice (some ⟨w.heap.size,0,none⟩) 1 1)).run Tryz.prog w1 = .ok (.string ⟨#[UInt8.ofNat x.toNat]⟩) w1:=by
 refine conv_reads _ (w.heap.size + 1) _ _ _ [UInt8.ofNat x.toNat] ⟨rfl,fun _=>⟨_,rfl,by simp,fun j u hu => ?_⟩⟩
 have ha : (⟨w.heap.size,0,none⟩ : Addr).add j = ⟨w.heap.size,j,none⟩:=by unfold Addr.add; split <;> simp_all
 rw [ha,hb.cell (p:=⟨w.heap.size,j,none⟩) (by simp)]
 show (w.alloc (.cells #[.int .u8 x] 5)).cell? _ = _
 rw [World.cell?_alloc_at _ _ _ _ rfl]
 simp only [bvals,List.map,u8_ofInt x h0 h1] at hu
 simpa using hu
theorem _root_.Go.RowKit.Below.start {B : Nat} {a b : World} (h : Below B a.drew b) : Below B a b:=⟨h.os,h.tape,h.output,h.size,h.block⟩
theorem _root_.Go.RowKit.Below.nxt {a b c : World} (g : Below a.heap.size a b) (h : Below b.heap.size b c) : Below a.heap.size a c:=g.trans (h.mono g.size)
theorem Reads.form {w : World} {B size n : Nat} {A : Option Addr} {xs : List Value} (h : Reads w B size A n xs) (hn : 0 < n) (hs : 0 < size) :
  ∃ b off,A = some ⟨b,off,none⟩ ∧ b < B ∧ ∀ (j : Nat) (hj : j < xs.length),w.cell? ⟨b,off + j,none⟩ = some xs[j]:=by
 obtain ⟨⟨b,off,sp⟩,rfl,hb,hc⟩:=h.2 hn
 have hl : 0 < xs.length:=by rw [h.1]; exact Nat.mul_pos hn hs
 have h0:=hc 0 _ (List.getElem?_eq_getElem hl)
 have hsp : sp = none:=by
  cases sp with
  | none=>rfl
  | some q =>
   have e : (⟨b,off,some q⟩ : Addr).add 0 = ⟨b,off,some q⟩:=rfl
   rw [e] at h0
   simp only [World.cell?] at h0
   split at h0 <;> simp at h0
 subst hsp
 refine ⟨b,off,rfl,hb,fun j hj => ?_⟩
 have:=hc j _ (List.getElem?_eq_getElem hj)
 rwa [show (⟨b,off,none⟩ : Addr).add j = ⟨b,off + j,none⟩ from by unfold Addr.add; split <;> simp_all] at this
theorem own_form {w : World} {base e size n : Nat} {v : Value} {xs : List Value} (h : w.ownsRow base e size v n xs) : ∃ A c,v = .slice A n c ∧ Reads w w.heap.size size A n xs ∧ n ≤ c ∧ ∀ a,A = some a → base ≤ a.block:=by
 rcases h.2 with ⟨rfl,rfl⟩ | ⟨g,cap,cur,rfl,hg,_,hc,_⟩
 ·exact ⟨none,0,rfl,Reads.of_own h,Nat.le_refl _,by simp⟩
 ·exact ⟨_,cap,rfl,Reads.of_own h,hc,by intro a ha; injection ha with ha; subst ha; exact hg⟩
theorem own_below {w w1 : World} {base e size n : Nat} {v : Value} {xs : List Value} (h : w.ownsRow base e size v n xs) (hb : Below w.heap.size w w1) : w1.ownsRow base e size v n xs :=
 h.kept (only_of_below hb none) (by cases hv : v.ownBlock <;> simp)
theorem wp_scope_ghost {P : Program} {a : Act} {w : World} {Q : Exit → Act → World → Prop} {c rest : Code} (l : Nat) (J : Nat → Act → World → Prop) (hf : findLabel c l = some rest)
  (first : ∀ K : Act → World → Prop,(∀ k a' w',J k a' w' → K a' w') → c.wp P (Exit.jump l K Q) a w)
  (pass : ∀ n a w,J n a w → ∀ K : Act → World → Prop,(∀ k a' w',k < n → J k a' w' → K a' w') → rest.wp P (Exit.jump l K Q) a w) : (Code.scope c).wp P Q a w:=by
 refine wp_scope_jumps l (fun a w => ∃ n,J n a w) (fun a w=>leastOf (fun n=>J n a w)) hf (first _ fun k a' w' h=>⟨k,h⟩) ?_
 intro a w hI
 refine pass _ a w (leastOf_spec hI).1 _ ?_
 intro k a' w' hlt hJ
 exact ⟨⟨k,hJ⟩,Nat.lt_of_le_of_lt ((leastOf_spec ⟨k,hJ⟩).2 k hJ) hlt⟩
theorem wp_append_new {P : Program} (wr : World) (e : TypeId) (news : List Value) {o : Oper} {a : Act} {K : Act → World → Prop} {Q : Exit → Act → World → Prop} (s x : Operand) (t : TypeId)
  (ho : o.op = .call { callee:=.builtin .append,args:=#[s,x],argTypes:=#[t,t] })
  (base size bytes : Nat) (z : Value) (hinfo : (P.info? e).map (fun i=>(i.zero,i.size,i.bytes)) = some (some z,size,bytes)) (ht : P.underlying t = some (.slice e)) (hzs : z.cells.size = size) (hsz : 0 < size)
  (v : Value) (n : Nat) (xs : List Value) (hs : a.eval s = v) (hown : wr.ownsRow base e size v n xs)
  (m c : Nat) (hx : a.eval x = .slice (some ⟨wr.heap.size,0,none⟩) m c) (hl : news.length = m * size) (h1 : ∀ u ∈ news,u.oneCell' = true)
  (h63 : n + m ≤ maxLen) (hbytes : (n + m) * bytes ≤ 140737488355328) (B : Nat) (w0 : World) (hb : Below B w0 wr) (hB : B ≤ base) (hbase : base ≤ wr.heap.size)
  (h : ∀ v' w',w'.ownsRow base e size v' (n + m) (xs ++ news) → Below B w0 w' → wr.grownBy w' v.ownBlock → (v'.ownBlock = v.ownBlock ∨ ∃ g,v'.ownBlock = some g ∧ wr.heap.size ≤ g) → wr.heap.size < w'.heap.size → K (a.put o.dst v') w') :
  o.wp P a (wr.alloc (.cells news.toArray e)) K Q:=by
 obtain ⟨i,hi,hz,hsize,hby⟩:=info_parts hinfo
 have hn : ∀ j u,news[j]? = some u → (wr.alloc (.cells news.toArray e)).cell? ((⟨wr.heap.size,0,none⟩ : Addr).add j) = some u:=by
  intro j u hu
  have ha : (⟨wr.heap.size,0,none⟩ : Addr).add j = ⟨wr.heap.size,j,none⟩:=by unfold Addr.add; split <;> simp_all
  rw [ha,World.cell?_alloc_at _ _ _ _ rfl]
  simpa using hu
 obtain ⟨v',w',hrun,h2,h3,_,h5⟩:=run_append_own_at (P:=P) (wr.alloc (.cells news.toArray e)) base t o.type e i z size bytes ht hi hz hsize hby hzs hsz v n xs (hown.alloc _) ⟨wr.heap.size,0,none⟩ m c news hl hn h1 h63 hbytes (by simp; omega)
 unfold Oper.wp execOp
 simp only [ho,resolve,invoke,builtin,Sem.run_bind,Sem.run_pure,Result.andThen_ok,List.map_toArray,List.map_cons,List.map_nil,hs,hx,hrun]
 have hlt:=hown.lt
 have hsize' : wr.heap.size < w'.heap.size:=by have:=h3.size; simp at this; omega
 have hg : wr.grownBy w' v.ownBlock:=⟨h3.os,h3.tape,h3.output,by omega,fun k hk hne=>(h3.block k (by simp; omega) hne).trans (Below.heap_alloc _ _ _ hk)⟩
 refine h v' w' h2 (hb.grown hg (by omega) (fun k hk=>by have:=(hlt k hk).1; omega)) hg ?_ hsize'
 rcases h5 with h5 | h5
 ·exact .inl h5
 ·exact .inr ⟨_,h5,by simp⟩
theorem wpList_append_new {P : Program} (wr : World) (e : TypeId) (news : List Value) {ops : Array Oper} {rest : List Oper} {o : Oper} {a : Act} {Q : Exit → Act → World → Prop} (hgd : o.guard = none) (s x : Operand) (t : TypeId)
  (ho : o.op = .call { callee:=.builtin .append,args:=#[s,x],argTypes:=#[t,t] })
  (base size bytes : Nat) (z : Value) (hinfo : (P.info? e).map (fun i=>(i.zero,i.size,i.bytes)) = some (some z,size,bytes)) (ht : P.underlying t = some (.slice e)) (hzs : z.cells.size = size) (hsz : 0 < size)
  (v : Value) (n : Nat) (xs : List Value) (hs : a.eval s = v) (hown : wr.ownsRow base e size v n xs)
  (m c : Nat) (hx : a.eval x = .slice (some ⟨wr.heap.size,0,none⟩) m c) (hl : news.length = m * size) (h1 : ∀ u ∈ news,u.oneCell' = true)
  (h63 : n + m ≤ maxLen) (hbytes : (n + m) * bytes ≤ 140737488355328) (B : Nat) (w0 : World) (hb : Below B w0 wr) (hB : B ≤ base) (hbase : base ≤ wr.heap.size)
  (h : ∀ v' w',w'.ownsRow base e size v' (n + m) (xs ++ news) → Below B w0 w' → wr.grownBy w' v.ownBlock → (v'.ownBlock = v.ownBlock ∨ ∃ g,v'.ownBlock = some g ∧ wr.heap.size ≤ g) → wr.heap.size < w'.heap.size → wpList P ops Q rest (a.put o.dst v') w') :
  wpList P ops Q (o :: rest) a (wr.alloc (.cells news.toArray e)) :=
 wpList_plain hgd fun _ hK=>wp_append_new wr e news s x t ho base size bytes z hinfo ht hzs hsz v n xs hs hown m c hx hl h1 h63 hbytes B w0 hb hB hbase fun v' w' h2 h3 h4 h5 h6=>hK _ _ (h v' w' h2 h3 h4 h5 h6)
theorem step_append_new {P : Program} (wr : World) (e : TypeId) (news : List Value) {ops : Array Oper} {o : Oper} {a : Act} {K : Act → World → Prop} {Q : Exit → Act → World → Prop} {E : Prop} (hgd : o.guard = none) (s x : Operand) (t : TypeId)
  (ho : o.op = .call { callee:=.builtin .append,args:=#[s,x],argTypes:=#[t,t] })
  (base size bytes : Nat) (z : Value) (hinfo : (P.info? e).map (fun i=>(i.zero,i.size,i.bytes)) = some (some z,size,bytes)) (ht : P.underlying t = some (.slice e)) (hzs : z.cells.size = size) (hsz : 0 < size)
  (v : Value) (n : Nat) (xs : List Value) (hs : a.eval s = v) (hown : wr.ownsRow base e size v n xs)
  (m c : Nat) (hx : a.eval x = .slice (some ⟨wr.heap.size,0,none⟩) m c) (hl : news.length = m * size) (h1 : ∀ u ∈ news,u.oneCell' = true)
  (h63 : n + m ≤ maxLen) (hbytes : (n + m) * bytes ≤ 140737488355328) (B : Nat) (w0 : World) (hb : Below B w0 wr) (hB : B ≤ base) (hbase : base ≤ wr.heap.size)
  (h : ∀ v' w',w'.ownsRow base e size v' (n + m) (xs ++ news) → Below B w0 w' → wr.grownBy w' v.ownBlock → (v'.ownBlock = v.ownBlock ∨ ∃ g,v'.ownBlock = some g ∧ wr.heap.size ≤ g) → wr.heap.size < w'.heap.size → K (a.put o.dst v') w') :
  if Region.wanted o (yielded ops a.tmps) = true then Oper.wp P o a (wr.alloc (.cells news.toArray e)).drew K Q else E:=by
 have hw : Region.wanted o (yielded ops a.tmps) = true:=by simp [Region.wanted,hgd]
 rw [if_pos hw]
 refine wp_append_new wr.drew e news s x t ho base size bytes z hinfo ht hzs hsz v n xs hs hown m c hx hl h1 h63 hbytes B w0 hb.drew hB hbase fun v' w' h2 h3 h4 h5 h6=>h v' w' h2 h3 ⟨h4.os,h4.tape,h4.output,h4.size,h4.block⟩ h5 h6
theorem info_int : (Tryz.prog.info? 3).map (fun i=>(i.zero,i.size,i.bytes)) = some (some (.int .i64 0),1,8):=by kernel_rfl
theorem info_byte : (Tryz.prog.info? 5).map (fun i=>(i.zero,i.size,i.bytes)) = some (some (.int .u8 0),1,1):=by kernel_rfl
def loopsOf : Code → List Code
 | .loop c=>c :: loopsOf c
 | .seq a b=>loopsOf a ++ loopsOf b
 | .block _ c=>loopsOf c
 | .scope c=>loopsOf c
 | .cond _ a b=>loopsOf a ++ loopsOf b
 | _ => []
noncomputable def loopAt (f : Func) (n : Nat) : Code:=(((f.body.map loopsOf).getD [])[n]?).getD .skip
end Go.Proofs.YtnelhjfjkkdoaaaGreatDoor
namespace Go.Proofs.YtnelhjfjkkdoaaaGreatDoor
open Go.RowKit Go.Instr
def wv (x : UInt32) : Value:=.int .u32 (x.toNat : Int)
def wvs (l : List UInt32) : List Value:=l.map wv
theorem wvs_length (l : List UInt32) : (wvs l).length = l.length:=by simp [wvs]
theorem wvs_one (l : List UInt32) : ∀ u ∈ wvs l,u.oneCell' = true:=by
 intro u hu
 simp [wvs] at hu
 obtain ⟨n,_,rfl⟩:=hu
 rfl
theorem u32_lt (x : UInt32) : x.toNat < 4294967296:=x.toNat_lt
def orW (a b : UInt32) : UInt32:=a ||| b
def xorW (a b : UInt32) : UInt32:=a ^^^ b
def andW (a b : UInt32) : UInt32:=a &&& b
def addW (a b : UInt32) : UInt32:=a + b
def notW (a : UInt32) : UInt32 := ~~~ a
def shrW (a : UInt32) (n : Nat) : UInt32:=a >>> n.toUInt32
def shlW (a : UInt32) (n : Nat) : UInt32:=a <<< n.toUInt32
def ofB (b : UInt8) : UInt32:=b.toUInt32
def toB (a : UInt32) : UInt8:=a.toUInt8
def rotW (x : UInt32) (n : Nat) : UInt32:=orW (shrW x n) (shlW x (32 - n))
theorem w_or (a b : UInt32) : bits .or .u32 (a.toNat : Int) (b.toNat : Int) = ((orW a b).toNat : Int):=by
 rw [u32_or_nat _ _ (u32_lt a) (u32_lt b),orW,UInt32.toNat_or]
theorem w_xor (a b : UInt32) : bits .xor .u32 (a.toNat : Int) (b.toNat : Int) = ((xorW a b).toNat : Int):=by
 rw [u32_xor_nat _ _ (u32_lt a) (u32_lt b),xorW,UInt32.toNat_xor]
theorem w_and (a b : UInt32) : bits .and .u32 (a.toNat : Int) (b.toNat : Int) = ((andW a b).toNat : Int):=by
 rw [u32_and_nat _ _ (u32_lt a) (u32_lt b),andW,UInt32.toNat_and]
theorem w_add (a b : UInt32) : IntKind.u32.wrap ((a.toNat : Int) + (b.toNat : Int)) = ((addW a b).toNat : Int):=by
 rw [IntKind.wrap_u32',addW,UInt32.toNat_add]
 omega
theorem w_shr (x : UInt32) (n : Nat) (h : n < 32) : (x.toNat : Int) / 2 ^ n = ((shrW x n).toNat : Int):=by
 rw [shrW,UInt32.toNat_shiftRight]
 have : n.toUInt32.toNat % 32 = n:=by
  simp
  omega
 rw [this,Nat.shiftRight_eq_div_pow]
 simp
theorem w_shl (x : UInt32) (n : Nat) (h : n < 32) : ((x.toNat : Int) * 2 ^ n) % 4294967296 = ((shlW x n).toNat : Int):=by
 rw [shlW,UInt32.toNat_shiftLeft]
 have : n.toUInt32.toNat % 32 = n:=by
  simp
  omega
 rw [this,Nat.shiftLeft_eq]
 simp
theorem w_rot (x : UInt32) (n : Nat) (h0 : 0 < n) (h1 : n < 32) : bits .or .u32 ((x.toNat : Int) / 2 ^ n) ((x.toNat : Int) * 2 ^ (32 - n) % 4294967296) = ((rotW x n).toNat : Int):=by
 rw [w_shr x n h1,w_shl x (32 - n) (by omega),w_or]
 rfl
theorem ofB_toNat (x : UInt8) : (ofB x).toNat = x.toNat:=by simp [ofB]
theorem w_u8 (x : UInt8) : IntKind.u32.wrap (x.toNat : Int) = ((ofB x).toNat : Int):=by
 rw [IntKind.wrap_u32',ofB_toNat]
 have:=x.toNat_lt
 omega
theorem w_shl24 (x : UInt32) : IntKind.u32.wrap ((x.toNat : Int) * 16777216) = ((shlW x 24).toNat : Int):=by
 rw [IntKind.wrap_u32']; exact w_shl x 24 (by omega)
theorem w_shl16 (x : UInt32) : IntKind.u32.wrap ((x.toNat : Int) * 65536) = ((shlW x 16).toNat : Int):=by
 rw [IntKind.wrap_u32']; exact w_shl x 16 (by omega)
theorem w_shl8 (x : UInt32) : IntKind.u32.wrap ((x.toNat : Int) * 256) = ((shlW x 8).toNat : Int):=by
 rw [IntKind.wrap_u32']; exact w_shl x 8 (by omega)
theorem w_shr3 (x : UInt32) : (x.toNat : Int) / 8 = ((shrW x 3).toNat : Int):=w_shr x 3 (by omega)
theorem w_shr10 (x : UInt32) : (x.toNat : Int) / 1024 = ((shrW x 10).toNat : Int):=w_shr x 10 (by omega)
theorem w_shr8 (x : UInt32) : (x.toNat : Int) / 256 = ((shrW x 8).toNat : Int):=w_shr x 8 (by omega)
theorem w_shr16 (x : UInt32) : (x.toNat : Int) / 65536 = ((shrW x 16).toNat : Int):=w_shr x 16 (by omega)
theorem w_shr24 (x : UInt32) : (x.toNat : Int) / 16777216 = ((shrW x 24).toNat : Int):=w_shr x 24 (by omega)
theorem w_toB (x : UInt32) : IntKind.u8.wrap (x.toNat : Int) = ((toB x).toNat : Int):=by
 simp [IntKind.wrap,IntKind.bits,IntKind.signed,toB]
theorem sha_rot (x : UInt32) (n : Nat) (h0 : 0 < n) (h1 : n < 32) (w : World) :
  Calls Tryz.prog 218 #[.int .u32 (x.toNat : Int),.int .u64 (n : Int)] w fun e w'=>e = .returned (.int .u32 ((rotW x n).toNat : Int)) ∧ w' = w:=by
 have h:=w_rot x n h0 h1
 go_enter Tryz.func218,Tryz.ntmps218
 go_wp2
 go_ret
 exact ⟨rfl,rfl⟩
theorem sha_rot2 (x : UInt32) (w : World) : Calls Tryz.prog 218 #[.int .u32 (x.toNat : Int),.int .u64 2] w fun e w'=>e = .returned (.int .u32 ((rotW x 2).toNat : Int)) ∧ w' = w:=sha_rot x 2 (by omega) (by omega) w
theorem sha_rot6 (x : UInt32) (w : World) : Calls Tryz.prog 218 #[.int .u32 (x.toNat : Int),.int .u64 6] w fun e w'=>e = .returned (.int .u32 ((rotW x 6).toNat : Int)) ∧ w' = w:=sha_rot x 6 (by omega) (by omega) w
theorem sha_rot7 (x : UInt32) (w : World) : Calls Tryz.prog 218 #[.int .u32 (x.toNat : Int),.int .u64 7] w fun e w'=>e = .returned (.int .u32 ((rotW x 7).toNat : Int)) ∧ w' = w:=sha_rot x 7 (by omega) (by omega) w
theorem sha_rot11 (x : UInt32) (w : World) : Calls Tryz.prog 218 #[.int .u32 (x.toNat : Int),.int .u64 11] w fun e w'=>e = .returned (.int .u32 ((rotW x 11).toNat : Int)) ∧ w' = w:=sha_rot x 11 (by omega) (by omega) w
theorem sha_rot13 (x : UInt32) (w : World) : Calls Tryz.prog 218 #[.int .u32 (x.toNat : Int),.int .u64 13] w fun e w'=>e = .returned (.int .u32 ((rotW x 13).toNat : Int)) ∧ w' = w:=sha_rot x 13 (by omega) (by omega) w
theorem sha_rot17 (x : UInt32) (w : World) : Calls Tryz.prog 218 #[.int .u32 (x.toNat : Int),.int .u64 17] w fun e w'=>e = .returned (.int .u32 ((rotW x 17).toNat : Int)) ∧ w' = w:=sha_rot x 17 (by omega) (by omega) w
theorem sha_rot18 (x : UInt32) (w : World) : Calls Tryz.prog 218 #[.int .u32 (x.toNat : Int),.int .u64 18] w fun e w'=>e = .returned (.int .u32 ((rotW x 18).toNat : Int)) ∧ w' = w:=sha_rot x 18 (by omega) (by omega) w
theorem sha_rot19 (x : UInt32) (w : World) : Calls Tryz.prog 218 #[.int .u32 (x.toNat : Int),.int .u64 19] w fun e w'=>e = .returned (.int .u32 ((rotW x 19).toNat : Int)) ∧ w' = w:=sha_rot x 19 (by omega) (by omega) w
theorem sha_rot22 (x : UInt32) (w : World) : Calls Tryz.prog 218 #[.int .u32 (x.toNat : Int),.int .u64 22] w fun e w'=>e = .returned (.int .u32 ((rotW x 22).toNat : Int)) ∧ w' = w:=sha_rot x 22 (by omega) (by omega) w
theorem sha_rot25 (x : UInt32) (w : World) : Calls Tryz.prog 218 #[.int .u32 (x.toNat : Int),.int .u64 25] w fun e w'=>e = .returned (.int .u32 ((rotW x 25).toNat : Int)) ∧ w' = w:=sha_rot x 25 (by omega) (by omega) w
end Go.Proofs.YtnelhjfjkkdoaaaGreatDoor
