import Derived.Test.YtnelhjfjkkdoaaaGreatDoorK21
set_option linter.unusedSimpArgs false
set_option linter.unusedVariables false
set_option maxHeartbeats 4000000
set_option maxRecDepth 100000
namespace Go.Proofs.YtnelhjfjkkdoaaaGreatDoor
section
open Go.RowKit Go.Instr
def ival (vs:List (List UInt8 × Value)) (n:List UInt8):Value:=((assoc n vs 0).map (·.2)).getD (.int .i64 0)
theorem assoc_at {κ:Type} [DecidableEq κ] (k:κ):∀ (l:List (κ × Value)) (i j:Nat),(assoc k l i).map (·.2)=(assoc k l j).map (·.2)
 | [],_,_=>rfl
 |x::l,i,j=>by
  simp only [assoc]
  split
  ·rfl
  ·exact assoc_at k l (i+1) (j+1)
theorem ival_put (k n:List UInt8) (v:Value):∀ (vs:List (List UInt8 × Value)),ival (aput k v vs) n=if n=k then v else ival vs n
 | []=>by
  unfold ival;simp only [aput,assoc];by_cases h:n=k
  ·rw [if_pos h,if_pos h]; rfl
  ·rw [if_neg h,if_neg h]
 |x::vs=>by
  have ih:=ival_put k n v vs;unfold ival at ih ⊢;simp only [aput];by_cases hk:k=x.1
  ·rw [if_pos hk];simp only [assoc];by_cases h:n=k
   ·rw [if_pos h,if_pos h]; rfl
   ·rw [if_neg h,if_neg h,if_neg (fun e=>h (e.trans hk.symm))]
  ·rw [if_neg hk];simp only [assoc];by_cases h:n=x.1
   ·rw [if_pos h,if_pos h,if_neg (fun e=>hk (e.symm.trans h))]
   ·rw [if_neg h,if_neg h,assoc_at n (aput k v vs) _ 0,assoc_at n vs _ 0];exact ih
structure IMap (w:World) (b:Nat) (D:List UInt8→Int):Prop where
 ex:∃ vs,MapIs w ss b vs∧∀ n,ival vs n= .int .i64 (D n)
section
variable {w w':World} {b:Nat} {D:List UInt8→Int}
theorem IMap.lt (h:IMap w b D):b<w.heap.size:=by obtain ⟨vs,h1,_⟩:=h.ex; exact h1.lt
theorem IMap.next (h:IMap w b D) (hb:Below w.heap.size w w'):IMap w' b D:=by
 obtain ⟨vs,h1,h2⟩:=h.ex;exact ⟨vs,h1.kept (hb.block b h1.lt),h2⟩
theorem IMap.made (w:World) (c:Nat):IMap (w.alloc (.map #[] c)) w.heap.size (fun _=>0):=⟨[],MapIs.made w c,fun n=>rfl⟩
theorem IMap.get (h:IMap w b D) {t:TypeId} (ht:Tryz.prog.underlying t=some (.map 9 3)) (k:List UInt8) {W:World} (hW:Below w.heap.size w W):(lookup t (.map (some b)) (.string ⟨k.toArray⟩) false).run Tryz.prog W= .ok (.int .i64 (D k)) W:=by
 have hz:∀ W,(zeroValue 3).run Tryz.prog W= .ok (.int .i64 0) W:=fun W=>by kernel_rfl
 obtain ⟨vs,h1,h2⟩:=h.ex;have h3:=h2 k;unfold ival at h3;have h4:=(h1.kept (hW.block b h1.lt)).look ss_type t _ ht _ (hz W) k false;simp only [ss] at h4;rw [h4];cases ha:assoc k vs 0 with
 |none=>rw [ha] at h3; simp only [Option.map_none,Option.getD_none] at h3; simp only [h3]; rfl
 |some r=>
  obtain ⟨j,v⟩:=r;rw [ha] at h3;simp only [Option.map_some,Option.getD_some] at h3;subst h3;rfl
theorem IMap.store (h:IMap w b D) (k:List UInt8) (q:Int):∃ vs,MapIs w ss b vs∧∀ w',MapIs w' ss b (aput k (.int .i64 q) vs)→IMap w' b (fun n=>if n=k then q else D n):=by
 obtain ⟨vs,h1,h2⟩:=h.ex;refine ⟨vs,h1,fun w' a1=>⟨_,a1,fun n=> ?_⟩⟩;rw [ival_put,h2 n]
 split<;>rfl
theorem IMap.reads (h:IMap w b D) {B size n:Nat} {A:Option Addr} {xs:List Value} (hr:Reads w B size A n xs) (hB:B≤w.heap.size) (hg:w.grownBy w' (some b)):Reads w' B size A n xs:=by
 obtain ⟨vs,h1,_⟩:=h.ex;exact hr.off_map h1 hB hg
theorem IMap.no_cell (h:IMap w b D) (p:Addr) (hp:p.block=b):w.cell? p=none:=by
 obtain ⟨vs,h1,_⟩:=h.ex;exact h1.no_cell p hp
end
end
section
open Go.RowKit Go.Instr
attribute [local go_sem] ba_get ByteArray.mk_append_mk
attribute [local go_sem ↓] Go.wp_at_zero Go.wp_at_succ
theorem eqlIn_nil {t e:TypeId} (h:Tryz.prog.underlying t=some (.slice e)) (w:World) (d:Nat) (a:Option Addr) (n c:Nat):(Op.equalIn (d+1) t (.slice a n c) (.slice none 0 0)).run Tryz.prog w= .ok a.isNone w:=by
 cases a<;>simp [Op.equalIn,run_underlying h]
theorem eql_nil {t e:TypeId} (h:Tryz.prog.underlying t=some (.slice e)) (w:World) (a:Option Addr) (n c:Nat):(binOp .eql t (.slice a n c) (.slice none 0 0)).run Tryz.prog w= .ok (.bool a.isNone) w:=by
 simp only [binOp];simp [Op.equal,Op.maxDepth,eqlIn_nil h w 9999 a n c]
end
section
open Go.RowKit Go.Instr Go.ChangeMaps
attribute [local go_sem] ba_get ByteArray.mk_append_mk
attribute [local go_sem ↓] Go.wp_at_zero Go.wp_at_succ
def CloneSEnd (w:World) (et:TypeId) (sz n:Nat) (cs:List Value) (e:Ending) (w':World):Prop:=
 ∃ A c,e= .returned (.slice A n c)∧Below w.heap.size w w'∧w'.ownsRow w.heap.size et sz (.slice A n c) n cs
theorem clone_strsO (w:World) (l:List (List UInt8)) (hl:l.length≤100000) (A:Option Addr) (c:Nat) (HR:Reads w w.heap.size 1 A l.length (strv l)):
  Calls Tryz.prog 115 #[.slice A l.length c] w (CloneSEnd w 9 1 l.length (strv l)):=by
 have HP:Hid (∀ A' c' w',Below w.heap.size w w'→w'.ownsRow w.heap.size 9 1 (.slice A' l.length c') l.length (strv l)→CloneSEnd w 9 1 l.length (strv l) (.returned (.slice A' l.length c')) w'):=ι (fun A' c' w' h1 h2=>⟨A',c',rfl,h1,h2⟩);generalize CloneSEnd w 9 1 l.length (strv l)=P at HP ⊢;have HL:=ι hl;cases A with
 |none=>
  have h0:l= []:=by
   cases l with
   |nil=>rfl
   |cons x r=>obtain ⟨a,o,h,_⟩:=HR.form (by simp) (by decide); cases h
  subst h0;have he:(binOp .eql 26 (.slice none 0 c) (.slice none 0 0)).run Tryz.prog w= .ok (.bool true) w:=eql_nil Tryz.underlying26 w none 0 c;go_enter Tryz.func115,Tryz.ntmps115
  go_wp2_with fail
  exact HP.out none 0 w (Below.refl _ _) (World.ownsRow_nil _ _ _ _)
 |some ad=>
  have HRR:=ι HR;clear HR hl;have he:(binOp .eql 26 (.slice (some ad) l.length c) (.slice none 0 0)).run Tryz.prog w= .ok (.bool false) w:=eql_nil Tryz.underlying26 w (some ad) l.length c;obtain ⟨i0,hi0,hz0,hz1,hz2⟩:=info_parts info_str;go_enter Tryz.func115,Tryz.ntmps115
  go_upto_region 3 with fail
  have F1:=Live.hb (ι (Live.start w)) ((Below.refl _ w).alloc (Nat.le_refl _) (.cells #[] 9));have O1:=World.ownsRow_made (base:=w.heap.size) (e:=9) (size:=1) w #[] 0 (Nat.le_refl _) (by simp only [maxLen]; omega) rfl;have RA:Reads (w.alloc (.cells #[] 9)) w.heap.size 1 (some ad) l.length (strv l):=HRR.out.below F1.out.b;have hll:=HL.out;go_wp2_with (at_builtin; refine wpList_append_any (w.alloc (.cells #[] 9)) rfl _ _ 26 rfl w.heap.size 9 i0 _ 1 16 Tryz.underlying26 hi0 hz0 hz1 hz2 rfl (by decide) (.slice (some ⟨w.heap.size,0,none⟩) 0 0) 0 [] rfl O1 w.heap.size (some ad) l.length c (strv l) rfl RA (strv_one _) (by simp only [maxLen]; omega) (by omega) F1.out.b.size ?_; intro v2 w2 own2 hg2 _; rw [Nat.zero_add,List.nil_append] at own2; obtain ⟨A2,c2,rfl,_,_,_⟩:=own_form own2; have H2:=ι own2; have HG:=ι (F1.out.b.grown hg2 F1.out.b.size (fun k e=>Nat.le_of_eq (Option.some.inj e))); clear own2 hg2)
  exact HP.out A2 c2 _ HG.out H2.out
theorem own_cut {w:World} {base n c:Nat} {e:TypeId} {A:Option Addr} {xs:List Value} (h:w.ownsRow base e 1 (.slice A (n+1) c) (n+1) xs):w.ownsRow base e 1 (.slice A n c) n (xs.take n):=by
 obtain ⟨h1,⟨h2,_⟩|⟨g,cap,cur,h2,h3,h4,h5,h6,h7,h8⟩⟩:=h
 ·cases h2
 ·injection h2 with e1 e2 e3
  subst e1;subst e3;refine ⟨by rw [List.length_take]; omega,.inr ⟨g,c,cur,rfl,h3,h4,by omega,h6,h7,?_⟩⟩;rw [←h8,List.take_take]
  congr 1
  omega
def mcount (D:List Trie.KV) (I:List UInt8→Int):Nat:=D.countP fun x=>decide (I x.1=0)
def markI (I:List UInt8→Int) (s:List UInt8) (q:Int):List UInt8→Int:=fun n=>if n=s then q else I n
theorem mcount_le {I:List UInt8→Int} {s:List UInt8} {q:Int} (hq:q≠0) (D:List Trie.KV):mcount D (markI I s q)≤mcount D I:=by
 unfold mcount;refine List.countP_mono_left fun x _ h=> ?_;have h:=of_decide_eq_true h;refine decide_eq_true ?_;unfold markI at h
 split at h
 ·exact absurd h hq
 ·exact h
theorem mcount_mark {I:List UInt8→Int} {s:List UInt8} {q:Int} (hq:q≠0) (h0:I s=0):∀ {D:List Trie.KV},(lookB D s).isSome=true→mcount D (markI I s q)+1≤mcount D I
 | [],h=>by cases h
 |x::D,h=>by
  rw [lookB] at h;have e:∀ J:List UInt8→Int,mcount (x::D) J=mcount D J+if J x.1=0 then 1 else 0:=fun J=>by
   unfold mcount;rw [List.countP_cons];simp only [decide_eq_true_eq]
  rw [e,e];by_cases hk:s=x.1
  ·have h1:markI I s q x.1≠0:=by unfold markI; rw [if_pos hk.symm]; exact hq
   rw [if_neg h1,if_pos (by rw [←hk]; exact h0)]
   have:=mcount_le (I:=I) (s:=s) hq D
   omega
  ·rw [if_neg hk] at h;have ih:=mcount_mark hq h0 h;have h1:markI I s q x.1=I x.1:=by unfold markI; rw [if_neg (fun e=>hk e.symm)]
   rw [h1];omega
theorem mcount_all (D:List Trie.KV) (I:List UInt8→Int):mcount D I≤D.length:=List.countP_le_length
theorem nodeOf_K16 (D:List Trie.KV) (k:List UInt8):(nodeOf D k).1.2.2.2.length=16:=by
 unfold nodeOf
 split
 ·rfl
 ·exact decN_K _
def kidsOf (D:List Trie.KV) (s:List UInt8):List (List UInt8):=if (nodeOf D s).2=0 then kidsW (nodeOf D s).1.2.2.2 else []
theorem kidsOf_len (D:List Trie.KV) (s:List UInt8):(kidsOf D s).length≤16:=by
 unfold kidsOf
 split
 ·have h1:(nodeOf D s).1.2.2.2.length=16:=nodeOf_K16 D s;unfold kidsW;exact Nat.le_trans (List.length_filter_le _ _) (by omega)
 ·simp
structure RInv (D:List Trie.KV) (roots:List (List UInt8)) (I:List UInt8→Int) (wt:List (List UInt8)):Prop where
 nn:∀ s,0≤I s
 mem:∀ s,0<I s→(lookB D s).isSome=true
 root:∀ s∈roots,(lookB D s).isSome=true→0<I s∨s∈wt
 kid:∀ s,0<I s→∀ k∈kidsOf D s,(lookB D k).isSome=true→0<I k∨k∈wt
theorem RInv.start (D:List Trie.KV) (roots:List (List UInt8)):RInv D roots (fun _=>0) roots:=
 ⟨fun _=>Int.le_refl _,fun s h=>by simp at h,fun s h _=> .inr h,fun s h=>by simp at h⟩
theorem RInv.skip {D:List Trie.KV} {roots:List (List UInt8)} {I:List UInt8→Int} {pre:List (List UInt8)} {s:List UInt8} (h:RInv D roots I (pre++ [s])) (hs:(lookB D s).isSome=false∨0<I s):RInv D roots I pre:=by
 have key:∀ k,(lookB D k).isSome=true→0<I k∨k∈pre++ [s]→0<I k∨k∈pre:=fun k hk hh=>by
  rcases hh with hh|hh
  ·exact .inl hh
  ·rcases List.mem_append.1 hh with hh|hh
   ·exact .inr hh
   ·rw [List.mem_singleton] at hh;subst hh;rcases hs with hs|hs
    ·rw [hs] at hk; cases hk
    ·exact .inl hs
 exact ⟨h.nn,h.mem,fun k hk h1=>key k h1 (h.root k hk h1),fun q hq k hk h1=>key k h1 (h.kid q hq k hk h1)⟩
theorem RInv.mark {D:List Trie.KV} {roots:List (List UInt8)} {I:List UInt8→Int} {pre:List (List UInt8)} {s:List UInt8} (h:RInv D roots I (pre++ [s])) (hs:(lookB D s).isSome=true):RInv D roots (markI I s 1) (pre++kidsOf D s):=by
 have one:∀ k,markI I s 1 k=if k=s then 1 else I k:=fun k=>rfl;have key:∀ k,0<I k∨k∈pre++ [s]→0<markI I s 1 k∨k∈pre++kidsOf D s:=fun k hh=>by
  by_cases e:k=s
  ·exact .inl (by rw [one,if_pos e]; omega)
  ·rcases hh with hh|hh
   ·exact .inl (by rw [one,if_neg e]; exact hh)
   ·rcases List.mem_append.1 hh with hh|hh
    ·exact .inr (List.mem_append_left _ hh)
    ·rw [List.mem_singleton] at hh; exact absurd hh e
 refine ⟨fun k=> ?_,fun k hk=> ?_,fun k hk h1=>key k (h.root k hk h1),fun q hq k hk h1=> ?_⟩
 ·rw [one]; split
  ·omega
  ·exact h.nn k
 ·rw [one] at hk
  split at hk
  ·rename_i e; rw [e]; exact hs
  ·exact h.mem k hk
 ·by_cases e:q=s
  ·subst e; exact .inr (List.mem_append_right _ hk)
  ·rw [one,if_neg e] at hq;exact key k (h.kid q hq k hk h1)
theorem IMap.not_own {W:World} {mb:Nat} {I:List UInt8→Int} (h:IMap W mb I) {base n sz:Nat} {e:TypeId} {v:Value} {xs:List Value} (ho:W.ownsRow base e sz v n xs):v.ownBlock≠some mb:=by
 rcases ho.2 with ⟨e1,_⟩|⟨q,cap,cur,e1,_,hh,_⟩
 ·rw [e1]; intro e; cases e
 ·rw [e1];intro e
  have:=Option.some.inj e
  subst this;obtain ⟨vs,⟨E,cl,h1,_⟩,_⟩:=h.ex;rw [h1] at hh;cases hh
theorem IMap.offR {W W':World} {mb:Nat} {I:List UInt8→Int} (h:IMap W mb I) {row:Option Nat} (hg:W.grownBy W' row) (hne:row≠some mb):IMap W' mb I:=by
 obtain ⟨vs,h1,h2⟩:=h.ex;exact ⟨vs,h1.kept (hg.block mb h1.lt (fun e=>hne e.symm)),h2⟩
structure RW (w W:World) (D:List Trie.KV) (roots:List (List UInt8)) (mb:Nat) (I:List UInt8→Int) (wt:List (List UInt8)) (A:Option Addr) (n c:Nat):Prop where
 len:n=wt.length
 bl:Below w.heap.size w W
 im:IMap W mb I
 own:W.ownsRow w.heap.size 9 1 (.slice A n c) n (strv wt)
 inv:RInv D roots I wt
 lo:w.heap.size≤mb
def ReachEnd (w:World) (D:List Trie.KV) (roots:List (List UInt8)) (e:Ending) (w':World):Prop:=
 ∃ mb I,e= .returned (.map (some mb))∧IMap w' mb I∧RInv D roots I []∧Below w.heap.size w w'∧w.heap.size≤mb
theorem store_reached (w:World) (g b:Nat) (D:List Trie.KV) (h:StoreP w g b D) (hs:∀ x∈D,x.2.length≤900000) (roots:List (List UInt8)) (A:Option Addr) (c:Nat) (HR:Reads w w.heap.size 1 A roots.length (strv roots)) (hl:17*D.length+roots.length≤90000):
  Calls Tryz.prog 104 #[.pointer (some ⟨g,0,none⟩),.slice A roots.length c] w (ReachEnd w D roots):=by
 have HP:Hid (∀ mb I w',IMap w' mb I→RInv D roots I []→Below w.heap.size w w'→w.heap.size≤mb→ReachEnd w D roots (.returned (.map (some mb))) w'):=ι (fun mb I w' h1 h2 h3 h4=>⟨mb,I,rfl,h1,h2,h3,h4⟩);generalize ReachEnd w D roots=P at HP ⊢;have HSt:=ι h;have HSh:=ι hs;have HL:=ι hl;have HCl:=ι (fun W (hW:Below w.heap.size w W)=>clone_strsO W roots (by omega) A c ((HR.below hW).more hW.size));unfold CloneSEnd at HCl;have hmm:=@run_makeMap Tryz.prog;clear h hs hl HR;go_enter Tryz.func104,Tryz.ntmps104
 go_upto_region 2 with fail
 have HM1:=ι (IMap.made w 0);have HB1:Hid (Below w.heap.size w (w.alloc (.map #[] 0))):=ι ((Below.refl _ w).alloc (Nat.le_refl _) _);generalize w.alloc (.map #[] 0)=w1 at HM1 HB1 ⊢;obtain ⟨mb,hmb⟩:∃ mb,w.heap.size=mb:=⟨_,rfl⟩
 have HMB:=ι (Nat.le_of_eq hmb);rw [hmb] at HM1 ⊢;clear hmb;go_wp2_with fail
 refine (HCl.out _ HB1.out).mono ?_;rintro e w2 ⟨A2,c2,rfl,hb2,own2⟩;have HR2:Hid (RW w w2 D roots mb (fun _=>0) roots A2 roots.length c2):=ι ⟨rfl,HB1.out.nxt hb2,HM1.out.next hb2,own_lower own2 HB1.out.size,RInv.start D roots,HMB.out⟩;clear hb2 own2 HM1 HB1 HCl;go_wp2_with fail
 refine wp_loop_ghost_k (fun k a wr=>∀ Φ:Act→Prop,(∀ ⦃s1 s2 s3 s4 s7 s8 s9 s0 s5 s6 a0 a2 a3 a4 a5 a6 a7 a8 a9 b0 b1 b2 b3 b4 b5 b6 b7 b8 b9 c1 c3 c4 c5 c6 c7 d0 d1 d2 d3 d4 d5 d6 d7 d8 d9 e4 e5 e6 e7 e8 e9 f0 f1 f2 f3 f4 f5 f6 f7 f8:Value⦄ (wt:List (List UInt8)) (I:List UInt8→Int) (A:Option Addr) (n c:Nat),(17*mcount D I+wt.length≤k∧17*mcount D I+wt.length≤90000∧RW w wr D roots mb I wt A n c)→Φ {tmps:=#[.pointer (some ⟨g,0,none⟩),s1,s2,s3,s4,.map (some mb),.slice A n c,s7,s8,s9,s0,s5,s6,a0,a2,a3,a4,a5,a6,a7,a8,a9,b0,b1,b2,b3,b4,b5,b6,b7,b8,b9,c1,c3,c4,c5,c6,c7,d0,d1,d2,d3,d4,d5,d6,d7,d8,d9,e4,e5,e6,e7,e8,e9,f0,f1,f2,f3,f4,f5,f6,f7,f8],defers:= []})→Φ a) (17*D.length+roots.length) ?_ ?_
 ·refine fun Φ hΦ=>hΦ (roots) (fun _=>0) (A2) (roots.length) (c2) ?_
  have:=mcount_all D (fun _=>0)
  exact ⟨by omega,by have:=HL.out; omega,HR2.out⟩
 ·intro k1 a1 wr1 hI1 J1 K1 hJ1 hK1;refine hI1 (fun a=>Code.wp _ _ _ a _) ?_;clear hI1 a1;iterate 60 (intro _)
  intro wt I A n c hrel
  show Code.wp _ _ _ _ _;obtain ⟨h1,h2,hR⟩:=hrel;rcases List.eq_nil_or_concat wt with rfl|⟨pre,s,rfl⟩
  ·obtain rfl:n=0:=hR.len;have HE:=ι hR;clear h1 h2 hR;go_wp2_with fail
   exact HP.out _ _ _ HE.out.im HE.out.inv HE.out.bl HE.out.lo
  ·rw [List.concat_eq_append] at h1 h2 hR;have hn:=hR.len;rw [List.length_append,List.length_singleton] at h1 h2 hn;subst hn;have own:=hR.own;have R1:Reads wr1 wr1.heap.size 1 A (pre++ [s]).length (strv (pre++ [s])):=by
    rw [List.length_append,List.length_singleton];exact Reads.of_own own
   obtain ⟨ad,off,rfl,hbl,hcell⟩:=few_cell R1 (i:=pre.length) (by simp);have q0:=hcell wr1 (Below.refl _ _);rw [List.getElem_append_right (Nat.le_refl _)] at q0;simp only [Nat.sub_self,List.getElem_cons_zero] at q0;obtain ⟨_,_,e0,_,hc0,_⟩:=own_form own;injection e0 with e1 e2 e3
   subst e1;subst e3;have own':=own_cut own;rw [show (strv (pre++ [s])).take pre.length=strv pre by simp [strv]] at own';have HI:=ι (And.intro h1 (And.intro h2 hR));have HO:=ι own';have hp:pre.length≤90000:=by omega
   have hci:((pre.length:Int)≤(c:Int)):=by omega
   have hci2:((pre.length:Int)+1≤(c:Int)):=by omega
   have HSt1:=ι (HSt.out.next hR.bl);obtain ⟨Av,nv,cv,_,_,hlk⟩:=HSt1.out.map.get Tryz.underlying176 s;have lk:=hlk wr1 (Below.refl _ _);simp only [ss] at lk;have c0:wr1.cell? ⟨g,0,none⟩=some (.map (some b)):=HSt1.out.blk.cell 0;have lk2:=hR.im.get Tryz.underlying60 s (Below.refl _ _);have hnn:=hR.inv.nn s;clear h1 h2 own own' R1 hcell hbl hR hlk;cases hD:(lookB D s).isSome with
   |false=>
    rw [hD] at lk;have HDs:=ι hD;clear hD lk2 hnn;go_wp2_with fail
    refine Handed.intro (17*mcount D I+pre.length) ?_ (hJ1 _ _ _ (fun Φ hΦ=>hΦ (pre) (I) (some ⟨ad,off,none⟩) (pre.length) (c) ?_))
    ·have:=HI.out.1; omega
    exact ⟨Nat.le_refl _,by have:=HI.out.2.1; omega,rfl,HI.out.2.2.bl,HI.out.2.2.im,HO.out,HI.out.2.2.inv.skip (.inl HDs.out),HI.out.2.2.lo⟩
   |true=>
    rw [hD] at lk;have HDs:=ι hD;clear hD;by_cases hI:0<I s
    ·have HIs:=ι hI;clear hnn;go_wp2_with fail
     refine Handed.intro (17*mcount D I+pre.length) ?_ (hJ1 _ _ _ (fun Φ hΦ=>hΦ (pre) (I) (some ⟨ad,off,none⟩) (pre.length) (c) ?_))
     ·have:=HI.out.1; omega
     exact ⟨Nat.le_refl _,by have:=HI.out.2.1; omega,rfl,HI.out.2.2.bl,HI.out.2.2.im,HO.out,HI.out.2.2.inv.skip (.inr HIs.out),HI.out.2.2.lo⟩
    ·have h0:I s=0:=by omega
     have HIs:=ι h0;rw [h0] at lk2;obtain ⟨vs,hvm,hve⟩:=HI.out.2.2.im.store s 1;have HV:=ι (And.intro hvm hve);clear hvm hve hI h0 hnn;go_upto_region 9 with (at_mapUpdate; refine wpList_mapUpdate_is _ rfl _ _ _ 60 rfl ss_type _ Tryz.underlying60 mb vs HV.out.1 s (.int .i64 1) rfl rfl rfl ?_; intro w3 hm2 hg2 hs2; have H3:=ι (And.intro hm2 (And.intro hg2 hs2)); clear hm2 hg2 hs2)
     have HB3:Hid (Below w.heap.size w w3):=ι (HI.out.2.2.bl.grown H3.out.2.1 HI.out.2.2.bl.size (fun k e=>by have:=Option.some.inj e; have:=HI.out.2.2.lo; omega));have HM3:Hid (IMap w3 mb (markI I s 1)):=ι (HV.out.2 _ H3.out.1);have HO3:=ι (HO.out.kept H3.out.2.1 (.inr (HI.out.2.2.im.not_own HO.out)));have HMk:Hid (RInv D roots (markI I s 1) (pre++kidsOf D s)):=ι (HI.out.2.2.inv.mark HDs.out);have HMc:Hid (17*mcount D (markI I s 1)+17≤17*mcount D I):=ι (by have:=mcount_mark (q:=1) (by omega) HIs.out (D:=D) HDs.out; omega);have HNo:=ι (store_Node w3 g b D (HSt.out.next HB3.out) s HSh.out);have hK:=nodeOf_K16 D s;have HKo:Hid (kidsOf D s=if (nodeOf D s).2=0 then kidsW (nodeOf D s).1.2.2.2 else []):=ι rfl;have HKl:=ι (kidsOf_len D s);generalize kidsOf D s=kd at *;generalize nodeOf D s=nd at *;obtain ⟨⟨k,p,v,K⟩,ec⟩:=nd;unfold DecNEnd at HNo;simp only at HNo hK HKo;have HK:=ι hK;have HSz:=ι (nodeV_size (k:=k) (p:=p) (v:=v) hK);have SZ:(Tryz.prog.info? 133).map (·.size)=some (nodeV k p v K).toArray.size:=by rw [List.size_toArray,HSz.out]; exact info_node
     have HON:=nodeV_one k p v K;clear lk lk2 hK c0 H3 HV;go_wp2_with fail
     refine HNo.out.mono ?_;rintro e w4 ⟨rfl,hb4⟩;have HB4:=ι (HB3.out.nxt hb4);have HM4:=ι (HM3.out.next hb4);have HO4:=ι (own_below HO3.out hb4);have F6:=Live.ha (ι (Live.start w4)) #[ζ,ε,ε,ε,ε,ε,ε,ε,ε,ε,ε,ε,ε,ε,ε,ε,ε,ε,ε] 133;have TH:(w4.alloc (.cells #[ζ,ε,ε,ε,ε,ε,ε,ε,ε,ε,ε,ε,ε,ε,ε,ε,ε,ε,ε] 133)).there w4.heap.size 0 (nodeV k p v K).toArray.size:=by
      rw [show (nodeV k p v K).toArray.size=19 by rw [List.size_toArray]; exact HSz.out];exact F6.out.there 0 19 rfl (by decide)
     clear hb4 HNo HM3 HO3 HB3;go_upto_region 10 with ((with_reducible refine at_put 54 ?_); refine wpList_store_mid rfl 133 _ _ rfl w4.heap.size 0 (nodeV k p v K).toArray rfl rfl TH SZ HON ?_)
     have F7:=Live.hall F6 0 (nodeV k p v K).toArray.toList rfl HSz.out.symm;generalize World.setCells _ w4.heap.size 0 _=W7 at F7 ⊢;have HB7:=ι (HB4.out.nxt F7.out.b);have HM7:=ι (HM4.out.next F7.out.b);have HO7:=ι (own_below HO4.out F7.out.b);have RNG:W7.rangeAt w4.heap.size 0 (nodeV k p v K):=Blk.range0 (F7.out.blk 0 rfl);have SZ2:(Tryz.prog.info? 133).map (·.size)=some (nodeV k p v K).length:=by rw [HSz.out]; exact info_node
     clear HB4 HM4 HO4 F6 F7 TH SZ;generalize w4.heap.size=nb at RNG ⊢;by_cases hec:ec=0
     ·subst hec;rw [if_pos rfl] at HKo;have HKd:Hid (Calls Tryz.prog 138 #[.agg (nodeV k p v K).toArray] W7 (KidsEnd W7 K)):=ι (node_Kids W7 (.int .i64 k) (.string ⟨p.toArray⟩) (.string ⟨v.toArray⟩) rfl rfl rfl K HK.out);have hkl:(kidsW K).length≤16:=by have:=HKl.out; rw [HKo.out] at this; exact this
      obtain ⟨i0,hi0,hz0,hz1,hz2⟩:=info_parts info_str;generalize nodeV k p v K=NV at *;go_wp2_with (first|((with_reducible refine at_op 59 ?_); refine wpList_load_mid rfl 133 _ rfl nb 0 rfl NV _ RNG Tryz.underlying133 rfl SZ2 ?_)|(go_at_call 138; refine HKd.out.mono ?_; rintro e w8 ⟨A8,c8,n8,rfl,hn8,own8,hb8⟩; obtain rfl:=hn8; have HB8:=ι (HB7.out.nxt hb8); have HM8:=ι (HM7.out.next hb8); have HO8:=ι (own_below HO7.out hb8); have R8:=ι (Reads.of_own own8); clear own8 hb8)|(at_builtin; refine wpList_append_any w8 rfl _ _ 26 rfl w.heap.size 9 i0 _ 1 16 Tryz.underlying26 hi0 hz0 hz1 hz2 rfl (by decide) (.slice (some ⟨ad,off,none⟩) pre.length c) pre.length (strv pre) rfl HO8.out w8.heap.size A8 (kidsW K).length c8 (strv (kidsW K)) rfl R8.out (strv_one _) (by simp only [maxLen]; omega) (by omega) HB8.out.size ?_; intro v9 w9 own9 hg9 _; obtain ⟨A9,c9,rfl,_,_,_⟩:=own_form own9; have H9:=ι (And.intro own9 hg9); clear own9 hg9))
      have hap:strv pre++strv (kidsW K)=strv (pre++kidsW K):=by simp [strv]
      have hown:=H9.out.1;rw [hap] at hown;refine Handed.intro (17*mcount D (markI I s 1)+(pre++kidsW K).length) ?_ (hJ1 _ _ _ (fun Φ hΦ=>hΦ (pre++kidsW K) (markI I s 1) (A9) (pre.length+(kidsW K).length) (c9) ?_))
      ·rw [List.length_append]
       have:=HI.out.1; have:=HMc.out; omega
      refine ⟨Nat.le_refl _,by rw [List.length_append]; have:=HI.out.2.1; have:=HMc.out; omega,(List.length_append).symm,HB8.out.grown H9.out.2 HB8.out.size (fun k e=>(HO8.out.lt k e).1),HM8.out.offR H9.out.2 (HM8.out.not_own HO8.out),hown,?_,HI.out.2.2.lo⟩;rw [←HKo.out];exact HMk.out
     ·rw [if_neg hec] at HKo;have hec1:((ec:Int)==0)=false:=by simp; exact hec
      clear hec;go_wp2_with fail
      refine Handed.intro (17*mcount D (markI I s 1)+pre.length) ?_ (hJ1 _ _ _ (fun Φ hΦ=>hΦ (pre) (markI I s 1) (some ⟨ad,off,none⟩) (pre.length) (c) ?_))
      ·have:=HI.out.1; have:=HMc.out; omega
      refine ⟨Nat.le_refl _,by have:=HI.out.2.1; have:=HMc.out; omega,rfl,HB7.out,HM7.out,HO7.out,?_,HI.out.2.2.lo⟩
      have:=HMk.out
      rw [HKo.out,List.append_nil] at this;exact this
end
section
open Go.RowKit Go.Instr Go.ChangeMaps
attribute [local go_sem] ba_get ByteArray.mk_append_mk
theorem KnotP.grown {w w1:World} {k:Nat} {t:Trie.T} {x:Value} (h:KnotP w t x) (hg:w.grownBy w1 (some k)) (hk:∀ cs,¬Blk w k 136 cs):KnotP w1 t x:=by
 induction h with
 |nil=>exact .nil
 |knot t b ps h1 h2 h3 _ ih=>exact .knot t b ps h1 h2 (h3.grown hg (fun e=>by injection e with e; subst e; exact hk _ h3)) ih
theorem BMap.no_blk {w:World} {b:Nat} {D:List Trie.KV} (h:BMap w b D) (t:TypeId) (cs:Array Value):¬Blk w b t cs:=by
 obtain ⟨vs,⟨E,cl,h1,_⟩,_⟩:=h.ex;intro h2;unfold Blk at h2;rw [h2] at h1;cases h1
theorem TrieP.grown {w w1:World} {b:Nat} {D:List Trie.KV} {t:Trie.T} {v:Value} (h:TrieP w t v) (hm:BMap w b D) (hg:w.grownBy w1 (some b)):TrieP w1 t v:=by
 obtain ⟨h1,g,x,h2,h3,h4⟩:=h;exact ⟨h1,g,x,h2,h3.grown hg (fun e=>by injection e with e; subst e; exact hm.no_blk _ _ h3),h4.grown hg (fun cs=>hm.no_blk _ cs)⟩
theorem BMap.tbl {w w1:World} {b:Nat} {D:List Trie.KV} (h:BMap w b D) (hT:Tbl w) (hg:w.grownBy w1 (some b)):Tbl w1:=by
 refine hT.grown hg ?_;obtain ⟨vs,hm,_⟩:=h.ex;refine Nat.pos_of_ne_zero fun e=> ?_;subst e
 have:=hT 0 (by omega)
 rw [hm.no_cell _ rfl] at this;cases this
theorem Reads.off {w w1:World} {b B n:Nat} {D:List Trie.KV} {A:Option Addr} {xs:List Value} (hr:Reads w B 1 A n xs) (hB:B≤w.heap.size) (h:BMap w b D) (hg:w.grownBy w1 (some b)):Reads w1 B 1 A n xs:=by
 obtain ⟨vs,hm,_⟩:=h.ex;exact hr.off_map hm hB hg
def saveD (D:List Trie.KV) (l:List (List UInt8)):List Trie.KV:=l.foldl putS D
theorem saveD_take (D:List Trie.KV) (l:List (List UInt8)) (i:Nat) (h:i<l.length):saveD D (l.take (i+1))=putS (saveD D (l.take i)) l[i]:=by
 unfold saveD;rw [List.take_succ_eq_append_getElem h,List.foldl_append];rfl
theorem trie_Save (w:World) (t:Trie.T) (v:Value) (h:TrieP w t v) (hc:Trie.count t≤20000) (hs:∀ x∈toldW allW t,x.length≤900000) (g b:Nat) (D:List Trie.KV) (HS:StoreP w g b D) (hT:Tbl w):
  Calls Tryz.prog 52 #[v,.pointer (some ⟨g,0,none⟩)] w fun e w'=>e= .returned (.string ⟨(Trie.sumT t).toArray⟩)∧StoreP w' g b (saveD D (toldW allW t))∧w.grownBy w' (some b):=by
 have HP:Hid (∀ w',StoreP w' g b (saveD D (toldW allW t))→w.grownBy w' (some b)→(fun e w'=>e=Ending.returned (.string ⟨(Trie.sumT t).toArray⟩)∧StoreP w' g b (saveD D (toldW allW t))∧w.grownBy w' (some b)) (Ending.returned (.string ⟨(Trie.sumT t).toArray⟩)) w'):=ι (fun w' h1 h2=>⟨rfl,h1,h2⟩);generalize (fun e w'=>e=Ending.returned (.string ⟨(Trie.sumT t).toArray⟩)∧StoreP w' g b (saveD D (toldW allW t))∧w.grownBy w' (some b))=P at HP ⊢;have HNo:=ι (trie_Nodes w t v h hc);have HTl:Hid ((toldW allW t).length≤100000):=ι (by
  rw [toldW,textsD,List.length_map];exact Trie.goT_short h.1.wf hc _ _)
 have HTr:=ι h;obtain ⟨_,vb,vx,rfl,_⟩:=id h;have HSt:=ι HS;have HTb:=ι hT;have HRt:=ι (fun W (hW:TrieP W t (.pointer (some ⟨vb,0,none⟩)))=>trie_Root W t _ hW);have HSh:=ι hs;clear h HS hT hc hs;generalize toldW allW t=l at *;generalize Trie.sumT t=sm at *;go_enter Tryz.func52,Tryz.ntmps52
 go_wp2_with fail
 refine HNo.out.mono ?_;rintro e w1 ⟨A1,n1,c1,rfl,hn1,own1,hb1⟩;obtain rfl:=hn1;have R1:=ι (Reads.of_own own1);have HB1:=ι hb1;have S1:=ι (HSt.out.next hb1);have T1:=ι (HTr.out.next hb1);have Tb1:=ι (HTb.out.next hb1);clear own1 hb1 HNo HTr HTb HSt;go_wp2_with fail
 refine wp_loop_ghost_k (fun k a wr=>∀ Φ:Act→Prop,(∀ ⦃s2 s3 s4 s5 s6 s7 a2 a3 a4 a5 a6 a7 a8 a9 b0:Value⦄ (i:Nat),(i+k=l.length∧StoreP wr g b (saveD D (l.take i))∧w1.grownBy wr (some b))→Φ {tmps:=#[.pointer (some ⟨vb,0,none⟩),.pointer (some ⟨g,0,none⟩),s2,s3,s4,s5,s6,s7,.slice A1 l.length c1,.int .i64 (l.length:Int),.int .i64 (i:Int),a2,a3,a4,a5,a6,a7,a8,a9,b0],defers:= []})→Φ a) (l.length) ?_ ?_
 ·refine fun Φ hΦ=>hΦ (0) ?_;exact ⟨by omega,by simpa [saveD] using S1.out,⟨rfl,rfl,rfl,Nat.le_refl _,fun _ _ _=>rfl⟩⟩
 ·intro k1 a1 wr1 hI1 J1 K1 hJ1 hK1;refine hI1 (fun a=>Code.wp _ _ _ a _) ?_;clear hI1 a1;intro s0 s1 s2 s3 s4 s5 s6 s7 s8 s9 a0 a2 a3 a4 a5 i hrel
  show Code.wp _ _ _ _ _;obtain ⟨h1,hst,hg⟩:=hrel;by_cases hi:i<l.length
  ·have R2:Reads wr1 wr1.heap.size 1 A1 l.length (strv l):=(R1.out.off (Nat.le_refl _) S1.out.map hg).more hg.size;obtain ⟨ad,off,rfl,hbl,hcell⟩:=few_cell R2 hi;have q0:=hcell _ (Below.refl _ _);have hi1:(i:Int)<l.length:=by omega
   have hi0:(0:Int)≤i:=by omega
   have hl:=HTl.out;have hi3:i≤100000:=by omega
   have hx:=HSh.out _ (List.getElem_mem hi);have htk:=saveD_take D l i hi;have HI:=ι (And.intro h1 (And.intro hg htk));have HPu:=ι (store_Put wr1 g b _ hst l[i] hx (S1.out.map.tbl Tb1.out hg));clear h1 hst hg hcell R2 hx htk hbl;generalize saveD D (l.take i)=Di at *;generalize l[i]=x at *;go_wp2_with fail
   refine HPu.out.mono ?_;rintro e w2 ⟨rfl,s2,g2⟩;have H2:=ι (And.intro s2 g2);clear s2 g2 q0;go_wp2_with fail
   refine Handed.intro (l.length - (i+1)) ?_ (hJ1 _ _ _ (fun Φ hΦ=>hΦ (i+1) ?_))
   ·have:=HI.out.1; omega
   ·exact ⟨by have:=HI.out.1; omega,by rw [HI.out.2.2]; exact H2.out.1,HI.out.2.1.trans H2.out.2⟩
  ·have hi1:((i:Int)<l.length)=False:=by simp; omega
   rw [List.take_of_length_le (by omega)] at hst;have HE:=ι (And.intro hst hg);clear h1 hst hg hi;go_wp2_with fail
   refine (HRt.out _ (T1.out.grown S1.out.map HE.out.2)).mono ?_;rintro e w3 ⟨rfl,rfl⟩;go_wp2_with fail
   exact HP.out _ HE.out.1 ((grown_of_low _ HB1.out).trans HE.out.2)
def VersNewEnd (w:World) (e:Ending) (w':World):Prop:=
 ∃ (vb g b rb:Nat) (nt:Value),e= .returned (.pointer (some ⟨vb,0,none⟩))∧Blk w' vb 112 #[.pointer (some ⟨g,0,none⟩),.map (some rb),nt,.int .i64 (-1),ζ]∧StoreP w' g b []∧(∃ cl,w'.heap[rb]?=some (.map #[] cl))∧TrieP w' .nil nt∧Below w.heap.size w w'∧w.heap.size≤vb∧w.heap.size≤g∧w.heap.size≤b∧w.heap.size≤rb∧b≠rb
theorem vers_New (w:World):Calls Tryz.prog 10 #[] w (VersNewEnd w):=by
 have HP:Hid (∀ (vb g b rb:Nat) (nt:Value) w',Blk w' vb 112 #[.pointer (some ⟨g,0,none⟩),.map (some rb),nt,.int .i64 (-1),ζ]→StoreP w' g b []→(∃ cl,w'.heap[rb]?=some (.map #[] cl))→TrieP w' .nil nt→Below w.heap.size w w'→w.heap.size≤vb→w.heap.size≤g→w.heap.size≤b→w.heap.size≤rb→b≠rb→VersNewEnd w (.returned (.pointer (some ⟨vb,0,none⟩))) w'):=ι (fun vb g b rb nt w' h1 h2 h3 h4 h5 h6 h7 h8 h9 h10=>⟨vb,g,b,rb,nt,rfl,h1,h2,h3,h4,h5,h6,h7,h8,h9,h10⟩);generalize VersNewEnd w=P at HP ⊢;have hmm:=@run_makeMap Tryz.prog;go_enter Tryz.func10,Tryz.ntmps10
 go_wp2_with fail
 refine (store_New w).mono ?_;rintro e w1 ⟨g,b,rfl,hs,hb,hg0,hb0⟩;have HS:=ι (And.intro hs hb);have HG:=ι (And.intro hg0 hb0);have HR0:=ι hb.size;clear hs hb hg0 hb0;go_wp2_with fail
 have b2:Below w1.heap.size w1 (w1.alloc (.map #[] 0)):=(Below.refl _ w1).alloc (Nat.le_refl _) _;have m2:(w1.alloc (.map #[] 0)).heap[w1.heap.size]?=some (.map #[] 0):=heap_alloc_new w1 _;generalize hW:w1.alloc (.map #[] 0)=w2 at b2 m2 ⊢;have hl2:w1.heap.size<w2.heap.size:=by rw [←hW,World.size_alloc]; omega
 have HB2:=ι b2;have H2:=ι (And.intro m2 hl2);have HR1:Hid (w.heap.size≤w1.heap.size):=HR0;have HNe:Hid (b<w1.heap.size):=ι HS.out.1.map.lt;clear b2 m2 hl2 hW;generalize w1.heap.size=rb at H2 HR1 HNe ⊢;refine (trie_New w2).mono ?_;rintro e w3 ⟨nt,rfl,ht,hb3⟩;obtain ⟨_,tb,tx,rfl,_⟩:=id ht;have H3:=ι (And.intro ht hb3);clear ht hb3;go_wp2_with fail
 have b4:Below w3.heap.size w3 (w3.alloc (.cells #[.pointer (some ⟨g,0,none⟩),.map (some rb),.pointer (some ⟨tb,0,none⟩),.int .i64 (-1),ζ] 112)):=(Below.refl _ w3).alloc (Nat.le_refl _) _;refine HP.out _ g b rb _ _ (Blk.new w3 _ _) (((HS.out.1.next HB2.out).next H3.out.2).next b4) ⟨0,?_⟩ (H3.out.1.next b4) ?_ ?_ HG.out.1 HG.out.2 HR1.out (Nat.ne_of_lt HNe.out)
 ·rw [b4.block rb (Nat.lt_of_lt_of_le H2.out.2 H3.out.2.size),H3.out.2.block rb H2.out.2];exact H2.out.1
 ·exact ((HS.out.2.nxt HB2.out).nxt H3.out.2).nxt b4
 ·exact (((HS.out.2.nxt HB2.out).nxt H3.out.2)).size
end
namespace Trie
abbrev Ld:=T × Nat × Nat
def kidsLd (f:List UInt8→List UInt8→Nat→Nat→Ld) (K:List (List UInt8)) (at_:Nat→List UInt8):Nat→Nat→Nat→List T × Nat × Nat
 |0,m,c=>([],m,c)
 |n+1,m,c=>
  if K.getD (15 - n) []= [] then (.nil::(kidsLd f K at_ n m c).1,(kidsLd f K at_ n m c).2)
  else ((f (K.getD (15 - n) []) (at_ (15 - n)) m c).1::(kidsLd f K at_ n (f (K.getD (15 - n) []) (at_ (15 - n)) m c).2.1 (f (K.getD (15 - n) []) (at_ (15 - n)) m c).2.2).1,(kidsLd f K at_ n (f (K.getD (15 - n) []) (at_ (15 - n)) m c).2.1 (f (K.getD (15 - n) []) (at_ (15 - n)) m c).2.2).2)
def mkT (n:Nd) (ts:List T):T:=if n.1=1 then .leaf n.2.1 n.2.2.1 else if n.1=2 then .ext n.2.1 (ts.getD 0 .nil) else .branch n.2.2.1 fun i=>ts.getD i.val .nil
def itemLd (long m:Nat):Nat × Nat:=if long=0∨long % 2=1 then (m,4) else if 1024<m+1 then (m+1,2) else (m+1,0)
def kidAt (n:Nd) (pl:List UInt8) (i:Nat):List UInt8:=if n.1=2 then pl++n.2.1 else pl++ [UInt8.ofNat i]
def oddLd (n:Nd) (pl:List UInt8) (below:Bool):Bool:=(below && !decide (n.1=3))||decide (16<pl.length+n.2.1.length)||(decide (n.1=3) && !decide (n.2.2.2=zeroK) && decide (16≤pl.length+n.2.1.length))
def manyLd (n:Nd) (pl:List UInt8) (m:Nat):Nat × Nat:=if n.2.2.1= [] then (m,0) else itemLd (pl.length+n.2.1.length) m
def endLd (n:Nd) (r:List T × Nat × Nat):Ld:=if r.2.2=0 then (mkT n r.1,r.2.1,0) else (.nil,r.2.1,r.2.2)
def loadW (D:List Trie.KV):Nat→List UInt8→List UInt8→Bool→Nat→Nat→Ld
 |0,_,_,_,m,_=>(.nil,m,4)
 |f+1,sum,pl,below,m,c=>
  if c≠0 then (.nil,m,c)
  else if (nodeOf D sum).2≠0 then (.nil,m,(nodeOf D sum).2)
  else if oddLd (nodeOf D sum).1 pl below=true then (.nil,m,4)
  else if (manyLd (nodeOf D sum).1 pl m).2≠0 then (.nil,(manyLd (nodeOf D sum).1 pl m).1,(manyLd (nodeOf D sum).1 pl m).2)
  else endLd (nodeOf D sum).1 (kidsLd (fun s p m c=>loadW D f s p (decide ((nodeOf D sum).1.1=2)) m c) (nodeOf D sum).1.2.2.2 (kidAt (nodeOf D sum).1 pl) 16 (manyLd (nodeOf D sum).1 pl m).1 0)
end Trie
end Go.Proofs.YtnelhjfjkkdoaaaGreatDoor