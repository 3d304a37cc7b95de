import Derived.Test.YtnelhjfjkkdoaaaGreatDoorK18
import Derived.Shelf.Abstract
set_option linter.unusedSimpArgs false
set_option linter.unusedVariables false
set_option maxHeartbeats 4000000
set_option maxRecDepth 100000
namespace Go.Proofs.YtnelhjfjkkdoaaaGreatDoor
section
open Go.RowKit Go.Instr
attribute [local go_sem] ba_get ByteArray.mk_append_mk
attribute [local go_sem ↓] Go.wp_at_zero Go.wp_at_succ
namespace Trie
open Nib
def goT (may:List UInt8→Bool):T→List UInt8→List (List UInt8 × T)
 | .nil,_=> []
 | .leaf p v,pl=>if may pl then [(pl,.leaf p v)] else []
 | .ext p t,pl=>if may pl then (pl,.ext p t)::goT may t (pl++p) else []
 | .branch v kids,pl=>if may pl then (pl,.branch v kids)::(List.finRange 16).flatMap fun i=>goT may (kids i) (pl++ [hb i]) else []
structure At (pl:List UInt8) (t:T):Prop where
 wf:wf t
 fit:fit pl=true
 all:∀ q,Nib.fit q=true→look t q≠ []→(pl++q).length≤16∧(pl++q).length % 2=0∧(look t q).length≤32
theorem At.top {t:T} (h:Good t):At [] t:=⟨h.wf,rfl,fun q hq hl=>⟨(h.small q hq hl).1,(h.even q hq hl).1,(h.small q hq hl).2⟩⟩
theorem hb_fit (i:Fin 16):Nib.fit [hb i]=true:=by
 obtain ⟨_,e2⟩:=ix_of i;exact fit_cons'.2 ⟨e2,rfl⟩
theorem At.kid {pl:List UInt8} {v:List UInt8} {kids:Fin 16→T} (h:At pl (.branch v kids)) (i:Fin 16):At (pl++ [hb i]) (kids i):=by
 refine ⟨h.wf.1 i,fit_append.2 ⟨h.fit,hb_fit i⟩,fun q hq hl=> ?_⟩;obtain ⟨e1,e2⟩:=ix_of i
 have:=h.all (hb i::q) (fit_cons'.2 ⟨e2,hq⟩) (by simp only [look,hb,e1]; exact hl)
 simp only [look,hb,e1] at this;rw [List.append_assoc];exact this
theorem At.below {pl p:List UInt8} {t:T} (h:At pl (.ext p t)):At (pl++p) t:=by
 refine ⟨h.wf.2.2.2,fit_append.2 ⟨h.fit,h.wf.1⟩,fun q hq hl=> ?_⟩
 have:=h.all (p++q) (fit_append.2 ⟨h.wf.1,hq⟩) (by rw [look_ext]; exact hl)
 rw [look_ext] at this;rw [List.append_assoc];exact this
theorem At.small {pl:List UInt8} {t:T} (h:At pl t):Trie.small t:=fun q hq hl=>by
 have:=h.all q hq hl
 rw [List.length_append] at this;exact ⟨by omega,this.2.2⟩
theorem At.len {pl:List UInt8} {t:T} (h:At pl t) (hn:t≠ .nil):pl.length≤16:=by
 obtain ⟨q,g1,g2⟩:=look_some t h.wf (by cases t<;>simp_all [isNil])
 have:=(h.all q g1 g2).1
 rw [List.length_append] at this; omega
def goKids (may:List UInt8→Bool) (kids:Fin 16→T) (pl:List UInt8) (i:Nat):List (List UInt8 × T):=((List.finRange 16).take i).flatMap fun j=>goT may (kids j) (pl++ [hb j])
theorem goKids_succ (may:List UInt8→Bool) (kids:Fin 16→T) (pl:List UInt8) (i:Fin 16):goKids may kids pl (i.val+1)=goKids may kids pl i.val++goT may (kids i) (pl++ [hb i]):=by
 unfold goKids;rw [take_finRange,List.flatMap_append]; simp
theorem goKids_all (may:List UInt8→Bool) (kids:Fin 16→T) (pl:List UInt8):goKids may kids pl 16=(List.finRange 16).flatMap fun i=>goT may (kids i) (pl++ [hb i]):=by
 unfold goKids;rw [List.take_of_length_le (by simp)]
end Trie
theorem goKids_le (may:List UInt8→Bool) (kids:Fin 16→Trie.T) (pl:List UInt8) (i:Nat):(Trie.goKids may kids pl i).length≤(Trie.goKids may kids pl 16).length:=by
 unfold Trie.goKids
 conv=>rhs; rw [List.take_of_length_le (show (List.finRange 16).length≤16 by simp)]
 conv=>rhs; rw [←List.take_append_drop i (List.finRange 16),List.flatMap_append]
 rw [List.length_append]; omega
structure Visit (N:Nat) (w0:World) (f:FuncId) (caps:Array Value) (may:List UInt8→Bool) (I:List (List UInt8 × Trie.T)→World→Prop):Prop where
 enters:Enters Tryz.prog f
 low:∀ D W,I D W→Below w0.heap.size w0 W
 next:∀ D W W',I D W→Below W.heap.size W W'→I D W'
 calls:∀ D pl t x W,D.length≤N→I D W→t≠ .nil→Trie.At pl t→KnotP w0 t x→Calls Tryz.prog f (#[.string ⟨pl.toArray⟩,x]++caps) W fun e W'=>e= .returned (.bool (may pl))∧I (if may pl then D++ [(pl,t)] else D) W'
theorem flat_nil {α β:Type} (l:List α):(l.flatMap fun _=>([]:List β))= []:=by
 induction l with
 |nil=>rfl
 |cons a l ih=>simp
def WalkEnd (I:List (List UInt8 × Trie.T)→World→Prop) (D:List (List UInt8 × Trie.T)) (e:Ending) (w':World):Prop:=e= .returned (.tuple #[])∧I D w'
theorem walk_nil (f:FuncId) (caps:Array Value) (I:List (List UInt8 × Trie.T)→World→Prop) (D:List (List UInt8 × Trie.T)) (s:ByteArray) (W:World) (hI:I D W):
  Calls Tryz.prog 102 #[.pointer none,.string s,.func (.func f) #[] caps] W (WalkEnd I D):=by
 have HP:Hid (∀ w',W=w'→WalkEnd I D (.returned (.tuple #[])) w'):=ι (fun w' h=>by subst h; exact ⟨rfl,hI⟩);generalize WalkEnd I D=P at HP ⊢;clear hI;go_enter Tryz.func102,Tryz.ntmps102
 go_wp2
 go_end0
 exact HP.out _ rfl
theorem walk_loop (N:Nat) (w0:World) (f:FuncId) (caps:Array Value) (may:List UInt8→Bool) (I:List (List UInt8 × Trie.T)→World→Prop) (hnext:∀ D W W',I D W→Below W.heap.size W W'→I D W') (kids:Fin 16→Trie.T) (ps:List Value) (hps:ps.length=16) (pl:List UInt8) (hpl:pl.length≤1000)
  (hk:∀ i:Fin 16,KnotP w0 (kids i) (ps.getD i.val undef))
  (IH:∀ (i:Fin 16) (x:Value) (W:World) (D:List (List UInt8 × Trie.T)),(D++Trie.goT may (kids i) (pl++ [Trie.hb i])).length≤N→I D W→KnotP w0 (kids i) x→Calls Tryz.prog 102 #[x,.string ⟨(pl++ [Trie.hb i]).toArray⟩,.func (.func f) #[] caps] W (WalkEnd I (D++Trie.goT may (kids i) (pl++ [Trie.hb i]))))
  (D0:List (List UInt8 × Trie.T)) (W0:World) (hN:(D0++Trie.goKids may kids pl 16).length≤N) (hI:I D0 W0)
  (Q:Exit→Act→World→Prop)
  (hQ:∀ ⦃s0 s1 s3 s4 s5 s6 s7 s8 s9 s2 a0 a2 a3 a4 a5 a6 a7 a8 a9 b0 b1 b2 b3 b4 b5 b6 b7 b8 b9 c0 c1 c2 c3 c4 c5 c6 c7 c8 c9 d0 d1 d2 d3 d4 d5 d6 d7 d8 d9 e0 e1 e2 e3 e4:Value⦄ (W2:World),I (D0++Trie.goKids may kids pl 16) W2→Q (.exit 0) {tmps:=#[s0,s1,.func (.func f) #[] caps,s3,s4,s5,s6,s7,s8,s9,s2,a0,a2,a3,a4,a5,a6,a7,a8,a9,b0,b1,b2,b3,b4,b5,b6,b7,b8,b9,c0,c1,c2,c3,c4,c5,c6,c7,c8,c9,d0,d1,d2,d3,d4,d5,d6,d7,d8,d9,e0,e1,e2,e3,e4],defers:= []} W2)
  (s0 s3 s4 s5 s6 s7 s8 s9 s2 a0 a2 a3 a4 a5 a6 a7 a8 a9 b0 b1 b2 b3 b4 b5 b6 b7 b8 b9 c0 c1 c2 c3 c4 c5 c6 c7 c8 c9 d2 d3 d4 d5 d6 d7 d8 d9 e0 e1 e2 e3 e4:Value):
  Code.wp Tryz.prog (.loop (loopAt Tryz.f102 0)) Q {tmps:=#[s0,.string ⟨pl.toArray⟩,.func (.func f) #[] caps,s3,s4,s5,s6,s7,s8,s9,s2,a0,a2,a3,a4,a5,a6,a7,a8,a9,b0,b1,b2,b3,b4,b5,b6,b7,b8,b9,c0,c1,c2,c3,c4,c5,c6,c7,c8,c9,.agg ps.toArray,.int .i64 0,d2,d3,d4,d5,d6,d7,d8,d9,e0,e1,e2,e3,e4],defers:= []} W0:=by
 have HQ:=ι hQ;clear hQ;have Hk:=ι hk;clear hk;have HIH:=ι IH;clear IH;have HN:=ι hnext;clear hnext;have HNN:=ι hN;clear hN;refine wp_loop_ghost_k (fun k a wr=>∀ Φ:Act→Prop,(∀ ⦃s0 s3 s4 s5 s6 s7 s8 s9 s2 a0 a2 a3 a4 a5 a6 a7 a8 a9 b0 b1 b2 b3 b4 b5 b6 b7 b8 b9 c0 c1 c2 c3 c4 c5 c6 c7 c8 c9 d2 d3 d4 d5 d6 d7 d8 d9 e0 e1 e2 e3 e4:Value⦄ (i:Nat),(i+k=16∧I (D0++Trie.goKids may kids pl i) wr)→Φ {tmps:=#[s0,.string ⟨pl.toArray⟩,.func (.func f) #[] caps,s3,s4,s5,s6,s7,s8,s9,s2,a0,a2,a3,a4,a5,a6,a7,a8,a9,b0,b1,b2,b3,b4,b5,b6,b7,b8,b9,c0,c1,c2,c3,c4,c5,c6,c7,c8,c9,.agg ps.toArray,.int .i64 (i:Int),d2,d3,d4,d5,d6,d7,d8,d9,e0,e1,e2,e3,e4],defers:= []})→Φ a) (16) ?_ ?_
 ·refine fun Φ hΦ=>hΦ (0) ?_;exact ⟨rfl,by simpa [Trie.goKids] using hI⟩
 ·intro k1 a1 wr1 hI1 J1 K1 hJ1 hK1;refine hI1 (fun a=>Code.wp _ _ _ a _) ?_;clear hI1 a1;iterate 51 (intro _)
  intro i hrel
  show Code.wp _ _ _ _ _
  conv=>arg 2; whnf
  obtain ⟨h1,hI1⟩:=hrel;by_cases hi:i<16
  ·have hi1:(i:Int)<16:=by omega
   have hix:(0:Int)≤i:=by omega
   have HKn:=ι (Hk.out ⟨i,hi⟩);have HX:=fun w=>run_index_p ps hps i hi HKn.out.one w;have HI:=ι (And.intro h1 hI1);have HS:=ι (Trie.goKids_succ may kids pl ⟨i,hi⟩);have hx:(ps.getD i undef)= .pointer none∨∃ b,(ps.getD i undef)= .pointer (some ⟨b,0,none⟩):=by
    rcases HKn.out.form with ⟨_,h⟩|⟨b,_,_,h,_⟩
    ·exact .inl h
    ·exact .inr ⟨b,h⟩
   have cv:=conv1 wr1 (i:Int) hix (by omega);rw [show UInt8.ofNat ((i:Int)).toNat=UInt8.ofNat i by congr 1] at cv;have hsum:pl.length+1≤9223372036854775807:=by omega
   have HAl:Hid (I (D0++Trie.goKids may kids pl i) (wr1.alloc (.cells #[.int .u8 (i:Int)] 5))):=ι (HN.out _ _ _ hI1 (by go_grown));have HBd:Hid ((D0++Trie.goKids may kids pl i++Trie.goT may (kids ⟨i,hi⟩) (pl++ [Trie.hb ⟨i,hi⟩])).length≤N):=ι (by
    have h1:=HNN.out;have h2:=goKids_le may kids pl (i+1);have h3:=congrArg List.length HS.out;simp only [List.length_append] at h1 h3 ⊢;omega)
   have HC:=ι (HIH.out ⟨i,hi⟩ (ps.getD i undef) _ _ HBd.out HAl.out HKn.out);rw [show Trie.hb ⟨i,hi⟩=UInt8.ofNat i from rfl] at HC;clear h1 hI1;generalize ps.getD i undef=y at *;clear hx;go_wp2_with (go_at_call 102; refine HC.out.mono ?_; rintro e W3 ⟨rfl,hI3⟩)
   refine Handed.intro (16 - (i+1)) ?_ (hJ1 _ _ _ (fun Φ hΦ=>hΦ (i+1) ?_))
   ·have:=HI.out.1; omega
   ·refine ⟨by have:=HI.out.1; omega,?_⟩;rw [HS.out,←List.append_assoc];exact hI3
  ·have e16:i=16:=by omega
   subst e16;have O:=ι hI1;clear hI1 h1 hI;go_wp2
   exact HQ.out _ O.out
theorem z_16 {P:Prop} (h:P:=by
 go_wp2_with (with_reducible refine at_load 40 ?_; refine wpList_load_mid rfl 134 _ rfl g 19 rfl _ _ kr Tryz.underlying134 rfl SZQ ?_)
 refine HLoop.out _ W1 HBd.out HI1.out _ ?_ _ _ _ _ _ _ _ _ _ _ _ _ _ _ _ _ _ _ _ _ _ _ _ _ _ _ _ _ _ _ _ _ _ _ _ _ _ _ _ _ _ _ _ _ _ _ _ _ _ _ _;clear kr c0;intro s0 s1 s3 s4 s5 s6 s7 s8 s9 s10 s11 s12 s13 s14 s15 s16 s17 s18 s19 s20 s21 s22 s23 s24 s25 s26 s27 s28 s29 s30 s31 s32 s33 s34 s35 s36 s37 s38 s39 s40 s41 s42 s43 s44 s45 s46 s47 s48 s49 s50 s51 s52 s53 s54 W2 hI2;have HI2:=ι hI2;clear hI2;go_wp2
 go_end0
 exact HP.out _ HI2.out):P:=h
theorem trie_walk (N:Nat) (w0:World) (f:FuncId) (caps:Array Value) (may:List UInt8→Bool) (I:List (List UInt8 × Trie.T)→World→Prop) (HV:Visit N w0 f caps may I) (t:Trie.T):∀ (pl:List UInt8) (x:Value) (D:List (List UInt8 × Trie.T)) (W:World),(D++Trie.goT may t pl).length≤N→I D W→Trie.At pl t→KnotP w0 t x→
  Calls Tryz.prog 102 #[x,.string ⟨pl.toArray⟩,.func (.func f) #[] caps] W (WalkEnd I (D++Trie.goT may t pl)):=by
 have HE:=HV.enters;unfold Enters at HE;have HV0:=ι HV;clear HV;have stop:∀ (t:Trie.T) (pl:List UInt8) (x:Value) (D:List (List UInt8 × Trie.T)) (W:World),D.length≤N→I D W→Trie.At pl t→KnotP w0 t x→t≠ .nil→may pl=false→
   Calls Tryz.prog 102 #[x,.string ⟨pl.toArray⟩,.func (.func f) #[] caps] W (WalkEnd I D):=by
  intro t pl x D W hN hI ha hk hn hm;have HP:Hid (∀ w',I D w'→WalkEnd I D (.returned (.tuple #[])) w'):=ι (fun w' h=>⟨rfl,h⟩);have HC:=HV0.out.calls D pl _ _ W hN hI hn ha hk;rw [hm] at HC;obtain ⟨g,rfl⟩:=hk.ptr hn;have HC:=ι HC;generalize WalkEnd I D=P at HP ⊢;clear hI ha hk hm hN;rename_i HCold;clear HCold;go_enter Tryz.func102,Tryz.ntmps102
  go_wp2_with (go_at_fn f; refine HC.out.mono ?_; rintro e W1 ⟨rfl,hI1⟩)
  go_end0
  exact HP.out _ hI1
 induction t with
 |nil=>
  intro pl x D W hN hI ha hk;rcases hk.form with ⟨_,rfl⟩|⟨b,_,h,_⟩
  ·simp only [Trie.goT,List.append_nil];exact walk_nil f caps I D _ W hI
  ·exact absurd rfl h
 |leaf p v=>
  intro pl x D W hN hI ha hk;cases hm:may pl with
  |false=>
   rw [show Trie.goT may (.leaf p v) pl= [] by simp [Trie.goT,hm],List.append_nil];exact stop _ pl x D W (by rw [List.length_append] at hN; omega) hI ha hk (by simp) hm
  |true=>
   have HIH:∀ (i:Fin 16) (x:Value) (W:World) (D:List (List UInt8 × Trie.T)),(D++Trie.goT may (Trie.kidsT (.leaf p v) i) (pl++ [Trie.hb i])).length≤N→I D W→KnotP w0 (Trie.kidsT (.leaf p v) i) x→Calls Tryz.prog 102 #[x,.string ⟨(pl++ [Trie.hb i]).toArray⟩,.func (.func f) #[] caps] W (WalkEnd I (D++Trie.goT may (Trie.kidsT (.leaf p v) i) (pl++ [Trie.hb i]))):=by
    intro i x W D hN hI hk;rcases hk.form with ⟨_,rfl⟩|⟨b,_,h,_⟩
    ·rw [show Trie.goT may (Trie.kidsT (.leaf p v) i) (pl++ [Trie.hb i])= [] from rfl,List.append_nil];exact walk_nil f caps I D _ W hI
    ·exact absurd rfl h
   have HP:Hid (∀ w',I (D++ [(pl,Trie.T.leaf p v)]++Trie.goKids may (Trie.kidsT (Trie.T.leaf p v)) pl 16) w'→WalkEnd I (D++Trie.goT may (Trie.T.leaf p v) pl) (.returned (.tuple #[])) w'):=ι (fun w' h=>⟨rfl,by rw [Trie.goKids_all,List.append_assoc] at h; simpa [Trie.goT,hm,Trie.kidsT,Trie.noKids,flat_nil] using h⟩);have HBd:Hid ((D++ [(pl,Trie.T.leaf p v)]++Trie.goKids may (Trie.kidsT (Trie.T.leaf p v)) pl 16).length≤N):=ι (by
    have:D++ [(pl,Trie.T.leaf p v)]++Trie.goKids may (Trie.kidsT (Trie.T.leaf p v)) pl 16=D++Trie.goT may (Trie.T.leaf p v) pl:=by
     rw [Trie.goKids_all,List.append_assoc]; simp [Trie.goT,hm,Trie.kidsT,Trie.noKids,flat_nil]
    rw [this]; exact hN)
   have HC:=HV0.out.calls D pl _ _ W (by rw [List.length_append] at hN; omega) hI (by simp) ha hk;have hpl:=ha.len (by simp);rw [hm,if_pos rfl] at HC;obtain ⟨g,ps,rfl,hps,hbk,hks⟩:=blk_of_knot hk (by simp);have HC:=ι HC;have HLoop:=ι (walk_loop N w0 f caps may I HV0.out.next (Trie.kidsT (Trie.T.leaf p v)) ps hps pl (by omega) hks HIH);have HBK:=ι hbk;have Hps:=ι hps;have SZQ:(Tryz.prog.info? 134).map (·.size)=some ps.length:=by rw [hps]; exact info_ptrs
   generalize WalkEnd I (D++Trie.goT may (Trie.T.leaf p v) pl)=P at HP ⊢;clear hI ha hk hm hbk hps hks HIH hN;rename_i HCold;clear HCold;go_enter Tryz.func102,Tryz.ntmps102
   go_upto_region 1 with (go_at_fn f; refine HC.out.mono ?_; rintro e W1 ⟨rfl,hI1⟩; have HI1:=ι hI1; clear hI1; have F1:=KnotAt.of (Trie.sumsT_length _) Hps.out (HBK.out.below (HV0.out.low _ _ HI1.out) HBK.out.lt); have c0:=F1.node.c0; have kr:=F1.kids; clear F1)
   replace c0:W1.cell? ⟨g,0,none⟩=some (.int .i64 1):=c0
   exact z_16
 |ext p s ih=>
  intro pl x D W hN hI ha hk;cases hm:may pl with
  |false=>
   rw [show Trie.goT may (.ext p s) pl= [] by simp [Trie.goT,hm],List.append_nil];exact stop _ pl x D W (by rw [List.length_append] at hN; omega) hI ha hk (by simp) hm
  |true=>
   have HP:Hid (∀ w',I (D++ [(pl,Trie.T.ext p s)]++Trie.goT may s (pl++p)) w'→WalkEnd I (D++Trie.goT may (.ext p s) pl) (.returned (.tuple #[])) w'):=ι (fun w' h=>⟨rfl,by rw [List.append_assoc] at h; simpa [Trie.goT,hm] using h⟩);have HC:=HV0.out.calls D pl _ _ W (by rw [List.length_append] at hN; omega) hI (by simp) ha hk;rw [hm,if_pos rfl] at HC;have hp16:=Trie.small_ext_path ha.wf ha.small;have hpl:=ha.len (by simp);have hnl:(9223372036854775807<pl.length+p.length)=False:=by simp; omega
   obtain ⟨g,ps,rfl,hps,hbk,hks⟩:=blk_of_knot hk (by simp);have hsn:s≠ .nil:=fun e=>by have:=ha.wf.2.2.1; rw [e] at this; simp [Trie.isBranch] at this
   obtain ⟨b2,hy⟩:=(hks 0).ptr hsn;have hk0:KnotP w0 s (.pointer (some ⟨b2,0,none⟩)):=by rw [←hy]; exact hks 0
   have HIH:Hid (∀ W,I (D++ [(pl,.ext p s)]) W→Calls Tryz.prog 102 #[.pointer (some ⟨b2,0,none⟩),.string ⟨(pl++p).toArray⟩,.func (.func f) #[] caps] W (WalkEnd I (D++ [(pl,Trie.T.ext p s)]++Trie.goT may s (pl++p)))):=
    ι (fun W hW=>ih (pl++p) _ _ W (by
     have:D++ [(pl,Trie.T.ext p s)]++Trie.goT may s (pl++p)=D++Trie.goT may (.ext p s) pl:=by
      rw [List.append_assoc]; simp [Trie.goT,hm]
     rw [this]; exact hN) hW ha.below hk0)
   have HC:=ι HC;have HBK:=ι hbk;have Hps:=ι hps;have HY:Hid (ps.getD 0 undef= .pointer (some ⟨b2,0,none⟩)):=ι hy;generalize WalkEnd I (D++Trie.goT may (.ext p s) pl)=P at HP ⊢;clear hI ha hk hm hbk hps hks hy hk0 hsn ih stop hN;rename_i HCold;clear HCold;go_enter Tryz.func102,Tryz.ntmps102
   go_upto_region 1 with (go_at_fn f; refine HC.out.mono ?_; rintro e W1 ⟨rfl,hI1⟩; have HI1:=ι hI1; clear hI1; have F1:=KnotAt.of (Trie.sumsT_length _) Hps.out (HBK.out.below (HV0.out.low _ _ HI1.out) HBK.out.lt); have HLt:=ι (HBK.out.below (HV0.out.low _ _ HI1.out) HBK.out.lt).lt; have c0:=F1.node.c0; have c1:=F1.node.c1; have kr:=F1.kids; clear F1)
   replace c0:W1.cell? ⟨g,0,none⟩=some (.int .i64 2):=c0
   replace c1:W1.cell? ⟨g,1,none⟩=some (p:Value):=c1
   have c19:W1.cell? ⟨g,19,none⟩=some (.pointer (some ⟨b2,0,none⟩)):=by
    rw [←HY.out];exact kr 0 _ (by have:=Hps.out; rw [List.getD_eq_getElem?_getD,List.getElem?_eq_getElem (show 0<ps.length by omega)]; rfl)
   clear kr;go_upto_region 2 with fail
   go_region_held3 (fun w'=>w'.cell? ⟨g,1,none⟩=some (p:Value)∧w'.cell? ⟨g,19,none⟩=some (.pointer (some ⟨b2,0,none⟩))) (first|go_keep|(constructor<;>assumption)) (first|(go_at_call 102; refine (HIH.out _ (by first|exact HI1.out|exact HV0.out.next _ _ _ HI1.out (Below.refl _ _).drew)).mono ?_; rintro e W3 ⟨rfl,hI3⟩; have HI3:=ι hI3; clear hI3; have F3:=KnotAt.of (Trie.sumsT_length _) Hps.out (HBK.out.below (HV0.out.low _ _ HI3.out) HBK.out.lt); have d1:=F3.node.c1; have kr3:=F3.kids; clear F3; replace d1:W3.cell? ⟨g,1,none⟩=some (p:Value):=d1; have d19:W3.cell? ⟨g,19,none⟩=some (.pointer (some ⟨b2,0,none⟩)):=(by rw [←HY.out]; exact kr3 0 _ (by have:=Hps.out; rw [List.getD_eq_getElem?_getD,List.getElem?_eq_getElem (show 0<ps.length by omega)]; rfl)); clear kr3))
   go_wp2
   go_end0
   exact HP.out _ HI3.out
 |branch v kids ih=>
  intro pl x D W hN hI ha hk;cases hm:may pl with
  |false=>
   rw [show Trie.goT may (.branch v kids) pl= [] by simp [Trie.goT,hm],List.append_nil];exact stop _ pl x D W (by rw [List.length_append] at hN; omega) hI ha hk (by simp) hm
  |true=>
   have HIH:∀ (i:Fin 16) (x:Value) (W:World) (D:List (List UInt8 × Trie.T)),(D++Trie.goT may (Trie.kidsT (.branch v kids) i) (pl++ [Trie.hb i])).length≤N→I D W→KnotP w0 (Trie.kidsT (.branch v kids) i) x→Calls Tryz.prog 102 #[x,.string ⟨(pl++ [Trie.hb i]).toArray⟩,.func (.func f) #[] caps] W (WalkEnd I (D++Trie.goT may (Trie.kidsT (.branch v kids) i) (pl++ [Trie.hb i]))):=
    fun i x W D hN hI hk=>ih i (pl++ [Trie.hb i]) x D W hN hI (ha.kid i) hk
   have HP:Hid (∀ w',I (D++ [(pl,Trie.T.branch v kids)]++Trie.goKids may (Trie.kidsT (Trie.T.branch v kids)) pl 16) w'→WalkEnd I (D++Trie.goT may (Trie.T.branch v kids) pl) (.returned (.tuple #[])) w'):=ι (fun w' h=>⟨rfl,by rw [Trie.goKids_all,List.append_assoc] at h; simpa [Trie.goT,hm,Trie.kidsT,Trie.noKids,flat_nil] using h⟩);have HBd:Hid ((D++ [(pl,Trie.T.branch v kids)]++Trie.goKids may (Trie.kidsT (Trie.T.branch v kids)) pl 16).length≤N):=ι (by
    have:D++ [(pl,Trie.T.branch v kids)]++Trie.goKids may (Trie.kidsT (Trie.T.branch v kids)) pl 16=D++Trie.goT may (Trie.T.branch v kids) pl:=by
     rw [Trie.goKids_all,List.append_assoc]; simp [Trie.goT,hm,Trie.kidsT,Trie.noKids,flat_nil]
    rw [this]; exact hN)
   have HC:=HV0.out.calls D pl _ _ W (by rw [List.length_append] at hN; omega) hI (by simp) ha hk;have hpl:=ha.len (by simp);rw [hm,if_pos rfl] at HC;obtain ⟨g,ps,rfl,hps,hbk,hks⟩:=blk_of_knot hk (by simp);have HC:=ι HC;have HLoop:=ι (walk_loop N w0 f caps may I HV0.out.next (Trie.kidsT (Trie.T.branch v kids)) ps hps pl (by omega) hks HIH);have HBK:=ι hbk;have Hps:=ι hps;have SZQ:(Tryz.prog.info? 134).map (·.size)=some ps.length:=by rw [hps]; exact info_ptrs
   generalize WalkEnd I (D++Trie.goT may (Trie.T.branch v kids) pl)=P at HP ⊢;clear hI ha hk hm hbk hps hks HIH hN;rename_i HCold;clear HCold;go_enter Tryz.func102,Tryz.ntmps102
   go_upto_region 1 with (go_at_fn f; refine HC.out.mono ?_; rintro e W1 ⟨rfl,hI1⟩; have HI1:=ι hI1; clear hI1; have F1:=KnotAt.of (Trie.sumsT_length _) Hps.out (HBK.out.below (HV0.out.low _ _ HI1.out) HBK.out.lt); have c0:=F1.node.c0; have kr:=F1.kids; clear F1)
   replace c0:W1.cell? ⟨g,0,none⟩=some (.int .i64 3):=c0
   exact z_16
namespace Trie
end Trie
def icells (l:List (List UInt8 × List UInt8)):List Value:=l.flatMap fun x=> [x.1,x.2]
namespace Trie
theorem sum_le_sum {α:Type} (f g:α→Nat):∀ l:List α,(∀ x∈l,f x≤g x)→(l.map f).sum≤(l.map g).sum
 | [],_=>Nat.le_refl _
 |a::l,h=>by
  have h1:=h a (by simp);have h2:=sum_le_sum f g l (fun x hx=>h x (by simp [hx]));simp only [List.map_cons,List.sum_cons]; omega
theorem sum_add {α:Type} (f g:α→Nat) (l:List α):(l.map fun x=>f x+g x).sum=(l.map f).sum+(l.map g).sum:=by
 induction l with
 |nil=>rfl
 |cons a l ih=>simp only [List.map_cons,List.sum_cons,ih]; omega
theorem sum_mul {α:Type} (f:α→Nat) (n:Nat) (l:List α):(l.map fun x=>n*f x).sum=n*(l.map f).sum:=by
 induction l with
 |nil=>rfl
 |cons a l ih=>simp only [List.map_cons,List.sum_cons,ih,Nat.mul_add]
theorem filter_sum {α:Type} (p:α→Bool) (l:List α):(l.filter p).length=(l.map fun x=>if p x then 1 else 0).sum:=by
 induction l with
 |nil=>rfl
 |cons a l ih=>
  simp only [List.filter_cons,List.map_cons,List.sum_cons,←ih]
  split<;>simp_all<;>omega
theorem nodes_le (t:T):wf t→t≠ .nil→nodes t+2≤4*count t∧(isBranch t=true→nodes t+3≤4*count t):=by
 induction t with
 |nil=>intro _ h; exact absurd rfl h
 |leaf p v=>intro _ _; simp [nodes,count,isBranch]
 |ext p t ih=>
  intro h _;have hn:t≠ .nil:=fun e=>by have:=h.2.2.1; rw [e] at this; simp [isBranch] at this
  have:=(ih h.2.2.2 hn).2 h.2.2.1
  simp only [nodes,count];exact ⟨by omega,fun h=>by simp [isBranch] at h⟩
 |branch v kids ih=>
  intro h _;have h1:=sum_le_sum (fun i=>nodes (kids i)+2*(if !isNil (kids i) then 1 else 0)) (fun i=>4*count (kids i)) (List.finRange 16) (fun i _=>by
   by_cases hn:kids i= .nil
   ·simp [hn,nodes,isNil]
   ·have:=(ih i (h.1 i) hn).1
    have e:isNil (kids i)=false:=by cases hk:kids i<;>simp_all [isNil]
    simp [e]; omega)
  rw [sum_add,sum_mul,sum_mul,←filter_sum] at h1;have h2:=h.2;have h3:((List.finRange 16).filter fun i=> !isNil (kids i)).length=many kids:=rfl;have h4:((List.finRange 16).map fun i=>count (kids i)).sum=kidsCount kids:=rfl;rw [h3,h4] at h1;rw [count_branch];simp only [nodes]
  split at h2<;>rename_i hv<;>simp only [hv,if_true,if_false]<;>omega
theorem goT_len (may:List UInt8→Bool) (t:T):∀ pl,(goT may t pl).length≤nodes t:=by
 induction t with
 |nil=>intro pl; simp [goT]
 |leaf p v=>intro pl; simp only [goT,nodes]; split<;>simp
 |ext p t ih=>intro pl; simp only [goT,nodes]; split<;>simp; have:=ih (pl++p); omega
 |branch v kids ih=>
  intro pl;simp only [goT,nodes]
  split
  ·simp only [List.length_cons,List.length_flatMap]
   have:=sum_le_sum (fun i=>(goT may (kids i) (pl++ [hb i])).length) (fun i=>nodes (kids i)) (List.finRange 16) (fun i _=>ih i _)
   omega
  ·simp
theorem goT_short {t:T} (hw:wf t) (hc:count t≤20000) (may:List UInt8→Bool) (pl:List UInt8):(goT may t pl).length≤100000:=by
 have h1:=goT_len may t pl;by_cases hn:t= .nil
 ·subst hn; simp [goT]
 ·have:=(nodes_le t hw hn).1; omega
end Trie
structure MayF (w0:World) (fm:FuncId) (capsM:Array Value) (may:List UInt8→Bool):Prop where
 enters:Enters Tryz.prog fm
 calls:∀ pl W,Nib.fit pl=true→pl.length≤16→Below w0.heap.size w0 W→Calls Tryz.prog fm (#[.string ⟨pl.toArray⟩]++capsM) W fun e W'=>e= .returned (.bool (may pl))∧Below W.heap.size W W'
def textsD (D:List (List UInt8 × Trie.T)):List (List UInt8):=D.map fun x=>Trie.textT x.2
def ToldI (w0:World) (fm:FuncId) (capsM:Array Value) (bm bo:Nat) (D:List (List UInt8 × Trie.T)) (W:World):Prop:=
 ∃ A n c,Blk W bo 26 #[.slice A n c]∧n=D.length∧W.ownsRow w0.heap.size 9 1 (.slice A n c) n (strv (textsD D))∧Below w0.heap.size w0 W∧w0.heap.size≤bo∧Blk W bm 119 #[.func (.func fm) #[] capsM]∧w0.heap.size≤bm
theorem ToldI.next {w0:World} {fm:FuncId} {capsM:Array Value} {bm bo:Nat} {D:List (List UInt8 × Trie.T)} {W W':World} (h:ToldI w0 fm capsM bm bo D W) (hb:Below W.heap.size W W'):ToldI w0 fm capsM bm bo D W':=by
 obtain ⟨A,n,c,h1,h2,h3,h4,h5,h6,h7⟩:=h;exact ⟨A,n,c,h1.below hb h1.lt,h2,own_below h3 hb,h4.nxt hb,h5,h6.below hb h6.lt,h7⟩
theorem ToldI.grow {w0:World} {fm:FuncId} {capsM:Array Value} {bm bo:Nat} {D:List (List UInt8 × Trie.T)} {x:List UInt8 × Trie.T} {W1 w2:World} {A A2:Option Addr} {n c c2:Nat} (h1:Blk W1 bo 26 #[.slice A n c]) (h2:n=D.length) (h3:W1.ownsRow w0.heap.size 9 1 (.slice A n c) n (strv (textsD D))) (h5:w0.heap.size≤bo)
  (h6:Blk W1 bm 119 #[.func (.func fm) #[] capsM]) (h7:w0.heap.size≤bm)
  (hown:w2.ownsRow w0.heap.size 9 1 (.slice A2 (n+1) c2) (n+1) (strv (textsD D)++ [.string ⟨(Trie.textT x.2).toArray⟩])) (hb:Below w0.heap.size w0 w2) (hg:W1.grownBy w2 (Value.slice A n c).ownBlock):
  ToldI w0 fm capsM bm bo (D++ [x]) (w2.setCell ⟨bo,0,none⟩ (.slice A2 (n+1) c2)):=by
 have hbk:=h1.grown hg (fun e=>own_blk_ne h3 h1 (by decide) e.symm);have hbm:=h6.grown hg (fun e=>own_blk_ne h3 h6 (by decide) e.symm);refine ⟨A2,n+1,c2,hbk.set_ 0 _,by rw [List.length_append,←h2]; rfl,?_,hb.setCell h5 _,h5,hbm.far (p:=⟨bo,0,none⟩) (Blk.ne_ hbm hbk (by decide)) _,h7⟩;rw [show strv (textsD (D++ [x]))=strv (textsD D)++ [.string ⟨(Trie.textT x.2).toArray⟩] by simp [strv,textsD]];exact hown.kept (only_setCell (World.grownBy.refl w2 (some bo)) (.inl rfl) _) (by
  have:=own_blk_ne hown hbk (by decide)
  cases hv:(Value.slice A2 (n+1) c2).ownBlock with
  |none=>exact .inl rfl
  |some k=>exact .inr (by rw [←hv]; exact this))
theorem told_visit (w0:World) (fm:FuncId) (capsM:Array Value) (may:List UInt8→Bool) (HM:MayF w0 fm capsM may) (bm bo:Nat) (D:List (List UInt8 × Trie.T)) (hD:D.length≤100000) (pl:List UInt8) (t:Trie.T) (x:Value) (W:World) (hI:ToldI w0 fm capsM bm bo D W) (hn:t≠ .nil) (ha:Trie.At pl t) (hk:KnotP w0 t x):
  Calls Tryz.prog 103 #[pl,x,.pointer (some ⟨bm,0,none⟩),.pointer (some ⟨bo,0,none⟩)] W fun e W'=>e= .returned (.bool (may pl))∧ToldI w0 fm capsM bm bo (if may pl then D++ [(pl,t)] else D) W':=by
 obtain ⟨g,ps,rfl,hps,hbk,hks⟩:=blk_of_knot hk hn;have HI:=ι hI;obtain ⟨A,n,c,h1,h2,h3,h4,h5,h6,h7⟩:=hI;have HC:=HM.calls pl W ha.fit (ha.len hn) h4;have HE:=HM.enters;unfold Enters at HE;have cm:=h6.cell 0;have cm':W.cell? ⟨bm,0,none⟩=some (.func (.func fm) #[] capsM):=cm;have HBK:=ι hbk;have Hps:=ι hps;clear cm h1 h2 h3 h4 h5 h6 h7 hbk hks hk hps ha hn HM;cases hm:may pl with
 |false=>
  rw [hm] at HC;have HC:=ι HC;rename_i HCo;clear HCo hm;have HP:Hid (∀ W',ToldI w0 fm capsM bm bo D W'→(fun e W'=>e=Ending.returned (.bool false)∧ToldI w0 fm capsM bm bo (if false=true then D++ [(pl,t)] else D) W') (Ending.returned (.bool false)) W'):=ι (fun W' h=>⟨rfl,by rw [if_neg (by simp)]; exact h⟩);generalize (fun e W'=>e=Ending.returned (.bool false)∧ToldI w0 fm capsM bm bo (if false=true then D++ [(pl,t)] else D) W')=P at HP ⊢;go_enter Tryz.func103,Tryz.ntmps103
  go_wp2_with (go_at_fn fm; refine HC.out.mono ?_; rintro e W1 ⟨rfl,hb⟩)
  exact HP.out _ (HI.out.next hb)
 |true=>
  rw [hm] at HC;have HC:=ι HC;rename_i HCo;clear HCo hm;have HP:Hid (∀ W',ToldI w0 fm capsM bm bo (D++ [(pl,t)]) W'→(fun e W'=>e=Ending.returned (.bool true)∧ToldI w0 fm capsM bm bo (if true=true then D++ [(pl,t)] else D) W') (Ending.returned (.bool true)) W'):=ι (fun W' h=>⟨rfl,by rw [if_pos rfl]; exact h⟩);generalize (fun e W'=>e=Ending.returned (.bool true)∧ToldI w0 fm capsM bm bo (if true=true then D++ [(pl,t)] else D) W')=P at HP ⊢;go_enter Tryz.func103,Tryz.ntmps103
  go_upto_region 3 with (go_at_fn fm; refine HC.out.mono ?_; rintro e W1 ⟨rfl,hb⟩)
  have HI1:=ι (HI.out.next hb);clear hb HI HC cm';obtain ⟨A,n,c,h1,h2,h3,h4,h5,h6,h7⟩:=HI1.out;have HBK1:=HBK.out.below h4 HBK.out.lt;have c2':W1.cell? ⟨g,35,none⟩=some (.string ⟨(Trie.textT t).toArray⟩):=(KnotAt.of (Trie.sumsT_length _) Hps.out HBK1).c35;clear HBK1;have co:W1.cell? ⟨bo,0,none⟩=some (.slice A n c):=h1.cell 0;have fo:=h1.frozen 0;have HH:=ι (And.intro h1 (And.intro h2 (And.intro h3 (And.intro h4 (And.intro h5 (And.intro h6 h7))))));have hn1:n≤100000:=by rw [h2]; omega
  clear h1 h2 h3 h4 h5 h6 h7;have hal1:∀ o:Obj,(W1.alloc o).cell? ⟨bo,0,none⟩=some (.slice A n c):=fun o=>(((Below.refl _ W1).alloc (Nat.le_refl _) o).cell (p:=⟨bo,0,none⟩) HH.out.1.lt).trans co;have hal2:∀ o:Obj,(W1.alloc o).cell? ⟨g,35,none⟩=some (.string ⟨(Trie.textT t).toArray⟩):=fun o=>(((Below.refl _ W1).alloc (Nat.le_refl _) o).cell (p:=⟨g,35,none⟩) (World.block_lt_of_cell? _ _ c2')).trans c2';go_cut [17] (fun s17 wx=>ToldI w0 fm capsM bm bo (D++ [(pl,t)]) wx)
  case first=>
   go_region_law (refine step_append_new W1 9 [.string ⟨(Trie.textT t).toArray⟩] rfl _ _ 26 rfl w0.heap.size 1 16 _ info_str Tryz.underlying26 rfl (by decide) (.slice A n c) n _ rfl HH.out.2.2.1 1 1 rfl rfl (by simp [Value.oneCell']) (by simp only [maxLen]; omega) (by omega) w0.heap.size w0 HH.out.2.2.2.1 (Nat.le_refl _) HH.out.2.2.2.1.size ?_; intro v2 w2 hown2 hb2 hgr2 ho2 hlt2; obtain ⟨A2,cc2,rfl,_,_,_⟩:=own_form hown2; have hbk2:=HH.out.1.grown hgr2 (fun e=>own_blk_ne HH.out.2.2.1 HH.out.1 (by decide) e.symm); have co2:=hbk2.cell 0; have fo2:=hbk2.frozen 0; have O2:=ι (And.intro hown2 (And.intro hb2 hgr2)); clear hown2 hb2 hgr2 hbk2)
   all_goals go_wp2
   all_goals go_meet
   all_goals first|exact ToldI.grow HH.out.1 HH.out.2.1 HH.out.2.2.1 HH.out.2.2.2.2.1 HH.out.2.2.2.2.2.1 HH.out.2.2.2.2.2.2 O2.out.1 O2.out.2.1 O2.out.2.2|exact (ToldI.grow HH.out.1 HH.out.2.1 HH.out.2.2.1 HH.out.2.2.2.2.1 HH.out.2.2.2.2.2.1 HH.out.2.2.2.2.2.2 O2.out.1 O2.out.2.1 O2.out.2.2).next (Below.refl _ _).drew
  case rest=>
   have HC:=ι hcut;clear hcut;go_wp2
   exact HP.out _ HC.out
def TextsEnd (w:World) (l:List (List UInt8)) (e:Ending) (w':World):Prop:=
 ∃ A n c,e= .returned (.slice A n c)∧n=l.length∧w'.ownsRow w.heap.size 9 1 (.slice A n c) n (strv l)∧Below w.heap.size w w'
theorem own_lower {w:World} {base base' e size n:Nat} {v:Value} {xs:List Value} (h:w.ownsRow base e size v n xs) (hb:base'≤base):w.ownsRow base' e size v n xs:=by
 refine ⟨h.1,?_⟩;rcases h.2 with hn|⟨g,cap,cur,h1,h2,rest⟩
 ·exact .inl hn
 ·exact .inr ⟨g,cap,cur,h1,Nat.le_trans hb h2,rest⟩
theorem TextsEnd.base {w W:World} {l:List (List UInt8)} {e:Ending} {w':World} (hb:Below w.heap.size w W) (h:TextsEnd W l e w'):TextsEnd w l e w':=by
 obtain ⟨A,n,c,h1,h2,h3,h4⟩:=h;exact ⟨A,n,c,h1,h2,own_lower h3 hb.size,hb.nxt h4⟩
def toldW (may:List UInt8→Bool) (t:Trie.T):List (List UInt8):=textsD (Trie.goT may t [])
theorem told_Visit (w0:World) (fm:FuncId) (capsM:Array Value) (may:List UInt8→Bool) (HM:MayF w0 fm capsM may) (bm bo:Nat):Visit 100000 w0 103 #[.pointer (some ⟨bm,0,none⟩),.pointer (some ⟨bo,0,none⟩)] may (ToldI w0 fm capsM bm bo) where
 enters:=enters_of (fn:=Tryz.f103) (by kernel_rfl) (by kernel_rfl) rfl
 low:=fun D W h=>by obtain ⟨_,_,_,_,_,_,h,_⟩:=h; exact h
 next:=fun D W W' h hb=>h.next hb
 calls:=fun D pl t x W hD hI hn ha hk=>told_visit w0 fm capsM may HM bm bo D hD pl t x W hI hn ha hk
theorem trie_told (w:World) (t:Trie.T) (v:Value) (h:TrieP w t v) (hc:Trie.count t≤20000) (fm:FuncId) (capsM:Array Value) (may:List UInt8→Bool) (HM:MayF w fm capsM may):
  Calls Tryz.prog 59 #[v,.func (.func fm) #[] capsM] w (TextsEnd w (toldW may t)):=by
 obtain ⟨hg,b,x,rfl,hbk,hk⟩:=h;have HP:Hid (∀ A n c w',n=(toldW may t).length→w'.ownsRow w.heap.size 9 1 (.slice A n c) n (strv (toldW may t))→Below w.heap.size w w'→TextsEnd w (toldW may t) (.returned (.slice A n c)) w'):=ι (fun A n c w' h1 h2 h3=>⟨A,n,c,rfl,h1,h2,h3⟩);have c0:w.cell? ⟨b,0,none⟩=some x:=hbk.cell 0;have HLt:=ι hbk.lt;have HW:Hid (∀ W,ToldI w fm capsM w.heap.size (w.heap.size+1) [] W→Calls Tryz.prog 102 #[x,.string ⟨#[]⟩,.func (.func 103) #[] #[.pointer (some ⟨w.heap.size,0,none⟩),.pointer (some ⟨w.heap.size+1,0,none⟩)]] W (WalkEnd (ToldI w fm capsM w.heap.size (w.heap.size+1)) (Trie.goT may t []))):=
  ι (fun W hW=>trie_walk 100000 w _ _ _ _ (told_Visit w fm capsM may HM w.heap.size (w.heap.size+1)) t [] x [] W (by simpa using Trie.goT_short hg.wf hc _ []) hW (Trie.At.top hg) hk)
 have HD:Hid ((toldW may t).length=(Trie.goT may t []).length):=ι (by simp [toldW,textsD]);generalize TextsEnd w (toldW may t)=P at HP ⊢;have hx:x= .pointer none∨∃ b2,x= .pointer (some ⟨b2,0,none⟩):=by
  rcases hk.form with ⟨_,h⟩|⟨b2,_,_,h,_⟩
  ·exact .inl h
  ·exact .inr ⟨b2,h⟩
 clear hk hbk hg hc HM;have HI0:Hid (ToldI w fm capsM w.heap.size (w.heap.size+1) [] ((w.alloc (.cells #[.func (.func fm) #[] capsM] 119)).alloc (.cells #[ν] 26))):=by
  have h1:=Blk.new (w.alloc (.cells #[.func (.func fm) #[] capsM] 119)) 26 #[ν];exact ι ⟨none,0,0,by simpa using h1,rfl,World.ownsRow_nil _ _ _ _,by go_grown,by omega,(Blk.new _ _ _).alloc _,Nat.le_refl _⟩
 have hal:∀ o o2:Obj,((w.alloc o).alloc o2).cell? ⟨b,0,none⟩=some x:=fun o o2=>((((Below.refl _ w).alloc (Nat.le_refl _) o).alloc (by simp) o2).cell (p:=⟨b,0,none⟩) HLt.out).trans c0;rcases hx with rfl|⟨b2,rfl⟩
 all_goals
  go_enter Tryz.func59,Tryz.ntmps59
  go_wp2_with (go_at_call 102; refine (HW.out _ HI0.out).mono ?_; rintro e w1 ⟨rfl,hI⟩; obtain ⟨A,n,c,h1,h2,h3,h4,h5,h6⟩:=hI; have co:=h1.cell 0; have HH:=ι (And.intro h1 (And.intro h2 (And.intro h3 h4))); clear h1 h2 h3 h4 h5 h6)
  exact HP.out _ _ _ _ (by rw [HD.out]; exact HH.out.2.1) HH.out.2.2.1 HH.out.2.2.2
def allW:List UInt8→Bool:=fun _=>true
theorem may_all (w:World):MayF w 60 #[] allW where
 enters:=enters_of (fn:=Tryz.f60) (by kernel_rfl) (by kernel_rfl) rfl
 calls:=fun pl W _ _ _=>by
  show Calls Tryz.prog 60 #[pl] W fun e W'=>e= .returned (.bool true)∧Below W.heap.size W W';go_enter Tryz.func60,Tryz.ntmps60
  go_wp2
  go_ret
  exact ⟨rfl,Below.refl _ _⟩
theorem trie_Nodes (w:World) (t:Trie.T) (v:Value) (h:TrieP w t v) (hc:Trie.count t≤20000):
  Calls Tryz.prog 15 #[v] w (TextsEnd w (toldW allW t)):=by
 have HP:Hid (∀ A n c w',n=(toldW allW t).length→w'.ownsRow w.heap.size 9 1 (.slice A n c) n (strv (toldW allW t))→Below w.heap.size w w'→TextsEnd w (toldW allW t) (.returned (.slice A n c)) w'):=ι (fun A n c w' h1 h2 h3=>⟨A,n,c,rfl,h1,h2,h3⟩);have HT:=ι (trie_told w t v h hc _ _ _ (may_all w));generalize TextsEnd w (toldW allW t)=P at HP ⊢;obtain ⟨_,b,x,rfl,_,_⟩:=h;clear hc;go_enter Tryz.func15,Tryz.ntmps15
 go_wp2_with (go_at_call 59; refine HT.out.mono ?_; rintro e w1 ⟨A,n,c,rfl,h1,h2,h3⟩; have HH:=ι (And.intro h1 (And.intro h2 h3)); clear h1 h2 h3)
 exact HP.out _ _ _ _ HH.out.1 HH.out.2.1 HH.out.2.2
def trailW (path:List UInt8):List UInt8→Bool:=fun pl=>decide (Nib.common pl path=pl.length)
theorem may_trail (w:World) (path:List UInt8) (hp:path.length≤10000) (b:Nat) (hb:Blk w b 9 #[path]):MayF w 111 #[.pointer (some ⟨b,0,none⟩)] (trailW path) where
 enters:=enters_of (fn:=Tryz.f111) (by kernel_rfl) (by kernel_rfl) rfl
 calls:=fun pl W hf hl hW=>by
  show Calls Tryz.prog 111 #[pl,.pointer (some ⟨b,0,none⟩)] W fun e W'=>e= .returned (.bool (trailW path pl))∧Below W.heap.size W W';have c0:W.cell? ⟨b,0,none⟩=some (path:Value):=(hb.below hW hb.lt).cell 0;have HCom:Hid (Calls Tryz.prog 97 #[pl,path] W fun e w'=>e= .returned (.int .i64 ((Nib.common pl path:Nat):Int))∧Below W.heap.size W w'):=ι (nib_Common pl path W (by omega) (by omega));have HR:Hid (trailW path pl=(((Nib.common pl path:Nat):Int)==((pl.length:Nat):Int))):=ι (by unfold trailW; rw [Bool.eq_iff_iff]; simp; omega);clear hb hW;go_enter Tryz.func111,Tryz.ntmps111
  go_wp2_with (go_at_call 97; refine HCom.out.mono ?_; rintro e w1 ⟨rfl,hb1⟩)
  go_ret
  exact ⟨ret_bool HR.out.symm,hb1⟩
theorem trie_Trail (w:World) (t:Trie.T) (v:Value) (h:TrieP w t v) (hc:Trie.count t≤20000) (key:List UInt8) (hk:key.length≤2000):
  Calls Tryz.prog 67 #[v,.string ⟨key.toArray⟩] w (TextsEnd w (toldW (trailW (Nib.of key)) t)):=by
 have HP:Hid (∀ A n c w',n=(toldW (trailW (Nib.of key)) t).length→w'.ownsRow w.heap.size 9 1 (.slice A n c) n (strv (toldW (trailW (Nib.of key)) t))→Below w.heap.size w w'→TextsEnd w (toldW (trailW (Nib.of key)) t) (.returned (.slice A n c)) w'):=ι (fun A n c w' h1 h2 h3=>⟨A,n,c,rfl,h1,h2,h3⟩);have HOf:=ι (nib_Of key w (by omega));have HT:Hid (∀ W bp,Below w.heap.size w W→Blk W bp 9 #[.string ⟨(Nib.of key).toArray⟩]→Calls Tryz.prog 59 #[v,.func (.func 111) #[] #[.pointer (some ⟨bp,0,none⟩)]] W (TextsEnd w (toldW (trailW (Nib.of key)) t))):=
  ι (fun W bp h1 h2=>(trie_told W t v (h.next h1) hc _ _ _ (may_trail W (Nib.of key) (by rw [Nib.of_length]; omega) bp h2)).mono (fun e w' he=>he.base h1))
 generalize TextsEnd w (toldW (trailW (Nib.of key)) t)=P at HP ⊢;obtain ⟨_,b,x,rfl,_,_⟩:=h;clear hc;go_enter Tryz.func67,Tryz.ntmps67
 go_wp2_with (first|(go_at_call 54; refine HOf.out.mono ?_; rintro e w1 ⟨rfl,hb1⟩)|(go_at_call 59; refine (HT.out _ w1.heap.size (hb1.alloc hb1.size _) (Blk.new _ _ _)).mono ?_; rintro e w2 ⟨A,n,c,rfl,h1,h2,h3⟩; have HH:=ι (And.intro h1 (And.intro h2 h3)); clear h1 h2 h3))
 exact HP.out _ _ _ _ HH.out.1 HH.out.2.1 HH.out.2.2
namespace Trie
end Trie
theorem icells_at {l:List (List UInt8 × List UInt8)} {i:Nat} (h:i<l.length):(icells l)[2*i]?=some (.string ⟨l[i].1.toArray⟩)∧(icells l)[2*i+1]?=some (.string ⟨l[i].2.toArray⟩):=by
 induction l generalizing i with
 |nil=>simp at h
 |cons a l ih=>
  rcases i with _|i
  ·simp [icells]
  ·have:=ih (show i<l.length by simpa using h)
   rw [show 2*(i+1)=2*i+1+1 by omega];simpa [icells] using this
theorem icells_length (l:List (List UInt8 × List UInt8)):(icells l).length=2*l.length:=by
 induction l with
 |nil=>rfl
 |cons a l ih=>
  rw [show icells (a::l)= .string ⟨a.1.toArray⟩:: .string ⟨a.2.toArray⟩::icells l from rfl,List.length_cons,List.length_cons,ih,List.length_cons]; omega
namespace Trie
end Trie
theorem reads_blk {w:World} {b e size n:Nat} {xs:Array Value} (h:Blk w b e xs) (hn:xs.size=n*size):Reads w w.heap.size size (some ⟨b,0,none⟩) n xs.toList:=by
 refine ⟨by simpa using hn,fun _=>⟨_,rfl,h.lt,fun j u hu=> ?_⟩⟩;have hj:j<xs.size:=by have:=(List.getElem?_eq_some_iff.1 hu).1; simpa using this
 have:=h.cell j
 rw [show (⟨b,0,none⟩:Addr).add j=⟨b,j,none⟩ by unfold Addr.add; split<;>simp_all];rw [this];simpa using hu
end
end Go.Proofs.YtnelhjfjkkdoaaaGreatDoor