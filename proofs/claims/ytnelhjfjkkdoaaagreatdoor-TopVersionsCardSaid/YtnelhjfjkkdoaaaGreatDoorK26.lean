import Derived.Test.YtnelhjfjkkdoaaaGreatDoorK25
set_option linter.unusedSimpArgs false
set_option linter.unusedVariables false
set_option maxHeartbeats 4000000
set_option maxRecDepth 100000
namespace Go.Proofs.YtnelhjfjkkdoaaaGreatDoor
section
open Go.RowKit Go.Instr Go.ChangeMaps
attribute [local go_sem] ba_get ByteArray.mk_append_mk
attribute [local go_sem ↓] Go.wp_at_zero Go.wp_at_succ
def loadR (D:List Trie.KV) (root:List UInt8):Trie.T × Nat:=if root= [] then (.nil,0) else ((Trie.loadW D 17 root [] false 0 0).1,(Trie.loadW D 17 root [] false 0 0).2.2)
def LoadREnd (w:World) (r:Trie.T × Nat) (e:Ending) (w':World):Prop:=∃ v,e= .returned (.tuple #[v,.int .i64 (r.2:Int)])∧Below w.heap.size w w'∧(r.2=0→TrieP w' r.1 v∧Trie.count r.1≤1024)
theorem trie_Load (w:World) (g b:Nat) (D:List Trie.KV) (HS:StoreP w g b D) (hD:∀ x∈D,x.2.length≤900000) (hTr:∀ k s,lookB D k=some s→shaW (1::s)=k) (hT:Tbl w) (root:List UInt8):
  Calls Tryz.prog 64 #[.pointer (some ⟨g,0,none⟩),root] w (LoadREnd w (loadR D root)):=by
 have HP:Hid (∀ v w' T (c:Nat),loadR D root=(T,c)→Below w.heap.size w w'→(c=0→TrieP w' T v∧Trie.count T≤1024)→LoadREnd w (loadR D root) (.returned (.tuple #[v,.int .i64 (c:Int)])) w'):=ι (fun v w' T c e h1 h2=>by rw [e]; exact ⟨v,rfl,h1,h2⟩);generalize LoadREnd w (loadR D root)=P at HP ⊢;by_cases hr:root= []
 ·subst hr;have hX:Hid (loadR D []=(.nil,0)):=ι rfl;clear HS hD hTr hT;go_enter Tryz.func64,Tryz.ntmps64
  go_wp2_with fail
  refine (trie_New _).mono ?_;rintro e w1 ⟨v0,rfl,hk0,hb0⟩;have H0:=ι (And.intro hk0 hb0);clear hk0 hb0;go_wp2_with fail
  exact HP.out _ _ _ 0 hX.out H0.out.2 (fun _=>⟨H0.out.1,by simp [Trie.count]⟩)
 ·have ne1:(root.toArray=#[])=False:=by simp [hr]
  have ne2:root.isEmpty=false:=by simp [hr]
  have HX:Hid (loadR D root=((Trie.loadW D 17 root [] false 0 0).1,(Trie.loadW D 17 root [] false 0 0).2.2)):=ι (by unfold loadR; rw [if_neg hr]);have HOk:=ι (fun h=>Trie.loadW_ok hTr 17 root [] false 0 0 (by omega) h);have HLd:=ι (ldr_load w w.heap.size g b D HS hD hTr hT (Nat.le_refl _) 17 root [] false 0 0 (w.alloc (.cells #[.pointer (some ⟨g,0,none⟩),ζ,ζ] 190)) (by simp) (by simp) (Blk.new _ _ _) ((Below.refl _ _).alloc (Nat.le_refl _) _) (fun _=>by omega));generalize Trie.loadW D 17 root [] false 0 0=r at *;obtain ⟨T,m,c⟩:=r;unfold LoadEnd at HLd;simp only at HX HOk HLd;clear HS hD hTr hT hr;go_enter Tryz.func64,Tryz.ntmps64
  go_wp2_with fail
  refine HLd.out.mono ?_;rintro e w1 ⟨x,rfl,hk,hl,hg,hm⟩;obtain ⟨xq,rfl⟩:∃ xq,x= .pointer xq:=by
   rcases hk.form with ⟨_,h⟩|⟨b2,_,_,h,_⟩
   ·exact ⟨_,h⟩
   ·exact ⟨_,h⟩
  have d2:w1.cell? ⟨w.heap.size,2,none⟩=some (.int .i64 (c:Int)):=Blk.cell hl 2;have HB:Hid (Below w.heap.size w w1):=ι (((Below.refl _ _).alloc (Nat.le_refl _) _:Below w.heap.size w (w.alloc _)).grown hg (by simp) (fun k e=>by injection e with e; exact Nat.le_of_eq e));have HK:=ι hk;clear hl hg hm hk;by_cases hc:c=0
  ·subst hc;obtain ⟨_,o1,o2,_,o4,o5⟩:=HOk.out rfl;have HGd:=ι (And.intro o1.good (show Trie.count T≤1024 by omega));clear HOk o1 o2 o4 o5;go_wp2_with fail
   refine HP.out _ _ T 0 HX.out (HB.out.alloc HB.out.size _) (fun _=>⟨⟨HGd.out.1,_,.pointer xq,rfl,Blk.new _ _ _,HK.out.next ((Below.refl _ _).alloc (Nat.le_refl _) _)⟩,HGd.out.2⟩)
  ·have hcI:((c:Int) !=0)=true:=by simp; exact hc
   go_wp2_with fail
   go_quiet (fail)
   go_wp2_with fail
   exact HP.out _ _ T c HX.out (below_drewN HB.out _) (fun h=>absurd h hc)
end
section
open Go.RowKit Go.Instr Go.ChangeMaps
attribute [local go_sem] ba_get ByteArray.mk_append_mk
theorem told_700v {t:Trie.T} (h:Trie.Good t) (may:List UInt8→Bool):∀ x∈toldW may t,x.length≤700:=by
 have key:∀ (t:Trie.T) (pl:List UInt8),Trie.At pl t→∀ x∈Trie.goT may t pl,(Trie.textT x.2).length≤700:=by
  have one:∀ (t:Trie.T) (pl:List UInt8),Trie.At pl t→t≠ .nil→(Trie.textT t).length≤700:=fun t pl ha hn=>nodeText_len (Trie.sumsT_length t) (Trie.fineT hn ha.wf ha.small);intro t
  induction t with
  |nil=>intro pl _ x hx; cases hx
  |leaf p v=>
   intro pl ha x hx;simp only [Trie.goT] at hx
   split at hx
   ·rw [List.mem_singleton] at hx;subst hx;exact one _ _ ha (by simp)
   ·cases hx
  |ext p t ih=>
   intro pl ha x hx;simp only [Trie.goT] at hx
   split at hx
   ·rcases List.mem_cons.1 hx with rfl|hx
    ·exact one _ _ ha (by simp)
    ·exact ih _ ha.below x hx
   ·cases hx
  |branch v kids ih=>
   intro pl ha x hx;simp only [Trie.goT] at hx
   split at hx
   ·rcases List.mem_cons.1 hx with rfl|hx
    ·exact one _ _ ha (by simp)
    ·obtain ⟨i,_,hx⟩:=List.mem_flatMap.1 hx;exact ih i _ (ha.kid i) x hx
   ·cases hx
 intro x hx;unfold toldW textsD at hx;obtain ⟨y,hy,rfl⟩:=List.mem_map.1 hx;exact key t [] (Trie.At.top h) y hy
structure Off3 (x y z:Nat) (w w':World):Prop where
 os:w'.os=w.os
 tape:w'.tape=w.tape
 output:w'.output=w.output
 size:w.heap.size≤w'.heap.size
 block:∀ k,k<w.heap.size→k≠x→k≠y→k≠z→w'.heap[k]?=w.heap[k]?
theorem Off3.trans {x y z:Nat} {a b c:World} (h:Off3 x y z a b) (k:Off3 x y z b c):Off3 x y z a c:=
 ⟨k.os.trans h.os,k.tape.trans h.tape,k.output.trans h.output,Nat.le_trans h.size k.size,fun i hi h1 h2 h3=>(k.block i (Nat.lt_of_lt_of_le hi h.size) h1 h2 h3).trans (h.block i hi h1 h2 h3)⟩
theorem Off3.low {x y z:Nat} {w w':World} (h:Below w.heap.size w w'):Off3 x y z w w':=⟨h.os,h.tape,h.output,h.size,fun i hi _ _ _=>h.block i hi⟩
theorem Off3.one {x y z:Nat} {w w':World} {k:Nat} (h:w.grownBy w' (some k)) (hk:k=x∨k=y∨k=z):Off3 x y z w w':=
 ⟨h.os,h.tape,h.output,h.size,fun i hi h1 h2 h3=>h.block i hi (fun e=>by injection e with e; rcases hk with r|r|r<;>omega)⟩
theorem Off3.below {x y z N:Nat} {w w':World} (h:Off3 x y z w w') (hN:N≤w.heap.size) (h1:N≤x) (h2:N≤y) (h3:N≤z):Below N w w':=
 ⟨h.os,h.tape,h.output,h.size,fun i hi=>h.block i (by omega) (by omega) (by omega) (by omega)⟩
def NoByte (w:World) (k:Nat):Prop:=∀ cs z,w.heap[k]?≠some (.cells cs 5 z)
theorem Blk.noByte {w:World} {k t:Nat} {cs:Array Value} (h:Blk w k t cs) (ht:t≠5):NoByte w k:=fun c2 z e=>by
 unfold Blk at h;rw [h] at e;injection e with e
 injection e with _ e _
 exact ht e
theorem MapIs.noByte {w:World} {κ:Type} {kv:κ→Value} {b:Nat} {l:List (κ × Value)} (hm:MapIs w kv b l):NoByte w b:=fun cs z e=>by
 obtain ⟨E,cl,h1,_⟩:=hm;rw [h1] at e;cases e
theorem BMap.offB {w w':World} {b k:Nat} {D:List Trie.KV} (h:BMap w b D) (hk:NoByte w k) (hbk:b≠k) (hg:w.grownBy w' (some k)):BMap w' b D:=by
 obtain ⟨vs,h1,h2⟩:=h.ex;exact ⟨vs,h1.kept (hg.block b h1.lt (by intro e; injection e with e; exact hbk e)),h2.keep fun A n l hr=>hr.offT hk hg⟩
theorem RMap.offB {w w':World} {b k:Nat} {D:List (Nat × List UInt8)} (h:RMap w b D) (hk:NoByte w k) (hbk:b≠k) (hg:w.grownBy w' (some k)):RMap w' b D:=by
 obtain ⟨vs,h1,h2⟩:=h.ex;exact ⟨vs,h1.kept (hg.block b h1.lt (by intro e; injection e with e; exact hbk e)),h2.keep fun A n l hr=>hr.offT hk hg⟩
theorem StoreP.offB {w w':World} {g b k:Nat} {D:List Trie.KV} (h:StoreP w g b D) (hk:NoByte w k) (h1:g≠k) (h2:b≠k) (hg:w.grownBy w' (some k)):StoreP w' g b D:=
 ⟨h.blk.grown hg (fun e=>by injection e with e; exact h1 e),h.map.offB hk h2 hg⟩
theorem TrieP.offB {w w':World} {k:Nat} {t:Trie.T} {v:Value} (h:TrieP w t v) (h1:∀ cs,¬Blk w k 136 cs) (h2:∀ cs,¬Blk w k 115 cs) (hg:w.grownBy w' (some k)):TrieP w' t v:=by
 obtain ⟨a1,g,x,a2,a3,a4⟩:=h;exact ⟨a1,g,x,a2,a3.grown hg (fun e=>by injection e with e; subst e; exact h2 _ a3),a4.grown hg h1⟩
theorem Blk.typ {w:World} {k t s:Nat} {cs ds:Array Value} (h:Blk w k t cs) (hts:t≠s):¬Blk w k s ds:=fun h2=>by
 unfold Blk at h h2;rw [h] at h2;injection h2 with h2
 injection h2 with _ h2 _
 exact hts h2
theorem MapIs.no_blk {w:World} {κ:Type} {kv:κ→Value} {b t:Nat} {cs:Array Value} {l:List (κ × Value)} (hm:MapIs w kv b l):¬Blk w b t cs:=by
 obtain ⟨E,cl,h1,_⟩:=hm;intro h2;unfold Blk at h2;rw [h2] at h1;cases h1
theorem Tbl.blk {w w':World} {k t:Nat} {v:Value} {cs:Array Value} (hT:Tbl w) (h:Blk w k t cs) (h0:cs[0]?=some v) (hv:∀ x,v≠ .int .u32 x) (hg:w.grownBy w' (some k)):Tbl w':=by
 refine hT.grown hg ?_;refine Nat.pos_of_ne_zero fun e=> ?_;subst e;have h1:=hT 0 (by omega);have h2:=(h.cell 0).trans h0;rw [h2] at h1;injection h1 with h1
 exact hv _ h1
structure VersP (w:World) (vb g b rb:Nat) (T:Trie.T) (D:List Trie.KV) (R:List (Nat × List UInt8)) (last below:Int):Prop where
 blk:∃ nt,Blk w vb 112 #[.pointer (some ⟨g,0,none⟩),.map (some rb),nt,last,below]∧TrieP w T nt
 st:StoreP w g b D
 rm:RMap w rb R
 sh:∀ x∈D,x.2.length≤900000
 tr:∀ k s,lookB D k=some s→shaW (1::s)=k
 ne:b≠rb
theorem VersP.next {w w':World} {vb g b rb:Nat} {T:Trie.T} {D:List Trie.KV} {R:List (Nat × List UInt8)} {last below:Int} (h:VersP w vb g b rb T D R last below) (hb:Below w.heap.size w w'):VersP w' vb g b rb T D R last below:=by
 obtain ⟨nt,h1,h2⟩:=h.blk;exact ⟨⟨nt,h1.below hb h1.lt,h2.next hb⟩,h.st.next hb,h.rm.next hb,h.sh,h.tr,h.ne⟩
theorem vers_New' (w:World):Calls Tryz.prog 10 #[] w (fun e w'=>∃ vb g b rb,e= .returned (.pointer (some ⟨vb,0,none⟩))∧VersP w' vb g b rb .nil [] [] (-1) 0∧Below w.heap.size w w'∧w.heap.size≤vb∧w.heap.size≤b∧w.heap.size≤rb):=by
 refine (vers_New w).mono ?_;rintro e w' ⟨vb,g,b,rb,nt,rfl,h1,h2,⟨cl,h3⟩,h4,h5,h6,h7,h8,h9,h10⟩;exact ⟨vb,g,b,rb,rfl,⟨⟨nt,h1,h4⟩,h2,⟨[],⟨#[],cl,h3,rfl,Go.MapKept.stamped_empty cl⟩,trivial⟩,(fun x hx=>by cases hx),(fun k s h=>by cases h),h10⟩,h5,h6,h8,h9⟩
def changedW (t:Trie.T) (k v:List UInt8):Trie.T × Nat:=
 if v≠ [] then (Trie.put t (Nib.of k) v,Trie.putCode k v) else if (Trie.getW t k).2=5 then (t,0) else (Trie.del t (Nib.of k),(Trie.getW t k).2)
theorem vers_changed (w:World) (t:Trie.T) (v:Value) (h:TrieP w t v) (hc:Trie.count t<1024) (hT:Tbl w) (k x:List UInt8) (hk:k.length≤9223372036854775807) (hx:x.length≤9223372036854775807):
  Calls Tryz.prog 51 #[v,.agg #[k,x]] w (TPutEnd w (changedW t k x).1 (changedW t k x).2):=by
 have HW:Hid (Below w.heap.size w (w.alloc (.cells #[k,x] 37))):=ι (by go_grown);have HL:Hid (∀ U c,(U=changedW t k x)→U.2=c→∀ v' w',Below w.heap.size w w'→(c=0→TrieP w' U.1 v')→(c≠0→v'= .pointer none)→TPutEnd w (changedW t k x).1 (changedW t k x).2 (.returned (.tuple #[v',.int .i64 (c:Int)])) w'):=ι (fun U c e1 e2 v' w' h1 h2 h3=>by subst e1; subst e2; exact ⟨v',rfl,h1,h2,h3⟩);by_cases hx0:x= []
 ·subst hx0;have hD:=trie_Del (w.alloc (.cells #[k,ε] 37)) t v (h.next HW.out) hc (hT.next HW.out) k hk;have HX:Hid (changedW t k []=if (Trie.getW t k).2=5 then (t,0) else (Trie.del t (Nib.of k),(Trie.getW t k).2)):=ι (by unfold changedW; rw [if_neg (by simp)]);generalize TPutEnd w (changedW t k []).1 (changedW t k []).2=P at HL ⊢;generalize changedW t k []=X at *;generalize (Trie.getW t k).2=cd at *;have HDl:=ι hD;have HTr:=ι h;obtain ⟨_,tb,tx,rfl,_⟩:=id h;clear hD h hT hc hk hx;go_enter Tryz.func51,Tryz.ntmps51
  go_wp2_with fail
  refine HDl.out.mono ?_;rintro e w1 ⟨v1,rfl,hb1,hk1,hn1⟩;have H1:=ι (And.intro (HW.out.nxt hb1) (And.intro hk1 hn1));clear hb1 hk1 hn1 HDl;by_cases h5:cd=5
  ·subst h5;rw [if_pos rfl] at HX;go_wp2_with fail
   exact HL.out _ 0 rfl (by rw [HX.out]) _ _ H1.out.1 (fun _=>by rw [HX.out]; exact HTr.out.next H1.out.1) (fun h=>absurd rfl h)
  ·rw [if_neg h5] at HX;have h5':((cd:Int)==5)=false:=by simp; omega
   clear h5;go_wp2_with fail
   exact HL.out _ cd rfl (by rw [HX.out]) _ _ H1.out.1 (fun hz=>by rw [HX.out]; exact H1.out.2.1 hz) H1.out.2.2
 ·have hP:=trie_Put (w.alloc (.cells #[k,x] 37)) t v (h.next HW.out) hc (hT.next HW.out) k x hk hx;have HX:Hid (changedW t k x=(Trie.put t (Nib.of k) x,Trie.putCode k x)):=ι (by unfold changedW; rw [if_pos hx0]);have ne1:(x.toArray=#[])=False:=by simp [hx0]
  have ne2:x.isEmpty=false:=by simp [hx0]
  generalize TPutEnd w (changedW t k x).1 (changedW t k x).2=P at HL ⊢;generalize changedW t k x=X at *;generalize Trie.putCode k x=cd at *;have HPt:=ι hP;clear hP h hT hc hk hx hx0;go_enter Tryz.func51,Tryz.ntmps51
  go_wp2_with fail
  refine HPt.out.mono ?_;rintro e w1 ⟨v1,rfl,hb1,hk1,hn1⟩;have H1:=ι (And.intro (HW.out.nxt hb1) (And.intro hk1 hn1));clear hb1 hk1 hn1 HPt;go_wp2_with fail
  exact HL.out _ cd rfl (by rw [HX.out]) _ _ H1.out.1 (fun hz=>by rw [HX.out]; exact H1.out.2.1 hz) H1.out.2.2
end
section
open Go.RowKit Go.Instr Go.ChangeMaps
attribute [local go_sem] ba_get ByteArray.mk_append_mk
attribute [local go_sem ↓] Go.wp_at_zero Go.wp_at_succ
theorem vers_Root (w:World) (vb g b rb:Nat) (T:Trie.T) (D:List Trie.KV) (R:List (Nat × List UInt8)) (last below:Int) (H:VersP w vb g b rb T D R last below) (h:Nat) (root:List UInt8) (hR:lookN R h=some root):
  Calls Tryz.prog 18 #[.pointer (some ⟨vb,0,none⟩),h] w fun e w'=>e= .returned (.tuple #[root,ζ])∧Below w.heap.size w w':=by
 have HP:Hid (∀ w',Below w.heap.size w w'→(fun e w'=>e=Ending.returned (.tuple #[root,ζ])∧Below w.heap.size w w') (Ending.returned (.tuple #[root,ζ])) w'):=ι (fun w' h1=>⟨rfl,h1⟩);generalize (fun e w'=>e=Ending.returned (.tuple #[root,ζ])∧Below w.heap.size w w')=P at HP ⊢;obtain ⟨nt,hb1,ht1⟩:=H.blk;have c1:w.cell? ⟨vb,1,none⟩=some (.map (some rb)):=hb1.cell 1;obtain ⟨Av,nv,cv,_,hcv,hlk⟩:=H.rm.get Tryz.underlying110 h;have lk:=hlk w (Below.refl _ _);have cv1:=hcv w (Below.refl _ _);rw [hR] at lk cv1;simp only [ik,Option.isSome_some,Option.getD_some] at lk cv1;clear hlk hcv H hb1 ht1 hR;go_enter Tryz.func18,Tryz.ntmps18
 go_wp2_with fail
 exact HP.out _ (by first|exact Below.refl _ _|go_grown)
theorem vers_At (w:World) (vb g b rb:Nat) (T:Trie.T) (D:List Trie.KV) (R:List (Nat × List UInt8)) (last below:Int) (H:VersP w vb g b rb T D R last below) (hT:Tbl w) (h:Nat) (root:List UInt8) (hR:lookN R h=some root):
  Calls Tryz.prog 19 #[.pointer (some ⟨vb,0,none⟩),h] w (LoadREnd w (loadR D root)):=by
 have HP:Hid (∀ v (c:Nat) w',(loadR D root).2=c→Below w.heap.size w w'→(c=0→TrieP w' (loadR D root).1 v∧Trie.count (loadR D root).1≤1024)→LoadREnd w (loadR D root) (.returned (.tuple #[v,.int .i64 (c:Int)])) w'):=ι (fun v c w' h1 h2 h3=>by subst h1; exact ⟨v,rfl,h2,h3⟩);have HRt:=ι (vers_Root w vb g b rb T D R last below H h root hR);have HLd:=ι (fun W (hW:Below w.heap.size w W)=>trie_Load W g b D (H.st.next hW) H.sh H.tr (hT.next hW) root);generalize LoadREnd w (loadR D root)=P at HP ⊢;obtain ⟨nt,hb1,ht1⟩:=H.blk;have HB:=ι hb1;clear H hT hR hb1 ht1;unfold LoadREnd at HLd;generalize loadR D root=r at *;obtain ⟨X,cd⟩:=r;simp only at HP HLd;go_enter Tryz.func19,Tryz.ntmps19
 go_wp2_with fail
 refine HRt.out.mono ?_;rintro e w1 ⟨rfl,hb1⟩;have H1:=ι hb1;have c0:w1.cell? ⟨vb,0,none⟩=some (.pointer (some ⟨g,0,none⟩)):=(HB.out.below hb1 HB.out.lt).cell 0;clear hb1;go_wp2_with fail
 refine (HLd.out _ H1.out).mono ?_;rintro e w2 ⟨v,rfl,hb2,hk2⟩;have H2:=ι (And.intro (H1.out.nxt hb2) hk2);clear hb2 hk2;go_wp2_with fail
 exact HP.out _ cd _ rfl H2.out.1 H2.out.2
end
end Go.Proofs.YtnelhjfjkkdoaaaGreatDoor