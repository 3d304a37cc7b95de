import Derived.Test.YtnelhjfjkkdoaaaGreatDoorJ08
set_option linter.unusedSimpArgs false
set_option linter.unusedVariables false
set_option maxHeartbeats 4000000
set_option maxRecDepth 100000
namespace Go.Proofs.YtnelhjfjkkdoaaaGreatDoor
section
open Go.RowKit Go.Instr
attribute [local go_sem] ba_get ByteArray.mk_append_mk
theorem KnotP.ptr {w:World} {t:Trie.T} {x:Value} (h:KnotP w t x) (hn:t≠ .nil):∃ b,x= .pointer (some ⟨b,0,none⟩):=by
 rcases h.form with ⟨h1,_⟩|⟨b,_,_,h2,_⟩
 ·exact absurd h1 hn
 ·exact ⟨b,h2⟩
theorem KnotEnd.base {w W:World} {t:Trie.T} {e:Ending} {w':World} (hb:Below w.heap.size w W) (h:KnotEnd W t e w'):KnotEnd w t e w':=by
 obtain ⟨x,h1,h2,h3⟩:=h;exact ⟨x,h1,h2,hb.nxt h3⟩
theorem knot_base {f:FuncId} {args:Array Value} {w:World} {t:Trie.T} (h:∀ W,Below w.heap.size w W→Calls Tryz.prog f args W (KnotEnd W t)):∀ W,Below w.heap.size w W→Calls Tryz.prog f args W (KnotEnd w t):=
 fun W hW=>(h W hW).mono (fun e w' he=>he.base hW)
theorem rep_getD {α:Type} (n i:Nat) (a d:α) (h:i<n):(List.replicate n a).getD i d=a:=by simp [List.getD_eq_getElem?_getD,h]
theorem trie_leaf (p v:List UInt8) (hw:Trie.wf (.leaf p v)) (hs:Trie.small (.leaf p v)) (w:World) (hT:Tbl w):
  Calls Tryz.prog 98 #[p,v] w (KnotEnd w (.leaf p v)):=by
 have HP:Hid (∀ x w',KnotP w' (.leaf p v) x→Below w.heap.size w w'→KnotEnd w (.leaf p v) (.returned x) w'):=ι (fun x w' h1 h2=>⟨x,rfl,h1,h2⟩);have HTied:Calls Tryz.prog 136 #[.agg #[.int .i64 1,p,v,ε,ε,ε,ε,ε,ε,ε,ε,ε,ε,ε,ε,ε,ε,ε,ε],.agg #[.pointer none,.pointer none,.pointer none,.pointer none,.pointer none,.pointer none,.pointer none,.pointer none,.pointer none,.pointer none,.pointer none,.pointer none,.pointer none,.pointer none,.pointer none,.pointer none]] w (KnotEnd w (.leaf p v)):=
  trie_tied (.leaf p v) (by simp) hw hs (by simp [Trie.count]) (List.replicate 16 []) rfl (fun i _=>rep_getD _ _ _ _ i.isLt) (List.replicate 16 (.pointer none)) rfl w hT (fun i=>by rw [rep_getD _ _ _ _ i.isLt]; exact .nil)
 generalize KnotEnd w (.leaf p v)=P at HP ⊢;clear hw hs hT;go_enter Tryz.func98,Tryz.ntmps98
 go_wp2_with (go_at_call 136; refine HTied.mono ?_; rintro e w1 ⟨x,rfl,hk,hb⟩)
 exact HP.out _ _ hk hb
theorem trie_branch (v:List UInt8) (kids:Fin 16→Trie.T) (hw:Trie.wf (.branch v kids)) (hs:Trie.small (.branch v kids)) (hc:Trie.count (.branch v kids)≤1000000) (ps:List Value) (hps:ps.length=16) (w:World) (hT:Tbl w)
  (hk:∀ i:Fin 16,KnotP w (kids i) (ps.getD i.val undef)):
  Calls Tryz.prog 99 #[v,.agg ps.toArray] w (KnotEnd w (.branch v kids)):=by
 have HP:Hid (∀ x w',KnotP w' (.branch v kids) x→Below w.heap.size w w'→KnotEnd w (.branch v kids) (.returned x) w'):=ι (fun x w' h1 h2=>⟨x,rfl,h1,h2⟩);have HTied:∀ W,Below w.heap.size w W→Calls Tryz.prog 136 #[.agg #[.int .i64 3,ε,v,ε,ε,ε,ε,ε,ε,ε,ε,ε,ε,ε,ε,ε,ε,ε,ε],.agg ps.toArray] W (KnotEnd w (.branch v kids)):=
  knot_base fun W hW=>trie_tied (.branch v kids) (by simp) hw hs hc (List.replicate 16 []) rfl (fun i _=>rep_getD _ _ _ _ i.isLt) ps hps W (hT.next hW) (fun i=>(hk i).next hW)
 have Hps:=ι hps;generalize KnotEnd w (.branch v kids)=P at HP ⊢;have HTd:=ι HTied;clear hw hs hT HTied hk hps hc;go_enter Tryz.func99,Tryz.ntmps99
 go_upto_region 1 with fail
 have SZP:(Tryz.prog.info? 134).map (·.size)=some ps.length:=by rw [Hps.out]; exact info_ptrs
 have F0:Hid (Blk (w.alloc (.cells ps.toArray 134)) w.heap.size 134 ps.toArray∧Below w.heap.size w (w.alloc (.cells ps.toArray 134))):=ι ⟨Blk.new _ _ _,by go_grown⟩;generalize w.alloc (.cells ps.toArray 134)=W0 at F0 ⊢;have RP:=F0.out.1.range;go_wp2_with (first|(refine wpList_load_mid rfl 134 _ rfl w.heap.size 0 rfl _ _ RP Tryz.underlying134 rfl SZP ?_)|(go_at_call 136; refine (HTd.out W0 F0.out.2).mono ?_; rintro e w1 ⟨x,rfl,hk,hb⟩))
 exact HP.out _ _ hk hb
theorem joined_nil (t:Trie.T) (x:Value) (w:World) (hk:KnotP w t x):
  Calls Tryz.prog 100 #[ε,x] w (KnotEnd w t):=by
 have HP:Hid (∀ w',w=w'→KnotEnd w t (.returned x) w'):=ι (fun w' h=>by subst h; exact ⟨x,rfl,hk,Below.refl _ _⟩);generalize KnotEnd w t=P at HP ⊢;clear hk;go_enter Tryz.func100,Tryz.ntmps100
 go_wp2
 exact HP.out _ rfl
theorem joined_leaf (path p v:List UInt8) (hp:path≠ []) (hw:Trie.wf (.leaf (path++p) v)) (hs:Trie.small (.leaf (path++p) v)) (b:Nat) (ps:List Value) (hps:ps.length=16) (w:World) (hT:Tbl w)
  (hbk:Blk w b 136 (knotC (.leaf p v) ps).toArray):
  Calls Tryz.prog 100 #[path,.pointer (some ⟨b,0,none⟩)] w (KnotEnd w (.leaf (path++p) v)):=by
 have HP:Hid (∀ x w',KnotP w' (.leaf (path++p) v) x→Below w.heap.size w w'→KnotEnd w (.leaf (path++p) v) (.returned x) w'):=ι (fun x w' h1 h2=>⟨x,rfl,h1,h2⟩);have hl:=(hs _ hw.1 (by simp [Trie.look]; exact hw.2)).1;rw [List.length_append] at hl;have HTd:Hid (∀ W,Below w.heap.size w W→Calls Tryz.prog 98 #[.string ⟨(path++p).toArray⟩,v] W (KnotEnd w (.leaf (path++p) v))):=
  ι (knot_base fun W hW=>trie_leaf (path++p) v hw hs W (hT.next hW))
 obtain ⟨⟨c0,c1,c2,_,_⟩,_,_,_,_,_⟩:=KnotAt.of (Trie.sumsT_length _) hps hbk;rename_i j1 j2 j3 j4 j5 j6 j7
 replace c0:w.cell? ⟨b,0,none⟩=some (.int .i64 1):=c0
 replace c1:w.cell? ⟨b,1,none⟩=some (p:Value):=c1
 replace c2:w.cell? ⟨b,2,none⟩=some (v:Value):=c2
 have ne1:(path.toArray=#[])=False:=by simp [hp]
 have ne2:path.isEmpty=false:=by cases path<;>simp_all
 have hsum:path.length+p.length≤9223372036854775000:=by omega
 have hnl:(9223372036854775807<path.length+p.length)=False:=by simp; omega
 have HBl:=ι hbk.lt;generalize KnotEnd w (.leaf (path++p) v)=P at HP ⊢;clear hw hs hT hbk hps hp hl j1 j2 j3 j4 j5 j6 j7;go_enter Tryz.func100,Tryz.ntmps100
 go_wp2
 go_region_held3 (fun w'=>w'.cell? ⟨b,1,none⟩=some (p:Value)∧w'.cell? ⟨b,2,none⟩=some (v:Value)) (first|go_keep|(constructor<;>assumption)) (first|(go_at_call 98; refine (HTd.out _ (by first|exact Below.refl _ _|exact (Below.refl _ _).drew)).mono ?_; rintro e w1 ⟨x,rfl,hk,hb⟩; have d1:=(hb.cell (p:=⟨b,1,none⟩) HBl.out).trans c1; have d2:=(hb.cell (p:=⟨b,2,none⟩) HBl.out).trans c2))
 go_wp2
 exact HP.out _ _ hk hb
theorem tied_ext (path:List UInt8) (t:Trie.T) (hw:Trie.wf (.ext path t)) (hs:Trie.small (.ext path t)) (hc:Trie.count t≤1000000) (x:Value) (w:World) (hT:Tbl w) (hk:KnotP w t x):
  ∀ W,Below w.heap.size w W→Calls Tryz.prog 136 #[.agg #[.int .i64 2,path,ε,ε,ε,ε,ε,ε,ε,ε,ε,ε,ε,ε,ε,ε,ε,ε,ε],.agg #[x,.pointer none,.pointer none,.pointer none,.pointer none,.pointer none,.pointer none,.pointer none,.pointer none,.pointer none,.pointer none,.pointer none,.pointer none,.pointer none,.pointer none,.pointer none]] W (KnotEnd w (.ext path t)):=
 knot_base fun W hW=>trie_tied (.ext path t) (by simp) hw hs hc (List.replicate 16 []) rfl (fun i _=>rep_getD _ _ _ _ i.isLt) (x::List.replicate 15 (.pointer none)) rfl W (hT.next hW) (fun i=>by
  rcases i with ⟨i,hi⟩
  rcases i with _|i
  ·exact hk.next hW
  ·rw [List.getD_cons_succ,rep_getD _ _ _ _ (by omega)];exact .nil)
theorem joined_ext (path p:List UInt8) (t:Trie.T) (hp:path≠ []) (hw:Trie.wf (.ext (path++p) t)) (hs:Trie.small (.ext (path++p) t)) (hc:Trie.count t≤1000000) (b:Nat) (ps:List Value) (hps:ps.length=16) (w:World) (hT:Tbl w)
  (hbk:Blk w b 136 (knotC (.ext p t) ps).toArray) (hk:KnotP w t (ps.getD 0 undef)):
  Calls Tryz.prog 100 #[path,.pointer (some ⟨b,0,none⟩)] w (KnotEnd w (.ext (path++p) t)):=by
 have HP:Hid (∀ x w',KnotP w' (.ext (path++p) t) x→Below w.heap.size w w'→KnotEnd w (.ext (path++p) t) (.returned x) w'):=ι (fun x w' h1 h2=>⟨x,rfl,h1,h2⟩);have hl:=Trie.small_ext_path hw hs;rw [List.length_append] at hl;have HTd:=ι (tied_ext (path++p) t hw hs hc (ps.getD 0 undef) w hT hk);obtain ⟨⟨c0,c1,c2,_,_⟩,kr,_,_,_,_⟩:=KnotAt.of (Trie.sumsT_length _) hps hbk;rename_i j1 j2 j4 j5 j6 j7
 replace c0:w.cell? ⟨b,0,none⟩=some (.int .i64 2):=c0
 replace c1:w.cell? ⟨b,1,none⟩=some (p:Value):=c1
 have c19:w.cell? ⟨b,19,none⟩=some (ps.getD 0 undef):=kr 0 _ (by rw [List.getD_eq_getElem?_getD,List.getElem?_eq_getElem (show 0<ps.length by omega)]; rfl);have h1c:=hk.one;have ne1:(path.toArray=#[])=False:=by simp [hp]
 have ne2:path.isEmpty=false:=by cases path<;>simp_all
 have hsum:path.length+p.length≤9223372036854775000:=by omega
 have hnl:(9223372036854775807<path.length+p.length)=False:=by simp; omega
 obtain ⟨b2,hy⟩:∃ b2,ps.getD 0 undef= .pointer (some ⟨b2,0,none⟩):=by
  rcases hk.form with ⟨h,_⟩|⟨b2,_,_,h,_⟩
  ·rw [h] at hw; exact absurd hw.2.2.1 (by simp [Trie.isBranch])
  ·exact ⟨b2,h⟩
 rw [hy] at c19 HTd;generalize KnotEnd w (.ext (path++p) t)=P at HP ⊢;clear hw hs hT hbk hps hp hl j1 j2 j4 j5 j6 j7 kr c2 hk;clear hy h1c;go_enter Tryz.func100,Tryz.ntmps100
 go_wp2
 go_region_held3 (fun w'=>w'.cell? ⟨b,1,none⟩=some (p:Value)∧w'.cell? ⟨b,19,none⟩=some (.pointer (some ⟨b2,0,none⟩))) (first|go_keep|(constructor<;>assumption)) (fail)
 go_wp2_with (go_at_call 136; refine (HTd.out _ (Below.refl _ _).drew).mono ?_; rintro e w1 ⟨x,rfl,hk,hb⟩)
 exact HP.out _ _ hk hb
theorem joined_branch (path v:List UInt8) (kids:Fin 16→Trie.T) (hp:path≠ []) (hw:Trie.wf (.ext path (.branch v kids))) (hs:Trie.small (.ext path (.branch v kids))) (hc:Trie.count (.branch v kids)≤1000000) (b:Nat) (ps:List Value) (hps:ps.length=16) (w:World) (hT:Tbl w)
  (hbk:Blk w b 136 (knotC (.branch v kids) ps).toArray) (hk:KnotP w (.branch v kids) (.pointer (some ⟨b,0,none⟩))):
  Calls Tryz.prog 100 #[path,.pointer (some ⟨b,0,none⟩)] w (KnotEnd w (.ext path (.branch v kids))):=by
 have HP:Hid (∀ x w',KnotP w' (.ext path (.branch v kids)) x→Below w.heap.size w w'→KnotEnd w (.ext path (.branch v kids)) (.returned x) w'):=ι (fun x w' h1 h2=>⟨x,rfl,h1,h2⟩);have HTd:=ι (tied_ext path _ hw hs hc _ w hT hk);obtain ⟨⟨c0,c1,c2,_,_⟩,kr,_,_,_,_⟩:=KnotAt.of (Trie.sumsT_length _) hps hbk;rename_i j1 j2 j4 j5 j6 j7
 replace c0:w.cell? ⟨b,0,none⟩=some (.int .i64 3):=c0
 have ne1:(path.toArray=#[])=False:=by simp [hp]
 have ne2:path.isEmpty=false:=by cases path<;>simp_all
 generalize KnotEnd w (.ext path (.branch v kids))=P at HP ⊢;clear hw hs hT hbk hps hp j1 j2 j4 j5 j6 j7 kr c2 c1 hk;go_enter Tryz.func100,Tryz.ntmps100
 go_wp2_with (go_at_call 136; refine (HTd.out _ (Below.refl _ _)).mono ?_; rintro e w1 ⟨x,rfl,hk,hb⟩)
 exact HP.out _ _ hk hb
theorem trie_joined (path:List UInt8) (t:Trie.T) (hn:t≠ .nil) (hw:Trie.wf (Trie.joined path t)) (hs:Trie.small (Trie.joined path t)) (hc:Trie.count t≤1000000) (x:Value) (w:World) (hT:Tbl w) (hk:KnotP w t x):
  Calls Tryz.prog 100 #[path,x] w (KnotEnd w (Trie.joined path t)):=by
 by_cases hp:path= []
 ·subst hp;rw [show Trie.joined [] t=t by simp [Trie.joined]];exact joined_nil t x w hk
 ·rcases hk.form with ⟨h,_⟩|⟨b,ps,_,rfl,hps,hbk,hks⟩
  ·exact absurd h hn
  ·cases t with
   |nil=>exact absurd rfl hn
   |leaf p v=>
    simp only [Trie.joined,if_neg hp] at hw hs ⊢;exact joined_leaf path p v hp hw hs b ps hps w hT hbk
   |ext p t=>
    simp only [Trie.joined,if_neg hp] at hw hs ⊢;exact joined_ext path p t hp hw hs hc b ps hps w hT hbk (hks 0)
   |branch v kids=>
    simp only [Trie.joined,if_neg hp] at hw hs ⊢;exact joined_branch path v kids hp hw hs hc b ps hps w hT hbk hk
end
namespace Trie
open Nib
theorem sum_one {α:Type} [DecidableEq α] (f:α→Nat) (i:α) (a:Nat):∀ l:List α,l.Nodup→i∈l→(l.map fun j=>if j=i then a else f j).sum+f i=(l.map f).sum+a
 | [],_,h=>by simp at h
 |x::l,hn,h=>by
  rw [List.nodup_cons] at hn;simp only [List.map_cons,List.sum_cons];by_cases e:x=i
  ·subst e
   have:(l.map fun j=>if j=x then a else f j)=l.map f:=List.map_congr_left fun j hj=>by
    rw [if_neg (show ¬j=x from fun e=>hn.1 (by rw [←e]; exact hj))]
   rw [this,if_pos rfl]; omega
  ·have hi:i∈l:=by
    rcases List.mem_cons.1 h with h|h
    ·exact absurd h.symm e
    ·exact h
   have:=sum_one f i a l hn.2 hi
   rw [if_neg e]; omega
def kidsCount (kids:Fin 16→T):Nat:=((List.finRange 16).map fun i=>count (kids i)).sum
theorem count_branch (v:List UInt8) (kids:Fin 16→T):count (.branch v kids)=(if v= [] then 0 else 1)+kidsCount kids:=rfl
theorem kidsCount_set (kids:Fin 16→T) (b:UInt8) (t:T):kidsCount (setKid kids b t)+count (kids (ix b))=kidsCount kids+count t:=by
 have:=sum_one (fun i=>count (kids i)) (ix b) (count t) (List.finRange 16) (List.nodup_finRange 16) (List.mem_finRange _)
 have e:(fun i=>count (setKid kids b t i))=fun j=>if j=ix b then count t else count (kids j):=by
  funext j; unfold setKid; split<;>rfl
 unfold kidsCount;rw [e]; exact this
theorem kidsCount_none:kidsCount noKids=0:=by
 unfold kidsCount;rw [show (fun i=>count (noKids i))=fun _=>0 from rfl,sum_zero]
theorem count_joined (path:List UInt8) (t:T):count (joined path t)=count t:=by
 unfold joined
 split
 ·rfl
 ·cases t<;>rfl
theorem count_oneKids (old:List UInt8) (f:List UInt8→T) (n:Nat) (h:∀ b r,old=b::r→count (f r)≤n):kidsCount (oneKids old f)≤n∧(old= []→kidsCount (oneKids old f)=0):=by
 cases old with
 |nil=>simp [oneKids,kidsCount_none]
 |cons b r=>
  have:=kidsCount_set noKids b (f r)
  have h2:=h b r rfl;rw [kidsCount_none,show count (noKids (ix b))=0 from rfl] at this;simp only [oneKids];exact ⟨by omega,by simp⟩
theorem count_partedG (old w path v:List UInt8) (f:List UInt8→T) (n:Nat) (h1:old= []→(if w= [] then 0 else 1)≤n) (h:∀ b r,old=b::r→count (f r)≤n):count (partedG old f w path v)≤n+1:=by
 obtain ⟨k1,k2⟩:=count_oneKids old f n h;cases path with
 |nil=>
  simp only [partedG,count_branch]
  split<;>omega
 |cons b r=>
  simp only [partedG,count_branch]
  have:=kidsCount_set (oneKids old f) b (.leaf r v)
  rw [show count (.leaf r v)=1 from rfl] at this;cases old with
  |nil=>
   have:=k2 rfl
   have:=h1 rfl
   rw [show oneOwn [] w=w from rfl];omega
  |cons a o=>simp only [oneOwn,if_true]; omega
theorem count_put (t:T):∀ q v,count (put t q v)≤count t+1:=by
 induction t with
 |nil=>intro q v; simp [put,count]
 |leaf p w=>
  intro q v;simp only [put]
  split
  ·simp [count]
  ·rw [count_joined];exact count_partedG _ _ _ _ _ 1 (fun _=>by split<;>omega) (fun b r _=>by simp [count])
 |ext p t ih=>
  intro q v;simp only [put]
  split
  ·rw [count_joined]; exact ih _ _
  ·rw [count_joined];exact count_partedG _ _ _ _ _ (count t) (fun _=>by simp) (fun b r _=>by rw [count_joined]; exact Nat.le_refl _)
 |branch w kids ih=>
  intro q v;cases q with
  |nil=>simp only [put,count_branch]; split<;>omega
  |cons b r=>
   simp only [put,count_branch]
   have:=kidsCount_set kids b (put (kids (ix b)) r v)
   have:=ih (ix b) r v
   omega
theorem count_kid (v:List UInt8) (kids:Fin 16→T) (i:Fin 16):count (kids i)≤count (.branch v kids):=by
 rw [count_branch]
 have:count (kids i)≤kidsCount kids:=by
  unfold kidsCount
  have:=sum_one (fun i=>count (kids i)) i 0 (List.finRange 16) (List.nodup_finRange 16) (List.mem_finRange _)
  simp only [Nat.add_zero] at this;omega
 omega
theorem small_put {t:T} {q v:List UInt8} (hw:wf t) (hs:small t) (hq:fit q=true) (hl:q.length≤16) (hv:v≠ []) (hvl:v.length≤32):wf (put t q v)∧small (put t q v):=by
 obtain ⟨h1,h2,_⟩:=put_spec t q v hw hq hv;refine ⟨h1,fun r hr hne=> ?_⟩;rw [h2 r hr] at hne ⊢
 split
 ·rename_i e; subst e; exact ⟨hl,hvl⟩
 ·rename_i e;rw [if_neg e] at hne;exact hs r hr hne
theorem of_joined_branch {path:List UInt8} {t:T} (hb:isBranch t=true) (hp:fit path=true) (hw:wf (joined path t)) (hs:small (joined path t)):wf t∧small t:=by
 by_cases h:path= []
 ·subst h;simp only [joined,if_true] at hw hs;exact ⟨hw,hs⟩
 ·obtain ⟨v,kids,rfl⟩:=branch_of hb;simp only [joined,if_neg h] at hw hs;exact ⟨hw.2.2.2,small_ext hp hs⟩
theorem isBranch_partedG (old w path v:List UInt8) (f:List UInt8→T):isBranch (partedG old f w path v)=true:=by cases path<;>rfl
theorem small_joined_tail {p o:List UInt8} {a:UInt8} {c:Nat} {s:T} (hd:p.drop c=a::o) (hp:fit p=true) (hn:s≠ .nil) (hs:small (.ext p s)):small (joined o s):=by
 intro r hr hne;have hfo:fit o=true:=by
  have:=fit_drop c hp
  rw [hd] at this;exact (fit_cons'.1 this).2
 rw [joined_look _ _ hn] at hne ⊢
 split at hne
 ·rename_i h;rw [if_pos h];have hfr:fit (r.drop o.length)=true:=fit_drop _ hr
  have:=hs (p++r.drop o.length) (fit_append.2 ⟨hp,hfr⟩) (by rw [look_ext]; exact hne)
  rw [look_ext,List.length_append] at this;have hl:=congrArg List.length hd;rw [List.length_drop,List.length_cons] at hl;have hr2:=congrArg List.length h;rw [List.length_append] at hr2;exact ⟨by omega,this.2⟩
 ·exact absurd rfl hne
end Trie
theorem bl_irrefl:∀ a:List UInt8,Op.bytesLess a a=false
 | []=>rfl
 |a::x=>by simp [Op.bytesLess,bl_irrefl x]
theorem bl_trans:∀ a b c:List UInt8,Op.bytesLess a b=true→Op.bytesLess b c=true→Op.bytesLess a c=true
 |_,[],_,h,_=>by simp [Op.bytesLess] at h
 |_,_::_,[],_,h=>by simp [Op.bytesLess] at h
 | [],_::_,_::_,_,_=>by simp [Op.bytesLess]
 |a::x,b::y,c::z,h1,h2=>by
  simp only [Op.bytesLess,Bool.or_eq_true,Bool.and_eq_true,decide_eq_true_eq,beq_iff_eq,UInt8.lt_iff_toNat_lt] at *;rcases h1 with h1|⟨rfl,h1⟩
  ·rcases h2 with h2|⟨rfl,h2⟩
   ·exact .inl (by omega)
   ·exact .inl h1
  ·rcases h2 with h2|⟨rfl,h2⟩
   ·exact .inl h2
   ·exact .inr ⟨rfl,bl_trans x y z h1 h2⟩
theorem bl_tri:∀ a b:List UInt8,Op.bytesLess a b=false→Op.bytesLess b a=false→a=b
 | [],[],_,_=>rfl
 | [],_::_,h,_=>by simp [Op.bytesLess] at h
 |_::_,[],_,h=>by simp [Op.bytesLess] at h
 |a::x,b::y,h1,h2=>by
  simp only [Op.bytesLess,Bool.or_eq_false_iff,Bool.and_eq_false_iff,decide_eq_false_iff_not,UInt8.lt_iff_toNat_lt] at *;have e:a=b:=UInt8.toNat_inj.1 (by omega);subst e;simp at h1 h2
  rw [bl_tri x y h1 h2]
theorem bl_asymm (a b:List UInt8) (h:Op.bytesLess a b=true):Op.bytesLess b a=false:=by
 cases h2:Op.bytesLess b a with
 |false=>rfl
 |true=>have:=bl_trans a b a h h2; rw [bl_irrefl] at this; cases this
section
open Go.RowKit Go.Instr
attribute [local go_sem] ba_get ByteArray.mk_append_mk
def TextREnd (w:World) (g:Nat) (all:List UInt8) (r:List UInt8 × List UInt8 × Nat) (e:Ending) (w':World):Prop:=
 ∃ a',e= .returned (.tuple #[r.1,r.2.2])∧RdB w' g all a' 0∧a'≤all.length∧(r.2.2=0→all.drop a'=r.2.1)∧w.grownBy w' (some g)
theorem code_text (w:World) (g:Nat) (all:List UInt8) (a:Nat) (h:RdB w g all a 0) (hl:all.length≤1000000) (ha:a≤all.length) (most:Nat) (hm:most≤1000000):
  Calls Tryz.prog 154 #[.pointer (some ⟨g,0,none⟩),most] w (TextREnd w g all (txtT (all.drop a) most)):=by
 have HP:Hid (∀ (t:List UInt8) rest c a' w',txtT (all.drop a) most=(t,rest,c)→RdB w' g all a' 0→a'≤all.length→(c=0→all.drop a'=rest)→w.grownBy w' (some g)→TextREnd w g all (txtT (all.drop a) most) (.returned (.tuple #[t,c])) w'):=ι (fun t rest c a' w' e h1 h2 h3 h4=>by
  unfold TextREnd;rw [e];exact ⟨a',rfl,h1,h2,h3,h4⟩)
 generalize TextREnd w g all (txtT (all.drop a) most)=P at HP ⊢;have HN:=ι (code_number w g all a h hl ha);have HL:=ι hl;have HX:Hid (txtT (all.drop a) most=if (numT (all.drop a)).2.2≠0 then ([],[],(numT (all.drop a)).2.2) else if most<(numT (all.drop a)).1 then ([],[],2) else if (numT (all.drop a)).2.1.length<(numT (all.drop a)).1 then ([],[],20)
  else ((numT (all.drop a)).2.1.take (numT (all.drop a)).1,(numT (all.drop a)).2.1.drop (numT (all.drop a)).1,0)):=ι rfl
 clear h hl ha;cases he:(numT (all.drop a)).2.2 with
 |zero=>
  have hlt:=numT_lt (s:=all.drop a) (r:=(numT (all.drop a)).2.1) (n:=(numT (all.drop a)).1) (by rw [←he]);unfold NumbEnd at HN;rw [he] at HN HX;simp only [ne_eq,not_true_eq_false,if_false] at HX;clear he;generalize (numT (all.drop a)).1=n at *;generalize (numT (all.drop a)).2.1=r at *;by_cases hmn:most<n
  ·have HX1:Hid (txtT (all.drop a) most=([],[],2)):=ι (by rw [HX.out,if_pos hmn]);have hI:(most:Int)<n:=by omega
   clear HX hmn;go_enter Tryz.func154,Tryz.ntmps154
   go_wp2_with fail
   refine HN.out.mono ?_;rintro e w1 ⟨a',rfl,h1,h2,h3,h4⟩;have HF:=ι (HP.out [] [] 2 a' w1 HX1.out h1 h2 (fun e=>by cases e) h4);clear h1 h2 h3 h4;go_wp2_with fail
   exact HF.out
  ·have hI:((most:Int)<n)=False:=by simp; omega
   by_cases hrn:r.length<n
   ·have HX1:Hid (txtT (all.drop a) most=([],[],20)):=ι (by rw [HX.out,if_neg hmn,if_pos hrn]);have HRn:Hid (¬n≤r.length):=ι (by omega);clear HX hmn hrn;go_enter Tryz.func154,Tryz.ntmps154
    go_wp2_with fail
    refine HN.out.mono ?_;rintro e w1 ⟨a',rfl,h1,h2,h3,h4⟩;have HT:=ι (code_take w1 g all a' 0 h1 HL.out h2 n hlt);rw [h3 (by first|exact trivial|rfl),if_neg HRn.out,if_neg HRn.out,decide_eq_false HRn.out] at HT;have HG:=ι (And.intro h2 h4);clear h1 h2 h3 h4;go_wp2_with fail
    refine HT.out.mono ?_;rintro e w2 ⟨rfl,h5,h6⟩;have HF:=ι (HP.out [] [] 20 a' w2 HX1.out h5 HG.out.1 (fun e=>by cases e) (HG.out.2.trans h6));clear h5 h6;go_wp2_with fail
    exact HF.out
   ·have HX1:Hid (txtT (all.drop a) most=(r.take n,r.drop n,0)):=ι (by rw [HX.out,if_neg hmn,if_neg hrn]);have HRn:Hid (n≤r.length):=ι (by omega);clear HX hmn hrn;go_enter Tryz.func154,Tryz.ntmps154
    go_wp2_with fail
    refine HN.out.mono ?_;rintro e w1 ⟨a',rfl,h1,h2,h3,h4⟩;have HD:=ι (h3 (by first|exact trivial|rfl));have HT:=ι (code_take w1 g all a' 0 h1 HL.out h2 n hlt);rw [HD.out,if_pos HRn.out,if_pos HRn.out,decide_eq_true HRn.out] at HT;have HG:=ι (And.intro h2 h4);clear h1 h2 h3 h4;go_wp2_with fail
    refine HT.out.mono ?_;rintro e w2 ⟨rfl,h5,h6⟩;have HF:=ι (HP.out (r.take n) (r.drop n) 0 (a'+n) w2 HX1.out h5 (by
     have h0:=congrArg List.length HD.out;rw [List.length_drop] at h0;have h1:=HRn.out;have h2:=HG.out.1;omega) (fun _=>by rw [←HD.out,List.drop_drop]) (HG.out.2.trans h6))
    clear h5 h6 HX1 HP;generalize r.take n=piece at *;go_wp2_with fail
    exact HF.out
 |succ m=>
  have HX1:Hid (txtT (all.drop a) most=([],[],m+1)):=ι (by rw [HX.out,he,if_pos (by omega)]);unfold NumbEnd at HN;rw [he] at HN;have hm1:(((m+1:Nat):Int) !=0)=true:=by simp; omega
  have HNz:Hid (m+1≠0):=ι (by omega);clear he HX;generalize (numT (all.drop a)).1=n at *;generalize (numT (all.drop a)).2.1=r at *;generalize m+1=c' at *;go_enter Tryz.func154,Tryz.ntmps154
  go_wp2_with fail
  refine HN.out.mono ?_;rintro e w1 ⟨a',rfl,h1,h2,h3,h4⟩;have HF:=ι (HP.out [] [] c' a' w1 HX1.out h1 h2 (fun e=>absurd e HNz.out) h4);clear h1 h2 h3 h4;go_wp2_with fail
  exact HF.out
theorem code_text_no (w:World) (g:Nat) (all:List UInt8) (a c:Nat) (h:RdB w g all a c) (hc:c≠0) (most:Nat):
  Calls Tryz.prog 154 #[.pointer (some ⟨g,0,none⟩),most] w (RdEnd w g all (.tuple #[ε,c]) a c):=by
 have HN:=ι (code_number_no w g all a c h hc);have HP:Hid (∀ w',RdB w' g all a c→w.grownBy w' (some g)→RdEnd w g all (.tuple #[ε,c]) a c (.returned (.tuple #[ε,c])) w'):=ι (fun w' a b=>⟨rfl,a,b⟩);generalize RdEnd w g all (.tuple #[ε,c]) a c=P at HP ⊢;have hc1:((c:Int) !=0)=true:=by simp; exact hc
 clear h hc;go_enter Tryz.func154,Tryz.ntmps154
 go_wp2_with fail
 refine HN.out.mono ?_;rintro e w1 ⟨rfl,h1,h4⟩;have HF:=ι (HP.out w1 h1 h4);clear h1 h4;go_wp2_with fail
 exact HF.out
theorem code_RText (w:World) (g:Nat) (s:List UInt8 × Nat) (h:Rdr w g s) (most:Nat) (hm:most≤1000000):
  Calls Tryz.prog 118 #[.pointer (some ⟨g,0,none⟩),most] w (RdrEnd w g (.string ⟨(txtS s most).1.toArray⟩) (txtS s most).2):=by
 obtain ⟨rest,c⟩:=s;obtain ⟨all,a,hB,ha,hl,hr⟩:=h;simp only at hB hr;subst hr;have HP:Hid (∀ (t:List UInt8) s' w',txtS (all.drop a,c) most=(t,s')→Rdr w' g s'→w.grownBy w' (some g)→RdrEnd w g (.string ⟨(txtS (all.drop a,c) most).1.toArray⟩) (txtS (all.drop a,c) most).2 (.returned (t:Value)) w'):=ι (fun n s' w' e h1 h2=>by rw [e]; exact ⟨rfl,h1,h2⟩);generalize RdrEnd w g (.string ⟨(txtS (all.drop a,c) most).1.toArray⟩) (txtS (all.drop a,c) most).2=P at HP ⊢;obtain ⟨c0,c1,c2,f1,f2⟩:=hB.cells;have HB:=ι hB;have HL:=ι (And.intro ha hl);by_cases hc:c=0
 ·subst hc;have HN:=ι (code_text w g all a hB hl ha most hm);clear hB ha hl;cases he:(txtT (all.drop a) most).2.2 with
  |zero=>
   have HS:Hid (txtS (all.drop a,0) most=((txtT (all.drop a) most).1,((txtT (all.drop a) most).2.1,0))):=ι (by simp [txtS,he]);unfold TextREnd at HN;rw [he] at HN;clear he;generalize (txtT (all.drop a) most).1=t at *;generalize (txtT (all.drop a) most).2.1=r at *;go_enter Tryz.func118,Tryz.ntmps118
   go_wp2_with fail
   refine HN.out.mono ?_;rintro e w1 ⟨a',rfl,h1,h2,h3,h4⟩;have HF:=ι (HP.out t (r,0) w1 HS.out ⟨all,a',h1,h2,HL.out.2,h3 (by first|exact trivial|rfl)⟩ h4);clear h1 h2 h3 h4;go_wp2_with fail
   exact HF.out
  |succ m=>
   have HS:Hid (txtS (all.drop a,0) most=([],(all.drop a,m+1))):=ι (by simp [txtS,he]);unfold TextREnd at HN;rw [he] at HN;have hm1:(((m+1:Nat):Int) !=0)=true:=by simp; omega
   clear he;generalize (txtT (all.drop a) most).1=t at *;generalize (txtT (all.drop a) most).2.1=r at *;generalize m+1=c' at *;go_enter Tryz.func118,Tryz.ntmps118
   go_wp2_with fail
   refine HN.out.mono ?_;rintro e w1 ⟨a',rfl,h1,h2,h3,h4⟩;have HR:=ι (code_refused w1 g all a' 0 h1 a c');rw [if_pos rfl,if_pos rfl] at HR;have HG:=ι h4;clear h1 h2 h3 h4;go_wp2_with fail
   refine HR.out.mono ?_;rintro e w2 ⟨rfl,h5,h6⟩;have HF:=ι (HP.out [] (all.drop a,c') w2 HS.out ⟨all,a,h5,HL.out.1,HL.out.2,rfl⟩ (HG.out.trans h6));clear h5 h6;go_wp2_with fail
   exact HF.out
 ·have HN:=ι (code_text_no w g all a c hB hc most);have HS:Hid (txtS (all.drop a,c) most=([],(all.drop a,c))):=ι (by simp [txtS,hc]);have HC:=ι hc;have hm1:((c:Int) !=0)=true:=by simp; exact hc
  clear hB ha hl hc;go_enter Tryz.func118,Tryz.ntmps118
  go_wp2_with fail
  refine HN.out.mono ?_;rintro e w1 ⟨rfl,h1,h4⟩;have HR:=ι (code_refused w1 g all a c h1 a c);rw [if_neg HC.out,if_neg HC.out] at HR;have HG:=ι h4;clear h1 h4;go_wp2_with fail
  refine HR.out.mono ?_;rintro e w2 ⟨rfl,h5,h6⟩;have HF:=ι (HP.out [] (all.drop a,c) w2 HS.out ⟨all,a,h5,HL.out.1,HL.out.2,rfl⟩ (HG.out.trans h6));clear h5 h6;go_wp2_with fail
  exact HF.out
def rcV (c:Int) (f:List UInt8) (q:Int):Value:= .agg #[c,f,q]
def rcOk (c:Int) (f:List UInt8) (q:Int):Prop:=0≤c∧c≤1000∧f≠ []∧f.length≤6∧0≤q∧q≤1099511627776
instance (c:Int) (f:List UInt8) (q:Int):Decidable (rcOk c f q):=by unfold rcOk; infer_instance
def encW (c:Int) (f:List UInt8) (q:Int):List UInt8 × Nat:=if rcOk c f q then (numW c.toNat++textW f++numW q.toNat,0) else ([],3)
def REncEnd (w:World) (r:List UInt8 × Nat) (e:Ending) (w':World):Prop:=e= .returned (.tuple #[r.1,r.2])∧Below w.heap.size w w'
theorem z_15 {P:Prop} (h:P:=by
 clear HG;go_enter Tryz.func117,Tryz.ntmps117
 go_upto_region 1 with fail
 have F0:Hid (Blk (w.alloc (.cells #[c,f,q] 75)) w.heap.size 75 #[c,f,q]∧Below w.heap.size w (w.alloc (.cells #[c,f,q] 75))):=ι ⟨Blk.new _ _ _,by go_grown⟩;generalize World.alloc w _=W0 at F0 ⊢;have k0:W0.cell? ⟨w.heap.size,0,none⟩=some (.int .i64 c):=F0.out.1.cell 0;have k1:W0.cell? ⟨w.heap.size,1,none⟩=some (f:Value):=F0.out.1.cell 1;have k2:W0.cell? ⟨w.heap.size,2,none⟩=some (.int .i64 q):=F0.out.1.cell 2;generalize w.heap.size=B at *;go_wp2
 first|exact HB.out HNo.out _ F0.out.2|(go_ret; exact HB.out HNo.out _ F0.out.2)):P:=h
theorem receipt_Encode (c:Int) (f:List UInt8) (q:Int) (hf:f.length≤9223372036854775807) (w:World):
  Calls Tryz.prog 117 #[rcV c f q] w (REncEnd w (encW c f q)):=by
 have HB:Hid (¬rcOk c f q→∀ w',Below w.heap.size w w'→REncEnd w (encW c f q) (.returned (.tuple #[ε,.int .i64 3])) w'):=ι (fun h w' hb=>by
  rw [encW,if_neg h]; exact ⟨rfl,hb⟩)
 have HG:Hid (rcOk c f q→∀ w',Below w.heap.size w w'→REncEnd w (encW c f q) (.returned (.tuple #[.string ⟨(numW c.toNat++textW f++numW q.toNat).toArray⟩,ζ])) w'):=ι (fun h w' hb=>by
  rw [encW,if_pos h]; exact ⟨rfl,hb⟩)
 generalize REncEnd w (encW c f q)=P at HB HG ⊢;unfold rcV;by_cases h1:c<0
 ·have HNo:Hid (¬rcOk c f q):=ι (fun h=>by have:=h.1; omega);have g1:(c<0)=True:=by simp [h1]
  clear hf h1;exact z_15
 have g1:(c<0)=False:=by simp; omega
 by_cases h2:1000<c
 ·have HNo:Hid (¬rcOk c f q):=ι (fun h=>by have:=h.2.1; omega);clear hf h1;exact z_15
 have g2:(1000<c)=False:=by simp; omega
 by_cases h3:f= []
 ·have HNo:Hid (¬rcOk c f q):=ι (fun h=>h.2.2.1 h3);subst h3;clear hf h1 h2;clear HG;go_enter Tryz.func117,Tryz.ntmps117
  go_upto_region 1 with fail
  have F0:Hid (Blk (w.alloc (.cells #[c,ε,q] 75)) w.heap.size 75 #[c,ε,q]∧Below w.heap.size w (w.alloc (.cells #[c,ε,q] 75))):=ι ⟨Blk.new _ _ _,by go_grown⟩;generalize World.alloc w _=W0 at F0 ⊢;have k0:W0.cell? ⟨w.heap.size,0,none⟩=some (.int .i64 c):=F0.out.1.cell 0;have k1:W0.cell? ⟨w.heap.size,1,none⟩=some (.string ⟨#[]⟩):=F0.out.1.cell 1;have k2:W0.cell? ⟨w.heap.size,2,none⟩=some (.int .i64 q):=F0.out.1.cell 2;generalize w.heap.size=B at *;go_wp2
  first|exact HB.out HNo.out _ F0.out.2|(go_ret; exact HB.out HNo.out _ F0.out.2)
 have g3:(f= [])=False:=by simp [h3]
 have g3b:f.isEmpty=false:=by simp [h3]
 by_cases h4:6<f.length
 ·have HNo:Hid (¬rcOk c f q):=ι (fun h=>by have:=h.2.2.2.1; omega);have g4:(6:Int)<(f.length:Int):=by omega
  clear hf h1 h2 h3 h4;exact z_15
 have g4:((6:Int)<(f.length:Int))=False:=by simp; omega
 by_cases h5:q<0
 ·have HNo:Hid (¬rcOk c f q):=ι (fun h=>by have:=h.2.2.2.2.1; omega);clear hf h1 h2 h3 h4;exact z_15
 have g5:(q<0)=False:=by simp; omega
 by_cases h6:1099511627776<q
 ·have HNo:Hid (¬rcOk c f q):=ι (fun h=>by have:=h.2.2.2.2.2; omega);clear hf h1 h2 h3 h4 h5;exact z_15
 have g6:(1099511627776<q)=False:=by simp; omega
 have HYes:Hid (rcOk c f q):=ι ⟨by omega,by omega,h3,by omega,by omega,by omega⟩;obtain ⟨cn,rfl⟩:=Int.eq_ofNat_of_zero_le (show 0≤c by omega);obtain ⟨qn,rfl⟩:=Int.eq_ofNat_of_zero_le (show 0≤q by omega);have N1:Hid (∀ W:World,Calls Tryz.prog 123 #[cn] W fun e w'=>e= .returned (.tuple #[.string ⟨(numW cn).toArray⟩,ζ])∧Below W.heap.size W w'):=ι (fun W=>code_Num cn (by omega) W);have N2:Hid (∀ W:World,Calls Tryz.prog 123 #[qn] W fun e w'=>e= .returned (.tuple #[.string ⟨(numW qn).toArray⟩,ζ])∧Below W.heap.size W w'):=ι (fun W=>code_Num qn (by omega) W);have N3:Hid (∀ W:World,Calls Tryz.prog 124 #[f] W fun e w'=>e= .returned (.string ⟨(textW f).toArray⟩)∧Below W.heap.size W w'):=ι (fun W=>code_Text f (by omega) W)
 replace HG:=ι (HG.out HYes.out)
 simp only [Int.toNat_natCast] at HG;have HL:Hid ((numW cn).length≤9∧(textW f).length≤1000009∧(numW qn).length≤9):=ι ⟨numW_len cn (by omega),by rw [textW,List.length_append]; have:=numW_len f.length (by omega); omega,numW_len qn (by omega)⟩;clear HB HYes hf h1 h2 h3 h4 h5 h6;go_enter Tryz.func117,Tryz.ntmps117
 go_upto_region 1 with fail
 have F0:Hid (Blk (w.alloc (.cells #[cn,f,qn] 75)) w.heap.size 75 #[cn,f,qn]∧Below w.heap.size w (w.alloc (.cells #[cn,f,qn] 75))):=ι ⟨Blk.new _ _ _,by go_grown⟩;generalize World.alloc w _=W0 at F0 ⊢;have HLt:=ι F0.out.1.lt;have k0:W0.cell? ⟨w.heap.size,0,none⟩=some (.int .i64 (cn:Int)):=F0.out.1.cell 0;have k1:W0.cell? ⟨w.heap.size,1,none⟩=some (f:Value):=F0.out.1.cell 1;have k2:W0.cell? ⟨w.heap.size,2,none⟩=some (.int .i64 (qn:Int)):=F0.out.1.cell 2;generalize hB:w.heap.size=B at *;clear hB;go_wp2_with fail
 refine (N1.out _).mono ?_;rintro e w1 ⟨rfl,hb⟩;have F1:Hid (W0.heap.size≤w1.heap.size∧Below B w w1):=ι ⟨hb.size,F0.out.2.trans (hb.mono (Nat.le_of_lt HLt.out))⟩;have j0:=(hb.cell (p:=⟨B,0,none⟩) HLt.out).trans k0;have j1:=(hb.cell (p:=⟨B,1,none⟩) HLt.out).trans k1;have j2:=(hb.cell (p:=⟨B,2,none⟩) HLt.out).trans k2;clear hb k0 k1 k2;go_wp2_with fail
 refine (N2.out _).mono ?_;rintro e w2 ⟨rfl,hb⟩;have F2:Hid (W0.heap.size≤w2.heap.size∧Below B w w2):=ι ⟨Nat.le_trans F1.out.1 hb.size,F1.out.2.trans (hb.mono (Nat.le_of_lt (Nat.lt_of_lt_of_le HLt.out F1.out.1)))⟩;have k1:=(hb.cell (p:=⟨B,1,none⟩) (Nat.lt_of_lt_of_le HLt.out F1.out.1)).trans j1;clear hb j0 j1 j2;go_wp2_with fail
 refine (N3.out _).mono ?_;rintro e w3 ⟨rfl,hb⟩;have F3:Hid (Below B w w3):=ι (F2.out.2.trans (hb.mono (Nat.le_of_lt (Nat.lt_of_lt_of_le HLt.out F2.out.1))));clear hb k1;obtain ⟨l1,l2,l3⟩:=HL.out;clear HL N1 N2 N3;generalize numW cn=X at *;generalize textW f=Y at *;generalize numW qn=Z at *;have m1:X.length+Y.length≤9223372036854775807:=by omega
 have m2:X.length+Y.length+Z.length≤9223372036854775807:=by omega
 have m3:X.length+(Y.length+Z.length)≤9223372036854775807:=by omega
 clear l1 l2 l3;go_wp2
 first|exact HG.out _ F3.out|(simp only [List.append_assoc] at HG ⊢; exact HG.out _ F3.out)
def decW (s:List UInt8):(Nat × List UInt8 × Nat) × Nat:=
 if endS (numS (txtS (numS (s,0)).2 6).2).2≠0∨1000<(numS (s,0)).1∨¬rcOk ((numS (s,0)).1:Int) (txtS (numS (s,0)).2 6).1 ((numS (txtS (numS (s,0)).2 6).2).1:Int) then ((0,[],0),3)
 else (((numS (s,0)).1,(txtS (numS (s,0)).2 6).1,(numS (txtS (numS (s,0)).2 6).2).1),0)
theorem txtS_len (s:List UInt8 × Nat) (m:Nat):(txtS s m).1.length≤m:=by
 unfold txtS
 split
 ·simp
 split
 ·unfold txtT
  split
  ·simp
  split
  ·simp
  split
  ·simp
  ·rw [List.length_take]; omega
 ·simp
theorem decW_of {s t:List UInt8} {s1 s2 s3:List UInt8 × Nat} {n q:Nat} (hA:numS (s,0)=(n,s1)) (hT:txtS s1 6=(t,s2)) (hQ:numS s2=(q,s3)):
  decW s=if endS s3≠0∨1000<n∨¬rcOk (n:Int) t (q:Int) then ((0,[],0),3) else ((n,t,q),0):=by
 simp only [decW,hA,hT,hQ]
theorem Rdr.below {w w':World} {B g:Nat} {s:List UInt8 × Nat} (h:Rdr w g s) (hb:Below B w w') (hg:g<B):Rdr w' g s:=by
 obtain ⟨all,a,h1,h2⟩:=h;exact ⟨all,a,Blk.below h1 hb hg,h2⟩
def DecEnd (w:World) (r:(Nat × List UInt8 × Nat) × Nat) (e:Ending) (w':World):Prop:=e= .returned (.tuple #[rcV (r.1.1:Int) r.1.2.1 (r.1.2.2:Int),.int .i64 (r.2:Int)])∧Below w.heap.size w w'
structure DecS (w W:World) (R:Nat) (s:List UInt8 × Nat):Prop where
 r:Blk W w.heap.size 75 #[ζ,ε,ζ]
 b:Below w.heap.size w W
 d:Rdr W R s
 l:w.heap.size<R
theorem DecS.next {w W W':World} {R:Nat} {s s':List UInt8 × Nat} (h:DecS w W R s) (hd:Rdr W' R s') (hg:W.grownBy W' (some R)):DecS w W' R s':=
 ⟨h.r.grown hg (by intro e; injection e with e; have:=h.l; omega),h.b.grown hg (Nat.le_of_lt h.r.lt) (by intro k e; injection e with e; have:=h.l; omega),hd,h.l⟩
structure DecX (w W:World) (R X:Nat) (s:List UInt8 × Nat) (c:Int) (t:List UInt8) (q:Int):Prop extends DecS w W R s where
 x:Blk W X 75 #[c,t,q]
 m:R<X
theorem DecX.next {w W W':World} {R X:Nat} {s s':List UInt8 × Nat} {c q:Int} {t:List UInt8} (h:DecX w W R X s c t q) (hd:Rdr W' R s') (hg:W.grownBy W' (some R)):DecX w W' R X s' c t q:=
 ⟨h.toDecS.next hd hg,h.x.grown hg (by intro e; injection e with e; have:=h.m; omega),h.m⟩
theorem z_16 {P:Prop} (h:P:=by
 have r0:w6.cell? ⟨w.heap.size,0,none⟩=some (.int .i64 0):=HR.out.1.cell 0;have r1:w6.cell? ⟨w.heap.size,1,none⟩=some (.string ⟨#[]⟩):=HR.out.1.cell 1;have r2:w6.cell? ⟨w.heap.size,2,none⟩=some (.int .i64 0):=HR.out.1.cell 2;have f0:w6.frozen? ⟨w.heap.size,0,none⟩=false:=HR.out.1.frozen 0;have f1:w6.frozen? ⟨w.heap.size,1,none⟩=false:=HR.out.1.frozen 1;have f2:w6.frozen? ⟨w.heap.size,2,none⟩=false:=HR.out.1.frozen 2;go_wp2
 have HW9:Hid (Blk (((w6.setCell ⟨w.heap.size,0,none⟩ (.int .i64 0)).setCell ⟨w.heap.size,1,none⟩ (.string ⟨#[]⟩)).setCell ⟨w.heap.size,2,none⟩ (.int .i64 0)) w.heap.size 75 #[ζ,ε,ζ]∧Below w.heap.size w (((w6.setCell ⟨w.heap.size,0,none⟩ (.int .i64 0)).setCell ⟨w.heap.size,1,none⟩ (.string ⟨#[]⟩)).setCell ⟨w.heap.size,2,none⟩ (.int .i64 0))):=Lib.hid
  ⟨((HR.out.1.set_ 0 (.int .i64 0)).set_ 1 (.string ⟨#[]⟩)).set_ 2 (.int .i64 0),((HR.out.2.setCell (p:=⟨w.heap.size,0,none⟩) (Nat.le_refl _) _).setCell (p:=⟨w.heap.size,1,none⟩) (Nat.le_refl _) _).setCell (p:=⟨w.heap.size,2,none⟩) (Nat.le_refl _) _⟩
 generalize ((w6.setCell ⟨w.heap.size,0,none⟩ (.int .i64 0)).setCell ⟨w.heap.size,1,none⟩ (.string ⟨#[]⟩)).setCell ⟨w.heap.size,2,none⟩ (.int .i64 0)=W9 at HW9 ⊢;have s0:W9.cell? ⟨w.heap.size,0,none⟩=some (.int .i64 0):=HW9.out.1.cell 0;have s1:W9.cell? ⟨w.heap.size,1,none⟩=some (.string ⟨#[]⟩):=HW9.out.1.cell 1;have s2:W9.cell? ⟨w.heap.size,2,none⟩=some (.int .i64 0):=HW9.out.1.cell 2
 (try simp only [Exit.inBlock,Exit.then])
 refine bodyPost_ret (v:= .tuple #[.agg #[ζ,ε,ζ],.int .i64 3]) (by simp [results,Tryz.results77,go_sem,s0,s1,s2]) rfl ?_;exact HB.out _ HZ.out HW9.out.2):P:=h
theorem receipt_Decode (s:List UInt8) (hs:s.length≤1000000) (w:World):
  Calls Tryz.prog 77 #[s] w (DecEnd w (decW s)):=by
 have HL:=ι (txtS_len (numS (s,0)).2 6);have HB:Hid (∀ w',decW s=((0,[],0),3)→Below w.heap.size w w'→DecEnd w (decW s) (.returned (.tuple #[.agg #[ζ,ε,ζ],.int .i64 3])) w'):=ι (fun w' h hb=>by
  rw [h]; exact ⟨rfl,hb⟩)
 have HG:Hid (∀ w' (n:Nat) t (q:Nat),decW s=((n,t,q),0)→Below w.heap.size w w'→DecEnd w (decW s) (.returned (.tuple #[.agg #[n,t,q],ζ])) w'):=ι (fun w' n t q h hb=>by
  rw [h]; exact ⟨rfl,hb⟩)
 generalize DecEnd w (decW s)=P at HB HG ⊢;obtain ⟨n,s1,hA⟩:∃ n s1,numS (s,0)=(n,s1):=⟨_,_,rfl⟩
 rw [hA] at HL;obtain ⟨t,s2,hT⟩:∃ t s2,txtS s1 6=(t,s2):=⟨_,_,rfl⟩
 rw [hT] at HL;obtain ⟨q,s3,hQ⟩:∃ q s3,numS s2=(q,s3):=⟨_,_,rfl⟩
 have HD:=ι (decW_of hA hT hQ);have HA:=ι hA;have HT:=ι hT;have HQ:=ι hQ;have HS:=ι hs;clear hA hT hQ hs;go_enter Tryz.func77,Tryz.ntmps77
 go_wp2_with fail
 refine (code_Read s _).mono ?_;rintro e w1 ⟨rfl,rfl⟩;have F1:Hid (DecS w _ _ (s,0)):=ι (show DecS w ((w.alloc (.cells #[ζ,ε,ζ] 75)).alloc (.cells #[s,ζ,ζ] 200)) (w.alloc (.cells #[ζ,ε,ζ] 75)).heap.size (s,0) from
  ⟨(Blk.new _ _ _).below (show Below (w.alloc (.cells #[ζ,ε,ζ] 75)).heap.size _ _ from by go_grown) (Blk.lt (Blk.new _ _ _)),by go_grown,⟨s,0,Blk.new _ _ _,Nat.zero_le _,HS.out,rfl⟩,Blk.lt (Blk.new _ _ _)⟩)
 generalize (w.alloc (.cells #[ζ,ε,ζ] 75)).alloc (.cells #[s,ζ,ζ] 200)=W1 at F1 ⊢;generalize (w.alloc (.cells #[ζ,ε,ζ] 75)).heap.size=R at F1 ⊢;go_wp2_with fail
 refine (code_RNum _ R _ F1.out.d).mono ?_;rw [HA.out];rintro e w2 ⟨rfl,hd,hg⟩;have F2:=ι (F1.out.next hd hg);clear hd hg F1;go_wp2_with fail
 refine (code_RText _ R _ F2.out.d 6 (by omega)).mono ?_;rw [HT.out];rintro e w3 ⟨rfl,hd,hg⟩;have F3:=ι (F2.out.next hd hg);clear hd hg F2;go_wp2_with fail
 refine (code_RNum _ R _ F3.out.d).mono ?_;rw [HQ.out];rintro e w4 ⟨rfl,hd,hg⟩;have F4:=ι (F3.out.next hd hg);clear hd hg F3;have f0:w4.frozen? ⟨w.heap.size,0,none⟩=false:=F4.out.r.frozen 0;go_wp2_with fail
 have F5:Hid (DecX w _ R w4.heap.size s3 0 t (q:Int)):=ι (show DecX w (w4.alloc (.cells #[ζ,t,q] 75)) R w4.heap.size s3 0 t (q:Int) from
  ⟨⟨F4.out.r.below (show Below w4.heap.size _ _ from by go_grown) F4.out.r.lt,F4.out.b.trans ((show Below w4.heap.size _ _ from by go_grown).mono (Nat.le_of_lt F4.out.r.lt)),F4.out.d.below (show Below w4.heap.size _ _ from by go_grown) F4.out.d.lt,F4.out.l⟩,Blk.new _ _ _,F4.out.d.lt⟩)
 generalize World.alloc w4 _=W5 at F5 ⊢;clear f0 F4;generalize w4.heap.size=X at F5 ⊢;refine (code_REnd _ R _ F5.out.d).mono ?_;rintro e w6 ⟨rfl,hd,hg⟩;have F6:=ι (F5.out.next hd hg);have HR:Hid (Blk w6 w.heap.size 75 #[ζ,ε,ζ]∧Below w.heap.size w w6):=ι ⟨F6.out.r,F6.out.b⟩;clear hd hg F5;by_cases he:endS s3=0
 ·by_cases hn:1000<n
  ·have HZ:Hid (decW s=((0,[],0),3)):=ι (by rw [HD.out,if_pos (Or.inr (Or.inl hn))]);have gn:(1000:Int)<(n:Int):=by omega
   rw [he];clear HD he hn F6;exact z_16
  ·have gn:((1000:Int)<(n:Int))=False:=by simp; omega
   have c0:w6.cell? ⟨X,0,none⟩=some (.int .i64 0):=F6.out.x.cell 0;have c1:w6.cell? ⟨X,1,none⟩=some (t:Value):=F6.out.x.cell 1;have c2:w6.cell? ⟨X,2,none⟩=some (.int .i64 (q:Int)):=F6.out.x.cell 2;have g0:w6.frozen? ⟨X,0,none⟩=false:=F6.out.x.frozen 0;rw [he];go_wp2_with fail
   have F7:Hid (Blk (w6.setCell ⟨X,0,none⟩ (.int .i64 (n:Int))) X 75 #[n,t,q]∧Blk (w6.setCell ⟨X,0,none⟩ (.int .i64 (n:Int))) w.heap.size 75 #[ζ,ε,ζ]∧Below w.heap.size w (w6.setCell ⟨X,0,none⟩ (.int .i64 (n:Int)))):=Lib.hid
    ⟨F6.out.x.set_ 0 (.int .i64 (n:Int)),HR.out.1.far (p:=⟨X,0,none⟩) (by have:=F6.out.l; have:=F6.out.m; show w.heap.size≠X; omega) _,HR.out.2.setCell (p:=⟨X,0,none⟩) (by have:=F6.out.l; have:=F6.out.m; show w.heap.size≤X; omega) _⟩
   clear HR F6 c0 c1 c2 g0;generalize w6.setCell ⟨X,0,none⟩ (.int .i64 (n:Int))=W7 at F7 ⊢;have HT6:=ι (Nat.le_trans HL.out (show 6≤9223372036854775807 by omega));refine (receipt_Encode (n:Int) t (q:Int) HT6.out W7).mono ?_;rintro e w8 ⟨rfl,hb⟩;have HX:=ι (F7.out.1.below hb F7.out.1.lt);have HR:Hid (Blk w8 w.heap.size 75 #[ζ,ε,ζ]∧Below w.heap.size w w8):=ι ⟨F7.out.2.1.below hb F7.out.2.1.lt,F7.out.2.2.trans (hb.mono (Nat.le_of_lt F7.out.2.1.lt))⟩;clear hb F7;unfold encW;by_cases hk:rcOk (n:Int) t (q:Int)
   ·rw [if_pos hk];have HZ:Hid (decW s=((n,t,q),0)):=ι (by rw [HD.out,if_neg]; rintro (h|h|h); exact h he; exact hn h; exact h hk);have c0:w8.cell? ⟨X,0,none⟩=some (.int .i64 n):=HX.out.cell 0;have c1:w8.cell? ⟨X,1,none⟩=some (t:Value):=HX.out.cell 1;have c2:w8.cell? ⟨X,2,none⟩=some (.int .i64 (q:Int)):=HX.out.cell 2;generalize numW (n:Int).toNat++textW t++numW (q:Int).toNat=bytes;clear HD he hn hk gn HB;have HB:Hid (∀ w',decW s=((n,t,q),0)→Below w.heap.size w w'→P (.returned (.tuple #[.agg #[n,t,q],ζ])) w'):=ι (fun w'=>HG.out w' n t q);have r0:w8.cell? ⟨w.heap.size,0,none⟩=some (.int .i64 0):=HR.out.1.cell 0;have r1:w8.cell? ⟨w.heap.size,1,none⟩=some (.string ⟨#[]⟩):=HR.out.1.cell 1;have r2:w8.cell? ⟨w.heap.size,2,none⟩=some (.int .i64 0):=HR.out.1.cell 2;have f0:w8.frozen? ⟨w.heap.size,0,none⟩=false:=HR.out.1.frozen 0;have f1:w8.frozen? ⟨w.heap.size,1,none⟩=false:=HR.out.1.frozen 1;have f2:w8.frozen? ⟨w.heap.size,2,none⟩=false:=HR.out.1.frozen 2;go_wp2
    have HW9:Hid (Blk (((w8.setCell ⟨w.heap.size,0,none⟩ (.int .i64 (n:Int))).setCell ⟨w.heap.size,1,none⟩ (.string ⟨t.toArray⟩)).setCell ⟨w.heap.size,2,none⟩ (.int .i64 (q:Int))) w.heap.size 75 #[n,t,q]∧Below w.heap.size w (((w8.setCell ⟨w.heap.size,0,none⟩ (.int .i64 (n:Int))).setCell ⟨w.heap.size,1,none⟩ (.string ⟨t.toArray⟩)).setCell ⟨w.heap.size,2,none⟩ (.int .i64 (q:Int)))):=Lib.hid
     ⟨((HR.out.1.set_ 0 (.int .i64 (n:Int))).set_ 1 (.string ⟨t.toArray⟩)).set_ 2 (.int .i64 (q:Int)),((HR.out.2.setCell (p:=⟨w.heap.size,0,none⟩) (Nat.le_refl _) _).setCell (p:=⟨w.heap.size,1,none⟩) (Nat.le_refl _) _).setCell (p:=⟨w.heap.size,2,none⟩) (Nat.le_refl _) _⟩
    generalize ((w8.setCell ⟨w.heap.size,0,none⟩ (.int .i64 (n:Int))).setCell ⟨w.heap.size,1,none⟩ (.string ⟨t.toArray⟩)).setCell ⟨w.heap.size,2,none⟩ (.int .i64 (q:Int))=W9 at HW9 ⊢;have s0:W9.cell? ⟨w.heap.size,0,none⟩=some (.int .i64 (n:Int)):=HW9.out.1.cell 0;have s1:W9.cell? ⟨w.heap.size,1,none⟩=some (t:Value):=HW9.out.1.cell 1;have s2:W9.cell? ⟨w.heap.size,2,none⟩=some (.int .i64 (q:Int)):=HW9.out.1.cell 2
    (try simp only [Exit.inBlock,Exit.then])
    refine bodyPost_ret (v:= .tuple #[.agg #[n,t,q],ζ]) (by simp [results,Tryz.results77,go_sem,s0,s1,s2]) rfl ?_;exact HB.out _ HZ.out HW9.out.2
   ·rw [if_neg hk];have HZ:Hid (decW s=((0,[],0),3)):=ι (by rw [HD.out,if_pos (Or.inr (Or.inr hk))]);clear HD he hn hk gn;have r0:w8.cell? ⟨w.heap.size,0,none⟩=some (.int .i64 0):=HR.out.1.cell 0;have r1:w8.cell? ⟨w.heap.size,1,none⟩=some (.string ⟨#[]⟩):=HR.out.1.cell 1;have r2:w8.cell? ⟨w.heap.size,2,none⟩=some (.int .i64 0):=HR.out.1.cell 2;have f0:w8.frozen? ⟨w.heap.size,0,none⟩=false:=HR.out.1.frozen 0;have f1:w8.frozen? ⟨w.heap.size,1,none⟩=false:=HR.out.1.frozen 1;have f2:w8.frozen? ⟨w.heap.size,2,none⟩=false:=HR.out.1.frozen 2;go_wp2
    have HW9:Hid (Blk (((w8.setCell ⟨w.heap.size,0,none⟩ (.int .i64 0)).setCell ⟨w.heap.size,1,none⟩ (.string ⟨#[]⟩)).setCell ⟨w.heap.size,2,none⟩ (.int .i64 0)) w.heap.size 75 #[ζ,ε,ζ]∧Below w.heap.size w (((w8.setCell ⟨w.heap.size,0,none⟩ (.int .i64 0)).setCell ⟨w.heap.size,1,none⟩ (.string ⟨#[]⟩)).setCell ⟨w.heap.size,2,none⟩ (.int .i64 0))):=Lib.hid
     ⟨((HR.out.1.set_ 0 (.int .i64 0)).set_ 1 (.string ⟨#[]⟩)).set_ 2 (.int .i64 0),((HR.out.2.setCell (p:=⟨w.heap.size,0,none⟩) (Nat.le_refl _) _).setCell (p:=⟨w.heap.size,1,none⟩) (Nat.le_refl _) _).setCell (p:=⟨w.heap.size,2,none⟩) (Nat.le_refl _) _⟩
    generalize ((w8.setCell ⟨w.heap.size,0,none⟩ (.int .i64 0)).setCell ⟨w.heap.size,1,none⟩ (.string ⟨#[]⟩)).setCell ⟨w.heap.size,2,none⟩ (.int .i64 0)=W9 at HW9 ⊢;have s0:W9.cell? ⟨w.heap.size,0,none⟩=some (.int .i64 0):=HW9.out.1.cell 0;have s1:W9.cell? ⟨w.heap.size,1,none⟩=some (.string ⟨#[]⟩):=HW9.out.1.cell 1;have s2:W9.cell? ⟨w.heap.size,2,none⟩=some (.int .i64 0):=HW9.out.1.cell 2
    (try simp only [Exit.inBlock,Exit.then])
    refine bodyPost_ret (v:= .tuple #[.agg #[ζ,ε,ζ],.int .i64 3]) (by simp [results,Tryz.results77,go_sem,s0,s1,s2]) rfl ?_;exact HB.out _ HZ.out HW9.out.2
 ·have HZ:Hid (decW s=((0,[],0),3)):=ι (by rw [HD.out,if_pos (Or.inl he)]);have gn:((endS s3:Int)==0)=false:=by simp; exact he
  have gn2:((endS s3:Int) !=0)=true:=by simp; exact he
  generalize endS s3=ec at *;clear HD he F6;exact z_16
end
def bytesS (s:List UInt8 × Nat) (n:Nat):List UInt8 × (List UInt8 × Nat):=
 if s.2≠0 then ([],s) else if n≤s.1.length then (s.1.take n,(s.1.drop n,0)) else ([],(s.1,20))
def bitAt (set n:Nat):Bool:=decide (set / 2 ^ n % 2=1)
def kidR (set n:Nat) (s:List UInt8 × Nat):List UInt8 × (List UInt8 × Nat):=if bitAt set n then bytesS s 32 else ([],s)
def kidsR (set:Nat):Nat→List UInt8 × Nat→List (List UInt8) × (List UInt8 × Nat)
 |0,s=>([],s)
 |n+1,s=>((kidR set n s).1::(kidsR set n (kidR set n s).2).1,(kidsR set n (kidR set n s).2).2)
def zeroK:List (List UInt8):=List.replicate 16 []
def set2 (b:List UInt8):Nat:=(b.getD 0 0).toNat*256+(b.getD 1 0).toNat
def brR (s:List UInt8 × Nat):(List UInt8 × List (List UInt8)) × (List UInt8 × Nat):=
 if (bytesS s 2).1= [] then (([],zeroK),(bytesS s 2).2)
 else (((txtS (kidsR (set2 (bytesS s 2).1) 16 (bytesS s 2).2).2 32).1,(kidsR (set2 (bytesS s 2).1) 16 (bytesS s 2).2).1),(txtS (kidsR (set2 (bytesS s 2).1) 16 (bytesS s 2).2).2 32).2)
def otR (most k:Nat) (s:List UInt8 × Nat):(List UInt8 × List UInt8 × List (List UInt8)) × (List UInt8 × Nat) × Bool:=
 if k=1 then (((Nib.unpack (txtS s most).1).1,(txtS (txtS s most).2 32).1,zeroK),(txtS (txtS s most).2 32).2,decide ((Nib.unpack (txtS s most).1).2.2=0) && (Nib.unpack (txtS s most).1).2.1)
 else (((Nib.unpack (txtS s most).1).1,[],(bytesS (txtS s most).2 32).1::List.replicate 15 []),(bytesS (txtS s most).2 32).2,decide ((Nib.unpack (txtS s most).1).2.2=0) && !(Nib.unpack (txtS s most).1).2.1)
abbrev Nd:=Nat × List UInt8 × List UInt8 × List (List UInt8)
def kindR (s:List UInt8):Nat:=(s.getD 0 0).toNat
def readN (most:Nat) (s:List UInt8):Nd × (List UInt8 × Nat) × Bool:=
 if kindR s=3 then ((3,[],(brR (bytesS (s,0) 1).2).1.1,(brR (bytesS (s,0) 1).2).1.2),(brR (bytesS (s,0) 1).2).2,true)
 else ((kindR s,(otR most (kindR s) (bytesS (s,0) 1).2).1.1,(otR most (kindR s) (bytesS (s,0) 1).2).1.2.1,(otR most (kindR s) (bytesS (s,0) 1).2).1.2.2),(otR most (kindR s) (bytesS (s,0) 1).2).2)
def fineD (n:Nd):Bool:=fineN n.1 n.2.1 n.2.2.1 n.2.2.2
def textD (n:Nd):List UInt8:=nodeText n.1 n.2.1 n.2.2.1 n.2.2.2
def zeroN:Nd:=(0,[],[],zeroK)
def decN (s:List UInt8):Nd × Nat:=
 if endS (readN 16 s).2.1≠0∨(readN 16 s).2.2=false∨fineD (readN 16 s).1=false then (zeroN,80) else ((readN 16 s).1,0)
theorem txtS_ok' {s s1:List UInt8 × Nat} {t:List UInt8} {m:Nat} (h:txtS s m=(t,s1)) (h0:s1.2=0):s.2=0∧s.1=textW t++s1.1∧t.length≤m:=by
 unfold txtS at h
 split at h
 ·rename_i hc;simp only [Prod.mk.injEq] at h;rw [←h.2] at h0;exact absurd h0 hc
 ·rename_i hc
  split at h
  ·rename_i h2;simp only [Prod.mk.injEq] at h;refine ⟨by omega,?_⟩;rw [←h.1,←h.2];exact txtT_back (s:=s.1) (r:=(txtT s.1 m).2.1) (by rw [←h2])
  ·rename_i h2;simp only [Prod.mk.injEq] at h;rw [←h.2] at h0;exact absurd h0 h2
theorem bytesS_ok {s s1:List UInt8 × Nat} {t:List UInt8} {n:Nat} (h:bytesS s n=(t,s1)) (h0:s1.2=0):s.2=0∧s.1=t++s1.1∧t.length=n:=by
 unfold bytesS at h
 split at h
 ·rename_i hc;simp only [Prod.mk.injEq] at h;rw [←h.2] at h0;exact absurd h0 hc
 ·rename_i hc
  split at h
  ·rename_i h2;simp only [Prod.mk.injEq] at h;refine ⟨by omega,?_⟩;rw [←h.1,←h.2];exact ⟨(List.take_append_drop n s.1).symm,by rw [List.length_take]; omega⟩
  ·simp only [Prod.mk.injEq] at h;rw [←h.2] at h0;cases h0
theorem bytesS_of (t r:List UInt8):bytesS (t++r,0) t.length=(t,(r,0)):=by
 unfold bytesS;rw [if_neg (by simp),if_pos (by simp)];simp
theorem txtS_of (t r:List UInt8) (m:Nat) (hm:t.length≤m) (hl:t.length<9223372036854775808):txtS (textW t++r,0) m=(t,(r,0)):=by
 unfold txtS;rw [if_neg (by simp)];simp only [txtT_of t r m hm hl,if_true]
theorem endS_ok' {s:List UInt8 × Nat} (h:endS s=0):s.2=0∧s.1= []:=by
 unfold endS at h
 split at h
 ·cases h
 ·rename_i hc;refine ⟨h,?_⟩;rcases hs:s.1 with _|_
  ·rfl
  ·exact absurd ⟨h,by rw [hs]; simp⟩ hc
theorem flat_kids (K:List (List UInt8)):(kidsW K).flatten=K.flatten:=by
 induction K with
 |nil=>rfl
 |cons a l ih=>
  unfold kidsW at ih ⊢;rw [List.filter_cons];cases a with
  |nil=>simp [ih]
  |cons x y=>simp [ih]
theorem kidsR_length (set:Nat):∀ n s,(kidsR set n s).1.length=n
 |0,_=>rfl
 |n+1,s=>by simp only [kidsR,List.length_cons,kidsR_length set n]
theorem kidR_ok {set n:Nat} {s:List UInt8 × Nat} (h0:(kidR set n s).2.2=0):s.2=0∧s.1=(kidR set n s).1++(kidR set n s).2.1∧(kidR set n s).1.length=if bitAt set n then 32 else 0:=by
 unfold kidR at h0 ⊢
 split at h0
 ·rename_i hb;rw [if_pos hb,if_pos hb];exact bytesS_ok (s:=s) (s1:=(bytesS s 32).2) (t:=(bytesS s 32).1) (n:=32) rfl h0
 ·rename_i hb;rw [if_neg hb,if_neg hb];exact ⟨h0,rfl,rfl⟩
theorem kidsR_ok (set:Nat):∀ n s,(kidsR set n s).2.2=0→s.2=0∧s.1=(kidsR set n s).1.flatten++(kidsR set n s).2.1∧∀ j,j<n→((kidsR set n s).1.getD j []).length=if bitAt set (n - 1 - j) then 32 else 0
 |0,s,h=>⟨h,by simp [kidsR],by omega⟩
 |n+1,s,h=>by
  simp only [kidsR] at h ⊢;obtain ⟨h1,h2,h3⟩:=kidsR_ok set n _ h;obtain ⟨g1,g2,g3⟩:=kidR_ok h1;refine ⟨g1,?_,fun j hj=> ?_⟩
  ·rw [List.flatten_cons,List.append_assoc,←h2];exact g2
  ·cases j with
   |zero=>rw [List.getD_cons_zero,g3]; rfl
   |succ j=>
    rw [List.getD_cons_succ,h3 j (by omega)];rw [show n+1 - 1 - (j+1)=n - 1 - j by omega]
theorem half_step (x p:Nat) (hp:0<p):x / p*p=x / (2*p)*(2*p)+(if x / p % 2=1 then p else 0):=by
 have h1:x / (2*p)=x / p / 2:=by rw [Nat.mul_comm,Nat.div_div_eq_div_mul]
 rw [h1];generalize x / p=y;have h2:=Nat.div_add_mod y 2;generalize y / 2=q at *;rcases Nat.mod_two_eq_zero_or_one y with h|h
 ·rw [h] at h2;rw [h,if_neg (by omega),←h2,Nat.add_zero,Nat.add_zero,←Nat.mul_assoc,Nat.mul_comm 2 q]
 ·rw [h] at h2;rw [h,if_pos rfl,←h2,Nat.add_mul,Nat.one_mul,←Nat.mul_assoc,Nat.mul_comm 2 q]
theorem bitsTo_of_bits (K:List (List UInt8)) (set:Nat) (hs:set<65536) (h:∀ j,j<16→(K.getD j []).isEmpty= !bitAt set (15 - j)):∀ i,i≤16→bitsTo K i=set / 2 ^ (16 - i)*2 ^ (16 - i)
 |0,_=>by
  rw [show (2:Nat) ^ (16 - 0)=65536 by decide,Nat.div_eq_of_lt hs];rfl
 |i+1,hi=>by
  have ih:=bitsTo_of_bits K set hs h i (by omega);have hp:(2:Nat) ^ (16 - i)=2*2 ^ (15 - i):=by rw [show 16 - i=15 - i+1 by omega,Nat.pow_succ]; omega
  rw [bitsTo,ih,hp,show 16 - (i+1)=15 - i by omega,half_step set (2 ^ (15 - i)) (Nat.pow_pos (by omega)),h i (by omega)];unfold bitAt;by_cases hb:set / 2 ^ (15 - i) % 2=1
  ·simp [hb]
  ·simp [hb]
theorem bitsTo_near (K:List (List UInt8)):∀ d,d≤16→bitsTo K (16 - d)≤bitsTo K 16∧bitsTo K 16<bitsTo K (16 - d)+2 ^ d
 |0,_=>by simp
 |d+1,hd=>by
  obtain ⟨h1,h2⟩:=bitsTo_near K d (by omega);have e:16 - d=(16 - (d+1))+1:=by omega
  have hp:(2:Nat) ^ (d+1)=2*2 ^ d:=by rw [Nat.pow_succ]; omega
  have e3:bitsTo K (16 - d)=bitsTo K (16 - (d+1))+(if (K.getD (16 - (d+1)) []).isEmpty then 0 else 2 ^ d):=by
   rw [e]
   show bitsTo K (16 - (d+1))+(if (K.getD (16 - (d+1)) []).isEmpty then 0 else 2 ^ (15 - (16 - (d+1))))=_;rw [show 15 - (16 - (d+1))=d by omega]
  rw [e3] at h1 h2;rw [hp];generalize (2:Nat) ^ d=p at *;generalize (K.getD (16 - (d+1)) []).isEmpty=b at *;cases b with
  |true=>rw [if_pos rfl] at h1 h2; omega
  |false=>rw [if_neg (by decide)] at h1 h2; omega
theorem bitAt_bitsTo (K:List (List UInt8)) (i:Nat) (hi:i<16):bitAt (bitsTo K 16) (15 - i)= !(K.getD i []).isEmpty:=by
 obtain ⟨h1,h2⟩:=bitsTo_near K (15 - i) (by omega);obtain ⟨h3,_⟩:=bitsTo_mod K i (by omega);have hp:(2:Nat) ^ (16 - i)=2*2 ^ (15 - i):=by rw [show 16 - i=15 - i+1 by omega,Nat.pow_succ]; omega
 have e3:bitsTo K (i+1)=bitsTo K i+(if (K.getD i []).isEmpty then 0 else 2 ^ (15 - i)):=rfl;rw [show 16 - (15 - i)=i+1 by omega,e3] at h1 h2;rw [hp] at h3;have hpos:0<(2:Nat) ^ (15 - i):=Nat.pow_pos (by omega);unfold bitAt;generalize (2:Nat) ^ (15 - i)=p at *;obtain ⟨q,hq⟩:∃ q,bitsTo K i=2*p*q:=⟨bitsTo K i / (2*p),by have:=Nat.mod_add_div (bitsTo K i) (2*p); omega⟩
 rw [hq,show 2*p*q=p*(2*q) by rw [Nat.mul_comm 2 p,Nat.mul_assoc]] at h1 h2;cases he:(K.getD i []).isEmpty with
 |true=>
  rw [he] at h1 h2;simp only [if_true] at h1 h2
  have:bitsTo K 16 / p=2*q:=Nat.div_eq_of_lt_le (by rw [Nat.mul_comm]; omega) (by rw [Nat.add_mul,Nat.mul_comm (2*q)]; omega)
  rw [this];simp
 |false=>
  rw [he] at h1 h2;simp only [Bool.false_eq_true,if_false] at h1 h2
  have:bitsTo K 16 / p=2*q+1:=Nat.div_eq_of_lt_le (by rw [Nat.add_mul,Nat.mul_comm (2*q)]; omega) (by rw [Nat.add_mul,Nat.add_mul,Nat.mul_comm (2*q)]; omega)
  rw [this];simp
theorem kidsR_of (K:List (List UInt8)) (hK:K.length=16) (h32:sumsOk (kidsW K)=true) (r:List UInt8):∀ n,n≤16→kidsR (bitsTo K 16) n ((K.drop (16 - n)).flatten++r,0)=(K.drop (16 - n),(r,0))
 |0,_=>by rw [List.drop_of_length_le (by omega)]; rfl
 |n+1,hn=>by
  have ih:=kidsR_of K hK h32 r n (by omega);have hlt:16 - (n+1)<K.length:=by omega
  have hb:=bitAt_bitsTo K (16 - (n+1)) (by omega);rw [show 15 - (16 - (n+1))=n by omega] at hb;have e0:K.drop (16 - (n+1))=K.getD (16 - (n+1)) []::K.drop (16 - n):=by
   rw [List.drop_eq_getElem_cons hlt,show 16 - (n+1)+1=16 - n by omega,List.getD_eq_getElem?_getD,List.getElem?_eq_getElem hlt]; rfl
  have hmem:K.getD (16 - (n+1)) []∈K:=by rw [List.getD_eq_getElem?_getD,List.getElem?_eq_getElem hlt]; exact List.getElem_mem hlt
  rw [e0];generalize K.getD (16 - (n+1)) []=x at *;have hk:kidR (bitsTo K 16) n ((x::K.drop (16 - n)).flatten++r,0)=(x,((K.drop (16 - n)).flatten++r,0)):=by
   unfold kidR;rw [hb];cases hx:x.isEmpty with
   |true=>
    have:x= []:=by simpa using hx
    subst this;simp
   |false=>
    have hl:x.length=32:=by
     unfold sumsOk kidsW at h32;rw [List.all_eq_true] at h32
     have:=h32 x (List.mem_filter.2 ⟨hmem,by rw [hx]; rfl⟩)
     simpa using this
    rw [if_pos (by rfl),List.flatten_cons,List.append_assoc,←hl];exact bytesS_of x _
  simp only [kidsR,hk,ih]
theorem two_of_len:∀ {l:List UInt8},l.length=2→∃ x y,l= [x,y]
 | [x,y],_=>⟨x,y,rfl⟩
theorem packed_len {p:List UInt8} (l:Bool) (h:p.length≤16):(Nib.packed p l).length≤9:=by rw [Nib.packed_length]; omega
theorem readN_of (most:Nat) (hm:9≤most) (n:Nd) (hK:n.2.2.2.length=16) (hf:fineD n=true):readN most (textD n)=(n,([],0),true):=by
 obtain ⟨k,p,v,K⟩:=n;simp only at hK;unfold fineD at hf;simp only at hf;obtain ⟨hk,hfit,hpl,hvl,hs⟩:=fineN_parts hf;rcases hk with rfl|rfl|rfl
 ·have hz:K=zeroK:=by
   unfold fineN at hf;rw [if_pos rfl] at hf;simp at hf
   exact hf.1.1.1
  subst hz;have e:textD (1,p,v,zeroK)= [1]++(textW (Nib.packed p true)++(textW v++ [])):=by simp [textD,nodeText]
  have e1:kindR (textD (1,p,v,zeroK))=1:=by rw [e]; rfl
  have e2:bytesS (textD (1,p,v,zeroK),0) 1=([1],(textW (Nib.packed p true)++(textW v++ []),0)):=by rw [e]; exact bytesS_of [1] _
  unfold readN;rw [e1,if_neg (by decide),e2];unfold otR;rw [if_pos rfl,txtS_of _ _ most (Nat.le_trans (packed_len _ hpl) hm) (by have:=packed_len true hpl; omega),txtS_of _ _ 32 hvl (by omega),Nib.unpack_packed _ _ hfit];rfl
 ·obtain ⟨h32,hz⟩:=fine_ext hf;have hv0:v= []:=by
   unfold fineN at hf;rw [if_neg (by decide),if_pos rfl] at hf;simp at hf
   exact hf.2
  subst hv0;have e:textD (2,p,[],K)= [2]++(textW (Nib.packed p false)++(K.getD 0 []++ [])):=by simp [textD,nodeText]
  have e1:kindR (textD (2,p,[],K))=2:=by rw [e]; rfl
  have e2:bytesS (textD (2,p,[],K),0) 1=([2],(textW (Nib.packed p false)++(K.getD 0 []++ []),0)):=by rw [e]; exact bytesS_of [2] _
  unfold readN;rw [e1,if_neg (by decide),e2];unfold otR;have e3:bytesS (K.getD 0 []++ [],0) 32=(K.getD 0 [],([],0)):=by rw [←h32]; exact bytesS_of _ _
  rw [if_neg (by decide),txtS_of _ _ most (Nat.le_trans (packed_len _ hpl) hm) (by have:=packed_len false hpl; omega),Nib.unpack_packed _ _ hfit];simp only [e3];rw [←hz];rfl
 ·have hp0:p= []:=by
   unfold fineN at hf;rw [if_neg (by decide),if_neg (by decide),if_pos rfl] at hf;simp only [Bool.and_eq_true] at hf
   have:=hf.1.1.1
   simpa using this
  subst hp0;obtain ⟨_,hlt⟩:=bitsTo_mod K 16 (by omega);have e:textD (3,[],v,K)= [3]++([UInt8.ofNat (bitsTo K 16 / 256),UInt8.ofNat (bitsTo K 16)]++(K.flatten++(textW v++ []))):=by simp [textD,nodeText,flat_kids]
  have e1:kindR (textD (3,[],v,K))=3:=by rw [e]; rfl
  have e2:bytesS (textD (3,[],v,K),0) 1=([3],([UInt8.ofNat (bitsTo K 16 / 256),UInt8.ofNat (bitsTo K 16)]++(K.flatten++(textW v++ [])),0)):=by rw [e]; exact bytesS_of [3] _
  have e3:=bytesS_of [UInt8.ofNat (bitsTo K 16 / 256),UInt8.ofNat (bitsTo K 16)] (K.flatten++(textW v++ []));have e4:set2 [UInt8.ofNat (bitsTo K 16 / 256),UInt8.ofNat (bitsTo K 16)]=bitsTo K 16:=by
   simp [set2]
   omega
  have e5:=kidsR_of K hK hs (textW v++ []) 16 (by omega);rw [show 16 - 16=0 from rfl,List.drop_zero] at e5;unfold readN;rw [e1,if_pos rfl,e2];unfold brR;simp only [List.length_cons,List.length_nil] at e3;rw [e3];simp only [e4,e5,txtS_of _ _ 32 hvl (show v.length<9223372036854775808 by omega)];simp
theorem readN_back (s:List UInt8) (n:Nd) (r:List UInt8 × Nat) (h:readN 16 s=(n,r,true)) (hr:endS r=0) (hf:fineD n=true):n.2.2.2.length=16∧textD n=s:=by
 obtain ⟨r1,r2⟩:=endS_ok' hr;unfold readN at h;have hb1:∀ t:List UInt8 × Nat,(bytesS (s,0) 1).2=t→t.2=0→∃ c,s=c::t.1∧kindR s=c.toNat:=by
  intro t ht h0;obtain ⟨_,h2,h3⟩:=bytesS_ok (s:=(s,0)) (n:=1) (t:=(bytesS (s,0) 1).1) (s1:=t) (by rw [←ht]) h0;simp only at h2;generalize (bytesS (s,0) 1).1=a at *
  match a,h3 with
  | [c],_=>exact ⟨c,h2,by rw [h2]; rfl⟩
 by_cases hk:kindR s=3
 ·rw [if_pos hk] at h;simp only [Prod.mk.injEq,and_true] at h;obtain ⟨e1,e2⟩:=h;generalize hs1:(bytesS (s,0) 1).2=s1 at *;unfold brR at e1 e2;by_cases h0:(bytesS s1 2).1= []
  ·rw [if_pos h0] at e1 e2;subst e1
   exfalso
   rw [show fineD (3,[],[],zeroK)=false by decide] at hf;cases hf
  ·rw [if_neg h0] at e1 e2;simp only at e1 e2;generalize hb:bytesS s1 2=b at *;obtain ⟨bits,s2⟩:=b;simp only at h0 e1 e2;generalize hset:set2 bits=set at *;have hlK:=kidsR_length set 16 s2;have hok:=kidsR_ok set 16 s2;generalize kidsR set 16 s2=kr at *;obtain ⟨K,s3⟩:=kr;simp only at e1 e2 hlK hok;generalize ht:txtS s3 32=tr at *;obtain ⟨v,s4⟩:=tr;simp only at e1 e2;subst e1 e2;obtain ⟨f1,f2,f3⟩:=txtS_ok' ht r1;obtain ⟨g1,g2,g3⟩:=hok f1;obtain ⟨k1,k2,k3⟩:=bytesS_ok hb g1;obtain ⟨c,c1,c2⟩:=hb1 s1 rfl k1;refine ⟨hlK,?_⟩;obtain ⟨x,y,rfl⟩:=two_of_len k3
   ·have hx:=x.toNat_lt;have hy:=y.toNat_lt;have hset':set=x.toNat*256+y.toNat:=by rw [←hset]; rfl
    have hbits:bitsTo K 16=set:=by
     have:=bitsTo_of_bits K set (by omega) (fun j hj=>by
      have:=g3 j hj
      rw [show 16 - 1 - j=15 - j by omega] at this;cases hb:bitAt set (15 - j) with
      |true=>
       rw [hb,if_pos rfl] at this;generalize K.getD j []=z at *;cases z with
       |nil=>cases this
       |cons a b=>rfl
      |false=>rw [hb,if_neg (by decide)] at this; rw [List.eq_nil_of_length_eq_zero this]; rfl) 16 (by omega)
     rw [this]; simp
    have hx2:UInt8.ofNat (set / 256)=x:=UInt8.toNat_inj.1 (by simp; omega);have hy2:UInt8.ofNat set=y:=UInt8.toNat_inj.1 (by simp; omega);have hc3:c=3:=UInt8.toNat_inj.1 (by rw [←c2,hk]; rfl);simp only [textD,nodeText,if_true,hbits,hx2,hy2,flat_kids];rw [c1,k2,g2,f2,r2,hc3];simp
 ·rw [if_neg hk] at h;simp only [Prod.mk.injEq] at h;obtain ⟨e1,e2⟩:=h;generalize hs1:(bytesS (s,0) 1).2=s1 at *;have e2a:(otR 16 (kindR s) s1).2.1=r:=by rw [e2]
  have e2b:(otR 16 (kindR s) s1).2.2=true:=by rw [e2]
  clear e2;unfold otR at e1 e2a e2b;generalize ht:txtS s1 16=tr at *;obtain ⟨t,s2⟩:=tr;simp only at e1 e2a e2b;by_cases h1:kindR s=1
  ·rw [if_pos h1] at e1 e2a e2b;simp only [Bool.and_eq_true,decide_eq_true_eq] at e1 e2a e2b;generalize hv:txtS s2 32=vr at *;obtain ⟨v,s3⟩:=vr;simp only at e1 e2a;subst e1 e2a;obtain ⟨f1,f2,_⟩:=txtS_ok' hv r1;obtain ⟨g1,g2,_⟩:=txtS_ok' ht f1;obtain ⟨c,c1,c2⟩:=hb1 s1 rfl g1;refine ⟨rfl,?_⟩;have hp:=Nib.pack_unpack t e2b.1;rw [e2b.2] at hp;unfold Nib.pack at hp;rw [if_pos (fineN_parts hf).2.1] at hp;have hp':Nib.packed (Nib.unpack t).1 true=t:=congrArg Prod.fst hp;have hc:c=1:=UInt8.toNat_inj.1 (by rw [←c2,h1]; rfl)
   show nodeText (kindR s) _ _ _=s;rw [h1];unfold nodeText;rw [if_neg (by decide),if_pos rfl,decide_eq_true rfl,hp',c1,g2,f2,r2,hc];simp
  ·rw [if_neg h1] at e1 e2a e2b;simp only [Bool.and_eq_true,decide_eq_true_eq] at e1 e2a e2b;generalize hv:bytesS s2 32=vr at *;obtain ⟨x,s3⟩:=vr;simp only at e1 e2a;subst e1 e2a;obtain ⟨f1,f2,_⟩:=bytesS_ok hv r1;obtain ⟨g1,g2,_⟩:=txtS_ok' ht f1;obtain ⟨c,c1,c2⟩:=hb1 s1 rfl g1;refine ⟨rfl,?_⟩;have hp:=Nib.pack_unpack t e2b.1;have hl:(Nib.unpack t).2.1=false:=by simpa using e2b.2
   rw [hl] at hp;unfold Nib.pack at hp;rw [if_pos (fineN_parts hf).2.1] at hp;have hp':Nib.packed (Nib.unpack t).1 false=t:=congrArg Prod.fst hp;have hk2:kindR s=2:=by
    rcases (fineN_parts hf).1 with h|h|h
    ·exact absurd h h1
    ·exact h
    ·exact absurd h hk
   have hc:c=2:=UInt8.toNat_inj.1 (by rw [←c2,hk2]; rfl)
   show nodeText (kindR s) _ _ _=s;rw [hk2];unfold nodeText;rw [if_neg (by decide),if_neg (by decide),decide_eq_false (by decide),hp',c1,g2,f2,r2,hc];simp
theorem decN_ok {s:List UInt8} {n:Nd} (h:decN s=(n,0)):n.2.2.2.length=16∧fineD n=true∧textD n=s:=by
 unfold decN at h
 split at h
 ·simp at h
 ·rename_i hc;simp only [not_or,ne_eq,Bool.not_eq_false,Decidable.not_not] at hc;simp only [Prod.mk.injEq,and_true] at h;subst h;obtain ⟨h1,h2⟩:=readN_back s (readN 16 s).1 (readN 16 s).2.1 (by rw [←hc.2.1]) hc.1 hc.2.2;exact ⟨h1,hc.2.2,h2⟩
theorem decN_of (n:Nd) (hK:n.2.2.2.length=16) (hf:fineD n=true):decN (textD n)=(n,0):=by
 unfold decN;rw [readN_of 16 (by omega) n hK hf];simp only [hf];rw [if_neg (by simp [endS])]
theorem decN_cases (s:List UInt8):decN s=(zeroN,80)∨∃ n,decN s=(n,0)∧n.2.2.2.length=16∧fineD n=true∧textD n=s:=by
 by_cases h:(decN s).2=0
 ·exact .inr ⟨(decN s).1,by rw [←h],decN_ok (by rw [←h])⟩
 ·refine .inl ?_;unfold decN at h ⊢
  split
  ·rfl
  ·rename_i hc;rw [if_neg hc] at h;exact absurd rfl h
end Go.Proofs.YtnelhjfjkkdoaaaGreatDoor