import Derived.Test.YtdkiloganbhfkaaGreatDoorJ14
import Derived.Test.YtdkiloganbhfkaaGreatDoorJ11
import Derived.Test.YtdkiloganbhfkaaGreatDoorJ13
set_option linter.unusedSimpArgs false
set_option linter.unusedVariables false
set_option maxRecDepth 100000
namespace Go.Proofs.YtdkiloganbhfkaaGreatDoor
section
open Go.RowKit Go.Instr
attribute [local go_sem] ba_get ByteArray.mk_append_mk
attribute [local go_sem ↓] Go.wp_at_zero Go.wp_at_succ
theorem few_cell {w:World} {B:Nat} {A:Option Addr} {l:List (List UInt8)} (h:Reads w B 1 A l.length (strv l)) {i:Nat} (hi:i<l.length):
  ∃ ad off,A=some ⟨ad,off,none⟩∧ad<B∧∀ w',Below B w w'→w'.cell? ⟨ad,off+i,none⟩=some (.string ⟨l[i].toArray⟩):=by
 obtain ⟨ad,off,rfl,hbl,hcell⟩:=h.form (by omega) (by omega);refine ⟨ad,off,rfl,hbl,fun w' hb=> ?_⟩;have q:=hcell i (by rw [strv_length]; exact hi);have e:=strv_at hi;rw [List.getElem?_eq_getElem (by rw [strv_length]; exact hi)] at e;rw [Option.some.inj e] at q;exact (hb.cell (p:=⟨ad,off+i,none⟩) hbl).trans q
def fewW (l:List (List UInt8)) (n each:Nat):Bool:=decide (l.length≤n) && l.all fun s=>decide (s.length≤each)
theorem book_Few (w:World) (A:Option Addr) (c:Nat) (l:List (List UInt8)) (n each:Nat) (HR:Reads w w.heap.size 1 A l.length (strv l)) (hn:n≤100000) (he:each≤100000):
  Calls Tryz.prog 38 #[.slice A l.length c,n,each] w (Ret w (.bool (fewW l n each))):=by
 have HP:Hid (∀ r w',fewW l n each=r→Below w.heap.size w w'→Ret w (.bool (fewW l n each)) (Ending.returned (.bool r)) w'):=ι (fun r W' a1 a2=>⟨by rw [a1],a2⟩);have HC:Hid (fewW l n each=(decide (l.length≤n) && l.all fun s=>decide (s.length≤each))):=ι rfl;generalize Ret w (.bool (fewW l n each))=P at HP ⊢;generalize fewW l n each=lw at *;have HRR:=ι HR;clear HR;by_cases hln:n<l.length
 ·have hI:(n:Int)<l.length:=by omega
  have HF:Hid (lw=false):=ι (by rw [HC.out,decide_eq_false (by omega)]; rfl);go_enter Tryz.func38,Tryz.ntmps38
  go_wp2_with fail
  exact HP.out _ _ HF.out (Below.refl _ _)
 ·have hI:((n:Int)<l.length)=False:=by simp; omega
  have HC2:Hid (lw=l.all fun s=>decide (s.length≤each)):=ι (by rw [HC.out,decide_eq_true (by omega)]; rfl);have hln':l.length≤n:=by omega
  clear HC hln;go_enter Tryz.func38,Tryz.ntmps38
  go_wp2_with fail
  refine wp_loop_ghost_k (fun k a wr=>∀ Φ:Act→Prop,(∀ ⦃s1 s3 s4 s5 s6 s8 s9 s0 s2 s7 a0 a3 a4 a5 a6 a7 a8 a9 b0 b1 b2 b3:Value⦄ (i:Nat),(i+k=l.length∧(l.all fun s=>decide (s.length≤each))=((l.drop i).all fun s=>decide (s.length≤each))∧Below w.heap.size w wr)→Φ {tmps:=#[.slice A l.length c,s1,.int .i64 (each:Int),s3,s4,s5,s6,.int .i64 (i:Int),s8,s9,s0,s2,s7,a0,a3,a4,a5,a6,a7,a8,a9,b0,b1,b2,b3],defers:= []})→Φ a) (l.length) ?_ ?_
  ·refine fun Φ hΦ=>hΦ (0) ?_;exact ⟨by omega,rfl,Below.refl _ _⟩
  ·intro k1 a1 wr1 hI1 J1 K1 hJ1 hK1;refine hI1 (fun a=>Code.wp _ _ _ a _) ?_;clear hI1 a1;iterate 22 (intro _)
   intro i hrel
   show Code.wp _ _ _ _ _;obtain ⟨h1,h2,hb⟩:=hrel;by_cases hi:i<l.length
   ·obtain ⟨ad,off,rfl,hbl,hcell⟩:=few_cell HRR.out hi;have r0:=hcell _ hb;have hd:l.drop i=l[i]::l.drop (i+1):=List.drop_eq_getElem_cons hi;have HI:=ι (And.intro h1 (And.intro h2 (And.intro hb hd)));have hi0:(i:Int)<l.length:=by omega
    have hi1:(0:Int)≤i:=by omega
    clear h1 h2 hb hd hcell hbl;generalize l[i]=x at *;by_cases hk:each<x.length
    ·have hk':(each:Int)<x.length:=by omega
     have HF:Hid (lw=false):=ι (by rw [HC2.out,HI.out.2.1,HI.out.2.2.2,List.all_cons,decide_eq_false (by omega)]; rfl);clear hk;go_wp2_with fail
     exact HP.out _ _ HF.out HI.out.2.2.1
    ·have hk':((each:Int)<x.length)=False:=by simp; omega
     have HF:Hid (decide (x.length≤each)=true):=ι (decide_eq_true (by omega));clear hk;go_wp2_with fail
     refine Handed.intro (l.length - (i+1)) ?_ (hJ1 _ _ _ (fun Φ hΦ=>hΦ (i+1) ?_))
     ·have:=HI.out.1; omega
     exact ⟨by have:=HI.out.1; omega,by rw [HI.out.2.1,HI.out.2.2.2,List.all_cons,HF.out]; rfl,HI.out.2.2.1⟩
   ·have hi0:((i:Int)<l.length)=False:=by simp; omega
    have HI:=ι (And.intro h2 (And.intro hb (show l.drop i= [] from List.drop_of_length_le (by omega))));clear h1 h2 hb;go_wp2_with fail
    exact HP.out _ _ (by rw [HC2.out,HI.out.1,HI.out.2.2]; rfl) HI.out.2.1
def treeF (l:List (Int × List UInt8 × Int)):Trie.T × Nat:=if 8<l.length then (.nil,2) else treeW .nil 0 l
theorem treeW_count:∀ (l:List (Int × List UInt8 × Int)) (t:Trie.T) (k:Nat),Trie.count (treeW t k l).1≤Trie.count t+l.length
 | [],t,k=>by simp [treeW]
 |x::l,t,k=>by
  rw [treeW]
  split
  ·have h1:=treeW_count l (Trie.put t (Nib.of [UInt8.ofNat k]) (encW x.1 x.2.1 x.2.2).1) (k+1);have h2:=Trie.count_put t (Nib.of [UInt8.ofNat k]) (encW x.1 x.2.1 x.2.2).1;rw [List.length_cons]; omega
  ·simp [Trie.count]
theorem treeF_count (l:List (Int × List UInt8 × Int)):Trie.count (treeF l).1≤8:=by
 unfold treeF
 split
 ·simp [Trie.count]
 ·have:=treeW_count l .nil 0
  simp only [Trie.count] at this; omega
end
structure En where
 hd:Hd
 sum:List UInt8
 txs:List Ex.Tx
 rcs:List Ex.Rc
 st:Trie.T
 set:List Pw.Mem
 nxt:List Pw.Mem
namespace Led
open Trie Pw
def rootR (l:List Ex.Rc):List UInt8:=if (treeF l).2=0 then sumT (treeF l).1 else []
def newH (t:T) (set:List Mem):Hd:=⟨0,0,0,true,[],sumT t,[],Ex.rootX [],digM set,digM set,[]⟩
def newE (t:T) (set:List Mem):En:=⟨newH t set,Hd.dig (newH t set),[],[],t,set,set⟩
def sumAt (l:List En) (i:Nat):List UInt8:=((l[i]?).map (·.sum)).getD []
def makeC (p:En) (view:Int) (txs:List Ex.Tx):Nat:=
 if view<1∨1048576<view∨1048576≤p.hd.hgt then 1 else if p.hd.last=false∧view≤p.hd.vw then 230 else (Ex.allL p.st txs).2
def nextH (l:List En) (p:En) (view:Int) (txs:List Ex.Tx) (t:T) (R:List Ex.Rc) (M:List Mem):Hd:=
 ⟨p.hd.hgt+1,if p.hd.last then p.hd.epo+1 else p.hd.epo,view, !M.isEmpty,p.sum,sumT t,rootR R,Ex.rootX txs,p.hd.nxt,if M.isEmpty then p.hd.nxt else digM M,(Hd.linksH (p.hd.hgt+1)).map (sumAt l)⟩
def nextE (l:List En) (p:En) (view:Int) (txs:List Ex.Tx) (t:T) (R:List Ex.Rc) (M:List Mem):En:=
 ⟨nextH l p view txs t R M,Hd.dig (nextH l p view txs t R M),txs,R,t,p.nxt,if M.isEmpty then p.nxt else M⟩
def makeE (l:List En) (p:En) (view:Int) (txs:List Ex.Tx):En:=nextE l p view txs (Ex.allL p.st txs).1.1 (Ex.allL p.st txs).1.2.1 (Ex.allL p.st txs).1.2.2
structure One (e:En) (i:Nat):Prop where
 hgt:e.hd.hgt=i
 ok:Hd.Ok e.hd
 sum:e.sum=Hd.dig e.hd
 good:Trie.Good e.st
 cnt:count e.st≤1024
 set:okM e.set=true
 nxt:okM e.nxt=true
 dset:digM e.set=e.hd.mem
 dnxt:digM e.nxt=e.hd.nxt
 epo:e.hd.epo≤i
theorem One.sum_len {e:En} {i:Nat} (h:One e i):e.sum.length=32:=by rw [h.sum]; exact Hd.dig_len ((Hd.ok_iff _).2 h.ok)
structure Two (p e:En):Prop where
 par:e.hd.par=p.sum
 set:e.set=p.nxt
 mem:e.hd.mem=p.hd.nxt
 epo:e.hd.epo=if p.hd.last then p.hd.epo+1 else p.hd.epo
 vw:p.hd.last=false→p.hd.vw<e.hd.vw
 nxt:e.hd.last=false→e.nxt=p.nxt∧e.hd.nxt=p.hd.nxt
structure Wf (l:List En):Prop where
 pos:0<l.length
 one:∀ i (hi:i<l.length),One l[i] i
 two:∀ i (hi:i+1<l.length),Two l[i] l[i+1]
 sk:∀ i (hi:i<l.length),l[i].hd.sk=(Hd.linksH i).map (sumAt l)
theorem Wf.le {l:List En} (h:Wf l):l.length≤1048577:=by
 have hp:=h.pos;have h1:=h.one (l.length - 1) (by omega);have h2:=h1.ok.h1;have h3:=h1.hgt;omega
theorem sumT_maybe (t:T):sumT t= []∨(sumT t).length=32:=by
 by_cases h:t= .nil
 ·subst h; exact .inl rfl
 ·exact .inr (sumT_len h)
theorem rootR_maybe (l:List Ex.Rc):rootR l= []∨(rootR l).length=32:=by
 unfold rootR
 split
 ·exact sumT_maybe _
 ·exact .inl rfl
theorem newE_one {t : T} {set : List Mem} (hg : Trie.Good t) (hc : count t ≤ 1024) (hs : okM set = true) : One (newE t set) 0 :=
  { hgt := rfl, sum := rfl, good := hg, cnt := hc, set := hs, nxt := hs, dset := rfl, dnxt := rfl, epo := by simp [newE, newH],
    ok := { h0 := by simp [newE, newH], h1 := by simp [newE, newH], e0 := by simp [newE, newH], e1 := by simp [newE, newH], v0 := by simp [newE, newH], v1 := by simp [newE, newH],
            par := ⟨fun h => by simp [newE, newH] at h, fun _ => ⟨rfl, rfl, rfl, rfl⟩⟩, sk := rfl, skl := fun s hs => by simp [newE, newH] at hs,
            tx := (Ex.rootX_len []), mem := (digM_len (l := set) hs), nxt := (digM_len (l := set) hs), st := (sumT_maybe t), rc := .inl rfl, on := fun h => by simp [newE, newH] at h } }
theorem newE_wf {t:T} {set:List Mem} (hg:Trie.Good t) (hc:count t≤1024) (hs:okM set=true):Wf [newE t set] where
 pos:=by simp
 one:=fun i hi=>by
  have:i=0:=by simpa using hi
  subst this;exact newE_one hg hc hs
 two:=fun i hi=>by simp at hi
 sk:=fun i hi=>by
  have:i=0:=by simpa using hi
  subst this;rfl
theorem sumAt_app {l:List En} {x:En} {i:Nat} (h:i<l.length):sumAt (l++ [x]) i=sumAt l i:=by
 unfold sumAt;rw [List.getElem?_append_left h]
theorem sumAt_of {l:List En} {i:Nat} (h:i<l.length):sumAt l i=l[i].sum:=by
 unfold sumAt;rw [List.getElem?_eq_getElem h];rfl
theorem linksH_lt {h:Nat}:∀ x∈Hd.linksH h,x<h:=by
 intro x hx;unfold Hd.linksH at hx
 split at hx
 ·rename_i hc;obtain ⟨i,hi,rfl⟩:=List.mem_iff_getElem.1 hx;obtain ⟨h1,h2⟩:=Skip.links_get _ _ hi;rw [h2]
  have:=Nat.two_pow_pos (i+1)
  simp only [Int.toNat_natCast];omega
 ·simp at hx
theorem map_sumAt_app {l:List En} {x:En} {h:Nat} (hh:h≤l.length):(Hd.linksH h).map (sumAt (l++ [x]))=(Hd.linksH h).map (sumAt l):=
 List.map_congr_left fun i hi=>sumAt_app (by have:=linksH_lt i hi; omega)
theorem isEmpty_false {α:Type} {l:List α} (h:l≠ []):l.isEmpty=false:=by cases l<;>simp_all
theorem nextE_one {l:List En} (h:Wf l) {p:En} {n:Nat} (hn:l.length=n+1) (hp:l[n]'(by omega)=p) {view:Int} {txs:List Ex.Tx} {t:T} {R:List Ex.Rc} {M:List Mem} (hc:makeC p view txs=0)
  (hg:Trie.Good t) (hct:count t≤1024) (hM:M= []∨okM M=true):One (nextE l p view txs t R M) (n+1)∧Two p (nextE l p view txs t R M):=by
 have o:=h.one n (by omega);rw [hp] at o;unfold makeC at hc
 split at hc
 ·cases hc
 rename_i hv
 split at hc
 ·cases hc
 rename_i hw;have e1:=o.epo;have e2:=o.ok.e0;have e3:=o.hgt;have hdn:=o.dnxt;have hlen:(digM p.nxt).length=32:=digM_len o.nxt;have hsk:∀ s∈(Hd.linksH (p.hd.hgt+1)).map (sumAt l),s.length=32:=by
  intro s hs;obtain ⟨i,hi,rfl⟩:=List.mem_map.1 hs;have e4:p.hd.hgt+1=((n+1:Nat):Int):=by omega
  rw [e4] at hi
  have:=linksH_lt i hi
  rw [sumAt_of (by omega)];exact (h.one i (by omega)).sum_len
 have hepo:(0:Int)≤(if p.hd.last then p.hd.epo+1 else p.hd.epo)∧(if p.hd.last then p.hd.epo+1 else p.hd.epo)≤((n+1:Nat):Int):=by
  split<;>omega
 have hNx:okM (if M.isEmpty then p.nxt else M)=true∧digM (if M.isEmpty then p.nxt else M)=(if M.isEmpty then p.hd.nxt else digM M):=by
  rcases hM with rfl|hM
  ·exact ⟨o.nxt,o.dnxt⟩
  ·have:M≠ []:=by intro e; subst e; have:=okM_len hM; simp at this
   rw [isEmpty_false this];exact ⟨hM,rfl⟩
 have htx:=Ex.rootX_len txs;have hst:=sumT_maybe t;have hrc:=rootR_maybe R;have hsl:=o.sum_len;have hnl:(if M.isEmpty then p.hd.nxt else digM M).length=32:=by rw [←hNx.2]; exact digM_len hNx.1
 have hml:p.hd.nxt.length=32:=by rw [←hdn]; exact hlen
 have hne:(!M.isEmpty)=false→(if M.isEmpty then p.hd.nxt else digM M)=p.hd.nxt:=fun e=>by
  rw [Bool.not_eq_false'] at e;rw [e]; rfl
 have hnp:(!M.isEmpty)=false→(if M.isEmpty then p.nxt else M)=p.nxt:=fun e=>by
  rw [Bool.not_eq_false'] at e;rw [e]; rfl
 unfold nextE nextH;generalize Ex.rootX txs=a at *;generalize sumT t=b at *;generalize rootR R=c at *;generalize (if M.isEmpty then p.hd.nxt else digM M)=d at *;generalize (if M.isEmpty then p.nxt else M)=m at *;generalize (!M.isEmpty)=f at *;generalize hep:(if p.hd.last then p.hd.epo+1 else p.hd.epo)=ep at *;generalize hlk:(Hd.linksH (p.hd.hgt+1)).map (sumAt l)=sk at *;have hskl:sk.length=(Hd.linksH (p.hd.hgt+1)).length:=by rw [←hlk,List.length_map]
 constructor
 ·exact {hgt:=(by simp only; omega),sum:=rfl,good:=hg,cnt:=hct,set:=o.nxt,nxt:=hNx.1,dset:=o.dnxt,dnxt:=hNx.2,epo:=hepo.2,ok:={h0:=(by simp only; omega),h1:=(by simp only; omega),e0:=hepo.1,e1:=(by have:=hepo.2; simp only; omega),v0:=(by simp only; omega),v1:=(by simp only; omega),par:=⟨fun _=>hsl,fun e=>(by simp only at e; omega)⟩,sk:=hskl,skl:=hsk,tx:=htx,mem:=hml,nxt:=hnl,st:=hst,rc:=hrc,on:=hne}}
 ·exact {par:=rfl,set:=rfl,mem:=rfl,epo:=hep.symm,vw:=fun e=>Int.not_le.1 (fun h2=>hw ⟨e,h2⟩),nxt:=fun e=>⟨hnp e,hne e⟩}
theorem Wf.snoc {l:List En} (h:Wf l) {x:En} {n:Nat} (hn:l.length=n+1) (h1:One x (n+1)) (h2:Two (l[n]'(by omega)) x) (h3:x.hd.sk=(Hd.linksH ((n+1:Nat):Int)).map (sumAt l)):Wf (l++ [x]) where
 pos:=by simp
 one:=fun i hi=>by
  by_cases hl:i<l.length
  ·rw [List.getElem_append_left hl]; exact h.one i hl
  ·have:i=n+1:=by simp at hi; omega
   subst this;rw [List.getElem_append_right (by omega)];simp only [hn,Nat.sub_self,List.getElem_cons_zero];exact h1
 two:=fun i hi=>by
  by_cases hl:i+1<l.length
  ·rw [List.getElem_append_left hl,List.getElem_append_left (by omega)]; exact h.two i hl
  ·have:i=n:=by simp at hi; omega
   subst this;rw [List.getElem_append_left (by omega),List.getElem_append_right (by omega)];simp only [hn,Nat.sub_self,List.getElem_cons_zero];exact h2
 sk:=fun i hi=>by
  by_cases hl:i<l.length
  ·rw [List.getElem_append_left hl,h.sk i hl,map_sumAt_app (by omega)]
  ·have:i=n+1:=by simp at hi; omega
   subst this;rw [List.getElem_append_right (by omega),map_sumAt_app (by omega)];simp only [hn,Nat.sub_self,List.getElem_cons_zero];exact h3
def addW (l:List En) (view:Int) (txs:List Ex.Tx):List En × Nat:=
 match l.getLast? with
 |none=>(l,1)
 |some p=>if makeC p view txs=0 then (l++ [makeE l p view txs],0) else (l,makeC p view txs)
theorem last_of {l:List En} {n:Nat} (hn:l.length=n+1):l.getLast?=some (l[n]'(by omega)):=by
 rw [List.getLast?_eq_getElem?,show l.length - 1=n by omega];exact List.getElem?_eq_getElem _
theorem makeC_all {p:En} {view:Int} {txs:List Ex.Tx} (hc:makeC p view txs=0):(Ex.allL p.st txs).2=0:=by
 unfold makeC at hc
 split at hc
 ·cases hc
 split at hc
 ·cases hc
 exact hc
theorem addW_wf {l:List En} (h:Wf l) (view:Int) (txs:List Ex.Tx):Wf (addW l view txs).1:=by
 obtain ⟨n,hn⟩:∃ n,l.length=n+1:=⟨l.length - 1,by have:=h.pos; omega⟩
 unfold addW;rw [last_of hn];simp only
 split
 ·rename_i hc;have o:=h.one n (by omega);obtain ⟨a1,a2,a3⟩:=Ex.allL_ok (makeC_all hc);have hg:=Ex.allGoL_good txs _ [] o.good o.cnt;have hM:=Ex.allGoL_next txs l[n].st [] a2 (.inl rfl);unfold makeE;rw [a3];obtain ⟨q1,q2⟩:=nextE_one h hn rfl (R:=(Ex.allGoL l[n].st txs []).2.1) hc hg.1 hg.2.1 hM;refine h.snoc hn q1 q2 ?_;simp only [nextE,nextH];rw [o.hgt];rfl
 ·exact h
def growW (l:List En):List (Int × List Ex.Tx)→List En
 | []=>l
 |b::r=>growW (addW l b.1 b.2).1 r
theorem growW_wf:∀ (r:List (Int × List Ex.Tx)) (l:List En),Wf l→Wf (growW l r)
 | [],l,h=>h
 |b::r,l,h=>growW_wf r _ (addW_wf h b.1 b.2)
theorem growW_snoc:∀ (r:List (Int × List Ex.Tx)) (l:List En) (b:Int × List Ex.Tx),growW l (r++ [b])=(addW (growW l r) b.1 b.2).1
 | [],l,b=>rfl
 |c::r,l,b=>by rw [List.cons_append,growW,growW_snoc r]; rfl
theorem addW_len (l:List En) (view:Int) (txs:List Ex.Tx):(addW l view txs).1.length≤l.length+1:=by
 unfold addW
 split
 ·simp
 ·split<;>simp
theorem growW_len:∀ (r:List (Int × List Ex.Tx)) (l:List En),(growW l r).length≤l.length+r.length
 | [],l=>by simp [growW]
 |b::r,l=>by
  have:=growW_len r (addW l b.1 b.2).1
  have:=addW_len l b.1 b.2
  rw [growW,List.length_cons];omega
end Led
section
open Go.RowKit Go.Instr
attribute [local go_sem] ba_get ByteArray.mk_append_mk
attribute [local go_sem ↓] Go.wp_at_zero Go.wp_at_succ
def accW (t:Trie.T) (n:List UInt8):(List UInt8 × Nat × Nat) × Nat:=
 if Ex.nameW n then (match Ex.acc t n with|some p=>((n,p.1,p.2),0)|none=>(([],0,0),3)) else (([],0,0),1)
def AccEnd (w:World) (r:(List UInt8 × Nat × Nat) × Nat) (e:Ending) (w':World):Prop:=
 e= .returned (.tuple #[.agg #[r.1.1,r.1.2.1,r.1.2.2],r.2])∧Below w.heap.size w w'
theorem look_len {t:Trie.T} (h:Trie.Good t) (k:List UInt8):(Trie.look t (Nib.of k)).length≤32:=by
 by_cases e:Trie.look t (Nib.of k)= []
 ·rw [e]; simp
 ·exact (h.small _ (Nib.fit_of k) e).2
theorem getW_len {t:Trie.T} (h:Trie.Good t) (k:List UInt8):(Trie.getW t k).1.length≤32:=by
 unfold Trie.getW
 split
 ·split
  ·simp
  ·exact look_len h k
 ·simp
theorem grown_cell {a w:World} {g:Nat} (h:a.grownBy w (some g)) (i:Nat) (u:Value):a.grownBy (w.setCell ⟨g,i,none⟩ u) (some g):=grown_setAll [u] i w h
def acell (a:Ex.Ac):List Value:= [.string ⟨a.1.toArray⟩,.int .i64 a.2.1,.int .i64 a.2.2]
abbrev acells (l:List Ex.Ac):List Value:=l.flatMap acell
theorem acell_len (m:Ex.Ac):(acell m).length=3:=rfl
theorem ac_cells {w:World} {B:Nat} {A:Option Addr} {l:List Ex.Ac} (h:Reads w B 3 A l.length (acells l)) {i:Nat} (hi:i<l.length):
  ∃ ad off,A=some ⟨ad,off,none⟩∧ad<B∧∀ W,Below B w W→W.cell? ⟨ad,off+i*3,none⟩=some (.string ⟨l[i].1.toArray⟩)∧W.cell? ⟨ad,off+i*3+1,none⟩=some (.int .i64 l[i].2.1)∧W.cell? ⟨ad,off+i*3+2,none⟩=some (.int .i64 l[i].2.2):=by
 obtain ⟨ad,off,h1,h2,h3⟩:=flat_cells acell_len (by decide) h hi;exact ⟨ad,off,h1,h2,fun W hW=>⟨h3 W hW 0 _ rfl,h3 W hW 1 _ rfl,h3 W hW 2 _ rfl⟩⟩
abbrev TxM:=Ex.Tx × Option Addr × Nat
def xcell (p:TxM):List Value:= [.int .i64 p.1.kind,.string ⟨p.1.frm.toArray⟩,.int .i64 p.1.seq,.string ⟨p.1.dst.toArray⟩,.int .i64 p.1.amt,.string ⟨p.1.key.toArray⟩,.string ⟨p.1.val.toArray⟩,.slice p.2.1 p.1.mem.length p.2.2]
abbrev xcells (l:List TxM):List Value:=l.flatMap xcell
theorem xcell_len (p:TxM):(xcell p).length=8:=rfl
structure OkT (x:Ex.Tx):Prop where
 f:x.frm.length≤9223372036854775807
 d:x.dst.length≤9223372036854775807
 k:x.key.length≤9223372036854775807
 v:x.val.length≤9223372036854775807
 m:∀ y∈x.mem,y.1.length≤9223372036854775807
structure TxsAt (w:World) (A:Option Addr) (l:List TxM):Prop where
 r:Reads w w.heap.size 8 A l.length (xcells l)
 m:∀ p∈l,Reads w w.heap.size 2 p.2.1 p.1.mem.length (mcells p.1.mem)
 t:∀ p∈l,OkT p.1
 n:l.length≤9223372036854775807
theorem TxsAt.next {w w':World} {A:Option Addr} {l:List TxM} (h:TxsAt w A l) (hb:Below w.heap.size w w'):TxsAt w' A l:=
 ⟨(h.r.below hb).more hb.size,fun p hp=>((h.m p hp).below hb).more hb.size,h.t,h.n⟩
theorem tx_cells {w:World} {B:Nat} {A:Option Addr} {l:List TxM} (h:Reads w B 8 A l.length (xcells l)) {i:Nat} (hi:i<l.length):
  ∃ ad off,A=some ⟨ad,off,none⟩∧ad<B∧∀ W,Below B w W→
   W.cell? ⟨ad,off+i*8,none⟩=some (.int .i64 l[i].1.kind)∧W.cell? ⟨ad,off+i*8+1,none⟩=some (.string ⟨l[i].1.frm.toArray⟩)∧W.cell? ⟨ad,off+i*8+2,none⟩=some (.int .i64 l[i].1.seq)∧
   W.cell? ⟨ad,off+i*8+3,none⟩=some (.string ⟨l[i].1.dst.toArray⟩)∧W.cell? ⟨ad,off+i*8+4,none⟩=some (.int .i64 l[i].1.amt)∧W.cell? ⟨ad,off+i*8+5,none⟩=some (.string ⟨l[i].1.key.toArray⟩)∧
   W.cell? ⟨ad,off+i*8+6,none⟩=some (.string ⟨l[i].1.val.toArray⟩)∧W.cell? ⟨ad,off+i*8+7,none⟩=some (.slice l[i].2.1 l[i].1.mem.length l[i].2.2):=by
 obtain ⟨ad,off,h1,h2,h3⟩:=flat_cells xcell_len (by decide) h hi;exact ⟨ad,off,h1,h2,fun W hW=>⟨h3 W hW 0 _ rfl,h3 W hW 1 _ rfl,h3 W hW 2 _ rfl,h3 W hW 3 _ rfl,h3 W hW 4 _ rfl,h3 W hW 5 _ rfl,h3 W hW 6 _ rfl,h3 W hW 7 _ rfl⟩⟩
def rcell (r:Ex.Rc):List Value:= [.int .i64 r.1,.string ⟨r.2.1.toArray⟩,.int .i64 r.2.2]
abbrev rcs (l:List Ex.Rc):List Value:=l.flatMap rcell
theorem mcells_one (l:List Pw.Mem):∀ u∈mcells l,u.oneCell'=true:=by
 intro u hu;rw [List.mem_flatMap] at hu;obtain ⟨m,_,hu⟩:=hu;simp only [mcell,List.mem_cons,List.not_mem_nil,or_false] at hu;rcases hu with rfl|rfl<;>rfl
theorem rcs_snoc (l:List Ex.Rc) (r:Ex.Rc):rcs l++ [.int .i64 r.1,.string ⟨r.2.1.toArray⟩,.int .i64 r.2.2]=rcs (l++ [r]):=by simp [rcs,rcell]
theorem info_rc:(Tryz.prog.info? 225).map (fun i=>(i.zero,i.size,i.bytes))=some (some (.agg #[ζ,ε,ζ]),3,32):=by kernel_rfl
theorem info_mem:(Tryz.prog.info? 94).map (fun i=>(i.zero,i.size,i.bytes))=some (some (.agg #[ε,ζ]),2,24):=by kernel_rfl
theorem own_types_ne {w:World} {base base':Nat} {e e':TypeId} {size size' n n':Nat} {v v':Value} {xs xs':List Value} (h:w.ownsRow base e size v n xs) (h':w.ownsRow base' e' size' v' n' xs') (hne:e≠e'):v.ownBlock=none∨v.ownBlock≠v'.ownBlock:=by
 rcases h'.2 with ⟨rfl,_⟩|⟨g,cap,cur,rfl,_,hh,_⟩
 ·cases hv:v.ownBlock with
  |none=>exact .inl rfl
  |some k=>exact .inr (by simp [Value.ownBlock])
 ·exact .inr (own_blk_ne (cs:=cur) h hh hne)
theorem own_blk {w:World} {base:Nat} {e:TypeId} {size n:Nat} {v:Value} {xs:List Value} (h:w.ownsRow base e size v n xs):∀ k,v.ownBlock=some k→∃ cs,Blk w k e cs:=by
 intro k hk;rcases h.2 with ⟨rfl,_⟩|⟨g,cap,cur,rfl,_,hh,_⟩
 ·cases hk
 ·injection hk with hk
  subst hk;exact ⟨_,hh⟩
theorem all_take {l:List TxM} {i:Nat} (hi:i<l.length) (h:(l.take i).all (fun p=>Ex.fineX p.1)=true) (hx:Ex.fineX l[i].1=true):(l.take (i+1)).all (fun p=>Ex.fineX p.1)=true:=by
 rw [List.take_succ_eq_append_getElem hi,List.all_append,h];simp [hx]
end
namespace Trie
open Nib
theorem items_pl (t:T):∀ pl,items t pl=(items t []).map fun x=>(pl++x.1,x.2):=by
 induction t with
 |nil=>intro pl; rfl
 |leaf p v=>intro pl; simp [items]
 |ext p t ih=>
  intro pl;simp only [items];rw [ih (pl++p),ih ([]++p),List.map_map];simp [Function.comp_def,List.append_assoc]
 |branch v kids ih=>
  intro pl;simp only [items];rw [List.map_append,List.map_flatMap]
  congr 1
  ·split<;>simp
  ·congr 1
   funext i
   rw [ih i (pl++ [hb i]),ih i ([]++ [hb i]),List.map_map];simp [Function.comp_def,List.append_assoc]
def lessP (l:List (List UInt8 × List UInt8)) (c:Nat):List (List UInt8 × List UInt8):=l.map fun x=>(x.1.drop c,x.2)
theorem less_items (t:T) (pl:List UInt8):lessP (items t pl) pl.length=items t []:=by
 rw [items_pl,lessP,List.map_map]
 conv=>rhs; rw [←List.map_id (items t [])]
 apply List.map_congr_left
 intro x _;simp
theorem items_short {pl:List UInt8} {t:T} (h:At pl t):∀ x∈items t [],x.1.length≤16∧x.2.length≤32∧x.2≠ []∧Nib.fit x.1=true:=by
 intro x hx;obtain ⟨q,hq,rfl,hl⟩:=(mem_items t [] x h.wf).1 hx
 have:=h.all q hq hl
 rw [List.length_append] at this;refine ⟨?_,this.2.2,hl,?_⟩
 ·show ([]++q).length≤16;rw [List.nil_append]; omega
 ·show Nib.fit ([]++q)=true;rw [List.nil_append]; exact hq
theorem items_two {v:List UInt8} {kids:Fin 16→T} (h:wf (.branch v kids)):2≤count (.branch v kids):=by
 have hm:=h.2;simp only [count];have hk:many kids≤((List.finRange 16).map fun i=>count (kids i)).sum:=by
  unfold many;rw [filter_sum];refine sum_le_sum _ _ _ fun i _=> ?_
  split
  ·rename_i hn;have hn:isNil (kids i)=false:=by simpa using hn
   obtain ⟨q,hq,hl⟩:=look_some (kids i) (h.1 i) hn;have hmem:=(mem_items (kids i) [] ([]++q,look (kids i) q) (h.1 i)).2 ⟨q,hq,rfl,hl⟩;rw [←length_items (kids i) []];exact List.length_pos_of_mem hmem
  ·omega
 omega
theorem bl_cons_le {a b:UInt8} {x y:List UInt8} (h:Op.bytesLess (a::x) (b::y)=true):a≤b:=by
 simp only [Op.bytesLess] at h;rw [UInt8.le_iff_toNat_le];by_cases hab:a<b
 ·exact Nat.le_of_lt (UInt8.lt_iff_toNat_lt.1 hab)
 ·simp only [hab,decide_false,Bool.false_or] at h;by_cases he:a=b
  ·rw [he]; exact Nat.le_refl _
  ·simp [he] at h
theorem common_head {a b:List UInt8} (h:common a b≠0):∃ c x y,a=c::x∧b=c::y:=by
 cases a with
 |nil=>exact absurd rfl h
 |cons c x=>cases b with
  |nil=>exact absurd rfl h
  |cons d y=>
   unfold common at h
   split at h
   ·rename_i e; subst e; exact ⟨c,x,y,rfl,rfl⟩
   ·exact absurd rfl h
theorem branch_apart {v:List UInt8} {kids:Fin 16→T} (h:wf (.branch v kids)) (x z:List UInt8 × List UInt8) (L:List (List UInt8 × List UInt8)) (hL:items (.branch v kids) []=x::(L++ [z])):common x.1 z.1=0:=by
 refine Decidable.byContradiction fun hc=> ?_;obtain ⟨b,xr,zr,hx,hz⟩:=common_head hc;have hs:=sorted_items (.branch v kids) [] h;rw [hL] at hs;have hall:∀ y∈items (.branch v kids) [],∃ r,y.1=b::r:=by
  intro y hy;rw [hL] at hy;rw [List.pairwise_cons,List.pairwise_append] at hs;rcases List.mem_cons.1 hy with rfl|hy
  ·exact ⟨xr,hx⟩
  ·rcases List.mem_append.1 hy with hy2|hy2
   ·have h1:=hs.1 y (List.mem_append_left _ hy2);have h2:=hs.2.2.2 y hy2 z (by simp);rw [hx] at h1;rw [hz] at h2;cases hyl:y.1 with
    |nil=>rw [hyl] at h1; simp [Op.bytesLess] at h1
    |cons d r=>
     rw [hyl] at h1 h2;have e1:=bl_cons_le h1;have e2:=bl_cons_le h2;rw [UInt8.le_iff_toNat_le] at e1 e2;exact ⟨r,by rw [show d=b from UInt8.toNat_inj.1 (by omega)]⟩
   ·rw [List.mem_singleton] at hy2;subst hy2;exact ⟨zr,hz⟩
 have hv:v= []:=Decidable.byContradiction fun hv=>by
  have:(([]:List UInt8),v)∈items (.branch v kids) []:=by simp [items,hv]
  obtain ⟨r,hr⟩:=hall _ this;cases hr
 obtain hv2|⟨i,hi,hn⟩:=many_two h.2 b
 ·exact hv2 hv
 ·obtain ⟨q,hq,hl⟩:=look_some (kids i) (h.1 i) hn;have hmem:([]++(hb i::q),look (.branch v kids) (hb i::q))∈items (.branch v kids) []:=by
   refine (mem_items _ [] _ h).2 ⟨hb i::q,fit_cons'.2 ⟨(ix_of i).2,hq⟩,rfl,?_⟩;simp only [look,hb,(ix_of i).1]; exact hl
  obtain ⟨r,hr⟩:=hall _ hmem;simp only [List.nil_append,List.cons.injEq] at hr;exact hi (by rw [←hr.1]; simp [hb,(ix_of i).1])
theorem common_pre (p a b:List UInt8):common (p++a) (p++b)=p.length+common a b:=by
 induction p with
 |nil=>simp
 |cons c p ih=>
  simp only [List.cons_append,List.length_cons]
  show (if c=c then common (p++a) (p++b)+1 else 0)=_;rw [if_pos rfl,ih]; omega
theorem ext_apart {p:List UInt8} {t:T} (h:wf (.ext p t)) (x z:List UInt8 × List UInt8) (L:List (List UInt8 × List UInt8)) (hL:items (.ext p t) []=x::(L++ [z])):common x.1 z.1=p.length:=by
 obtain ⟨h1,h2,h3,h4⟩:=h;cases t with
 |branch v kids=>
  simp only [items,List.nil_append] at hL;rw [show ((if v= [] then [] else [(p,v)])++(List.finRange 16).flatMap fun i=>items (kids i) (p++ [hb i]))=items (.branch v kids) p from rfl,items_pl] at hL;cases hI:items (.branch v kids) [] with
  |nil=>rw [hI] at hL; cases hL
  |cons x0 r0=>
   rw [hI,List.map_cons] at hL;injection hL with e1 e2
   rcases List.eq_nil_or_concat r0 with e|⟨r1,z0,e⟩
   ·rw [e] at e2; simp at e2
   ·have e':r0=r1++ [z0]:=by rw [e]; simp
    subst e';rw [List.map_append,List.map_cons,List.map_nil] at e2;have e3:=List.append_inj' e2 rfl;simp only [List.cons.injEq,and_true] at e3
    have:=branch_apart h4 x0 z0 r1 hI
    rw [←e1,←e3.2]
    show common (p++x0.1) (p++z0.1)=p.length;rw [common_pre,this]; rfl
 |_=>simp [isBranch] at h3
theorem kid_filter (kids:Fin 16→T) (i:Fin 16):
  (((List.finRange 16).flatMap fun j=>items (kids j) [hb j]).filter fun x=>decide ((x.1.getD 0 0).toNat=i.val))=items (kids i) [hb i]:=by
 rw [List.filter_flatMap];have h:∀ j:Fin 16,((items (kids j) [hb j]).filter fun x=>decide ((x.1.getD 0 0).toNat=i.val))=if j=i then items (kids i) [hb i] else []:=by
  intro j;have hj:∀ x∈items (kids j) [hb j],(x.1.getD 0 0).toNat=j.val:=by
   intro x hx;rw [items_pl,List.mem_map] at hx;obtain ⟨y,_,rfl⟩:=hx
   have:=j.isLt
   simp [hb]; omega
  by_cases e:j=i
  ·subst e;rw [if_pos rfl,List.filter_eq_self];intro x hx;rw [decide_eq_true_eq]; exact hj x hx
  ·rw [if_neg e,List.filter_eq_nil_iff];intro x hx;simp only [decide_eq_true_eq,hj x hx];exact fun h=>e (Fin.ext h)
 simp only [h];have h2:∀ l:List (Fin 16),l.Nodup→(l.flatMap fun j=>if j=i then items (kids i) [hb i] else [])=if i∈l then items (kids i) [hb i] else []:=by
  intro l
  induction l with
  |nil=>intro _; rfl
  |cons a l ih=>
   intro hn;rw [List.nodup_cons] at hn;rw [List.flatMap_cons,ih hn.2];by_cases e:a=i
   ·subst e; rw [if_pos rfl,if_neg hn.1]; simp
   ·rw [if_neg e];simp [show ¬i=a from fun h=>e h.symm]
 rw [h2 _ (List.nodup_finRange 16),if_pos (List.mem_finRange i)]
end Trie
end Go.Proofs.YtdkiloganbhfkaaGreatDoor