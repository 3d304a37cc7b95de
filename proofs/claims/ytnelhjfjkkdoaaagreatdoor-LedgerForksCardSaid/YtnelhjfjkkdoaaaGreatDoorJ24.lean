import Derived.Test.YtnelhjfjkkdoaaaGreatDoorJ22
import Derived.Test.YtnelhjfjkkdoaaaGreatDoorJ10
import Derived.Test.YtnelhjfjkkdoaaaGreatDoorJ07
import Derived.Test.YtnelhjfjkkdoaaaGreatDoorJ19
import Derived.Test.YtnelhjfjkkdoaaaGreatDoorJ23
import Derived.Test.YtnelhjfjkkdoaaaGreatDoorJ06
import Derived.Test.YtnelhjfjkkdoaaaGreatDoorJ13
import Derived.Test.YtnelhjfjkkdoaaaGreatDoorJ21
import Derived.Test.YtnelhjfjkkdoaaaGreatDoorJ20
import Derived.Test.YtnelhjfjkkdoaaaGreatDoorJ14
import Derived.Test.YtnelhjfjkkdoaaaGreatDoorJ18
set_option linter.unusedSimpArgs false
set_option linter.unusedVariables false
namespace Go.Proofs.YtnelhjfjkkdoaaaGreatDoor
open Go.RowKit Go.Instr
attribute [local go_sem] ba_get ByteArray.mk_append_mk
attribute [local go_sem ↓] Go.wp_at_zero Go.wp_at_succ
def treeF (l : List (Int × List UInt8 × Int)) : Trie.T × Nat:=if 8 < l.length then (.nil,2) else treeW .nil 0 l
set_option maxRecDepth 100000 in
theorem receipt_treeF (l : List (Int × List UInt8 × Int)) (hs : ∀ x ∈ l,x.2.1.length ≤ 9223372036854775807) (w : World) (hT : Tbl w) (A : Option Addr) (c : Nat) (HR : Reads w w.heap.size 3 A l.length (rcells l)) :
  Calls Tryz.prog 75 #[.slice A l.length c] w (TPutEnd w (treeF l).1 (treeF l).2):=by
 by_cases hl : 8 < l.length
 ·have HP : Hid (∀ w',Below w.heap.size w w' → TPutEnd w (treeF l).1 (treeF l).2 (.returned (.tuple #[.pointer none,.int .i64 2])) w'):=Lib.hid (fun w' hb=>by
   unfold treeF
   rw [if_pos hl]
   exact ⟨_,rfl,hb,fun h=>(by cases h),fun _=>rfl⟩)
  generalize TPutEnd w (treeF l).1 (treeF l).2 = P at HP ⊢
  have hl1 : (8 : Int) < (l.length : Int):=by omega
  clear hl HR hT hs
  go_enter Tryz.func75,Tryz.ntmps75
  go_wp2_with fail
  exact HP.out _ (Below.refl _ _)
 ·have:=receipt_tree l (by omega) hs w hT A c HR
  unfold treeF
  rwa [if_neg hl]
set_option maxRecDepth 100000 in
set_option maxHeartbeats 1000000 in
theorem receipt_RootF (l : List (Int × List UInt8 × Int)) (hs : ∀ x ∈ l,x.2.1.length ≤ 9223372036854775807) (w : World) (hT : Tbl w) (A : Option Addr) (c : Nat) (HR : Reads w w.heap.size 3 A l.length (rcells l)) :
  Calls Tryz.prog 44 #[.slice A l.length c] w (RRootEnd w (treeF l)):=by
 have HTr:=Lib.hid (receipt_treeF l hs w hT A c HR)
 generalize treeF l = r at *
 obtain ⟨t,cd⟩:=r
 clear HR hT hs
 by_cases hc : cd = 0
 ·subst hc
  have HP : Hid (∀ w',Below w.heap.size w w' → RRootEnd w (t,0) (.returned (.tuple #[.string ⟨(Trie.sumT t).toArray⟩,.int .i64 0])) w'):=Lib.hid (fun w' hb=>⟨rfl,hb⟩)
  generalize RRootEnd w (t,0) = P at HP ⊢
  go_enter Tryz.func44,Tryz.ntmps44
  go_wp2_with fail
  refine HTr.out.mono ?_
  rintro e w1 ⟨v,rfl,hb,hk,_⟩
  have HB:=Lib.hid hb
  have HK:=Lib.hid (hk (by first | exact trivial | rfl))
  clear hb hk
  go_wp2_with fail
  refine (trie_Root _ _ _ HK.out).mono ?_
  rintro e w2 ⟨rfl,rfl⟩
  go_wp2_with fail
  exact HP.out _ HB.out
 ·have HP : Hid (∀ w',Below w.heap.size w w' → RRootEnd w (t,cd) (.returned (.tuple #[.string ⟨#[]⟩,.int .i64 (cd : Int)])) w'):=Lib.hid (fun w' hb=>⟨by simp [hc],hb⟩)
  generalize RRootEnd w (t,cd) = P at HP ⊢
  have hc1 : ((cd : Int) != 0) = true:=by simp; exact hc
  clear hc
  go_enter Tryz.func44,Tryz.ntmps44
  go_wp2_with fail
  refine HTr.out.mono ?_
  rintro e w1 ⟨v,rfl,hb,_,_⟩
  have HB:=Lib.hid hb
  clear hb
  go_wp2_with fail
  exact HP.out _ HB.out
end Go.Proofs.YtnelhjfjkkdoaaaGreatDoor
namespace Go.Proofs.YtnelhjfjkkdoaaaGreatDoor
structure En where
 hd : Hd
 sum : List UInt8
 txs : List Ex.Tx
 rcs : List Ex.Rc
 st : Trie.T
 set : List Pw.Mem
 nxt : List Pw.Mem
namespace Led
open Trie Pw
def rootR (l : List Ex.Rc) : List UInt8:=if (treeF l).2 = 0 then sumT (treeF l).1 else []
def newH (t : T) (set : List Mem) : Hd:=⟨0,0,0,true, [],sumT t, [],Ex.rootX [],digM set,digM set, []⟩
def newE (t : T) (set : List Mem) : En:=⟨newH t set,Hd.dig (newH t set), [], [],t,set,set⟩
def sumAt (l : List En) (i : Nat) : List UInt8:=((l[i]?).map (·.sum)).getD []
def makeC (p : En) (view : Int) (txs : List Ex.Tx) : Nat :=
 if view < 1 ∨ 1048576 < view ∨ 1048576 ≤ p.hd.hgt then 1 else if p.hd.last = false ∧ view ≤ p.hd.vw then 230 else (Ex.allL p.st txs).2
def nextH (l : List En) (p : En) (view : Int) (txs : List Ex.Tx) (t : T) (R : List Ex.Rc) (M : List Mem) : Hd :=
 ⟨p.hd.hgt + 1,if p.hd.last then p.hd.epo + 1 else p.hd.epo,view, !M.isEmpty,p.sum,sumT t,rootR R,Ex.rootX txs,p.hd.nxt,if M.isEmpty then p.hd.nxt else digM M,(Hd.linksH (p.hd.hgt + 1)).map (sumAt l)⟩
def nextE (l : List En) (p : En) (view : Int) (txs : List Ex.Tx) (t : T) (R : List Ex.Rc) (M : List Mem) : En :=
 ⟨nextH l p view txs t R M,Hd.dig (nextH l p view txs t R M),txs,R,t,p.nxt,if M.isEmpty then p.nxt else M⟩
def makeE (l : List En) (p : En) (view : Int) (txs : List Ex.Tx) : En:=nextE l p view txs (Ex.allL p.st txs).1.1 (Ex.allL p.st txs).1.2.1 (Ex.allL p.st txs).1.2.2
structure One (e : En) (i : Nat) : Prop where
 hgt : e.hd.hgt = i
 ok : Hd.Ok e.hd
 sum : e.sum = Hd.dig e.hd
 good : Trie.Good e.st
 cnt : count e.st ≤ 1024
 set : okM e.set = true
 nxt : okM e.nxt = true
 dset : digM e.set = e.hd.mem
 dnxt : digM e.nxt = e.hd.nxt
 epo : e.hd.epo ≤ i
theorem One.sum_len {e : En} {i : Nat} (h : One e i) : e.sum.length = 32:=by rw [h.sum]; exact Hd.dig_len ((Hd.ok_iff _).2 h.ok)
structure Two (p e : En) : Prop where
 par : e.hd.par = p.sum
 set : e.set = p.nxt
 mem : e.hd.mem = p.hd.nxt
 epo : e.hd.epo = if p.hd.last then p.hd.epo + 1 else p.hd.epo
 vw : p.hd.last = false → p.hd.vw < e.hd.vw
 nxt : e.hd.last = false → e.nxt = p.nxt ∧ e.hd.nxt = p.hd.nxt
structure Wf (l : List En) : Prop where
 pos : 0 < l.length
 one : ∀ i (hi : i < l.length),One l[i] i
 two : ∀ i (hi : i + 1 < l.length),Two l[i] l[i + 1]
 sk : ∀ i (hi : i < l.length),l[i].hd.sk = (Hd.linksH i).map (sumAt l)
theorem Wf.le {l : List En} (h : Wf l) : l.length ≤ 1048577:=by
 have hp:=h.pos
 have h1:=h.one (l.length - 1) (by omega)
 have h2:=h1.ok.h1
 have h3:=h1.hgt
 omega
theorem sumT_maybe (t : T) : sumT t = [] ∨ (sumT t).length = 32:=by
 by_cases h : t = .nil
 ·subst h; exact .inl rfl
 ·exact .inr (sumT_len h)
theorem rootR_maybe (l : List Ex.Rc) : rootR l = [] ∨ (rootR l).length = 32:=by
 unfold rootR
 split
 ·exact sumT_maybe _
 ·exact .inl rfl
theorem newE_one {t : T} {set : List Mem} (hg : Trie.Good t) (hc : count t ≤ 1024) (hs : okM set = true) : One (newE t set) 0 :=
  { hgt := rfl, sum := rfl, good := hg, cnt := hc, set := hs, nxt := hs, dset := rfl, dnxt := rfl, epo := by simp [newE, newH],
    ok := { h0 := by simp [newE, newH], h1 := by simp [newE, newH], e0 := by simp [newE, newH], e1 := by simp [newE, newH], v0 := by simp [newE, newH], v1 := by simp [newE, newH],
            par := ⟨fun h => by simp [newE, newH] at h, fun _ => ⟨rfl, rfl, rfl, rfl⟩⟩, sk := rfl, skl := fun s hs => by simp [newE, newH] at hs,
            tx := (Ex.rootX_len []), mem := (digM_len (l := set) hs), nxt := (digM_len (l := set) hs), st := (sumT_maybe t), rc := .inl rfl, on := fun h => by simp [newE, newH] at h } }
theorem newE_wf {t : T} {set : List Mem} (hg : Trie.Good t) (hc : count t ≤ 1024) (hs : okM set = true) : Wf [newE t set] where
 pos:=by simp
 one:=fun i hi=>by
  have : i = 0:=by simpa using hi
  subst this
  exact newE_one hg hc hs
 two:=fun i hi=>by simp at hi
 sk:=fun i hi=>by
  have : i = 0:=by simpa using hi
  subst this
  rfl
theorem sumAt_app {l : List En} {x : En} {i : Nat} (h : i < l.length) : sumAt (l ++ [x]) i = sumAt l i:=by
 unfold sumAt
 rw [List.getElem?_append_left h]
theorem sumAt_of {l : List En} {i : Nat} (h : i < l.length) : sumAt l i = l[i].sum:=by
 unfold sumAt
 rw [List.getElem?_eq_getElem h]
 rfl
theorem linksH_lt {h : Nat} : ∀ x ∈ Hd.linksH h,x < h:=by
 intro x hx
 unfold Hd.linksH at hx
 split at hx
 ·rename_i hc
  obtain ⟨i,hi,rfl⟩:=List.mem_iff_getElem.1 hx
  obtain ⟨h1,h2⟩:=Skip.links_get _ _ hi
  rw [h2]
  have:=Nat.two_pow_pos (i + 1)
  simp only [Int.toNat_natCast]
  omega
 ·simp at hx
theorem map_sumAt_app {l : List En} {x : En} {h : Nat} (hh : h ≤ l.length) : (Hd.linksH h).map (sumAt (l ++ [x])) = (Hd.linksH h).map (sumAt l) :=
 List.map_congr_left fun i hi=>sumAt_app (by have:=linksH_lt i hi; omega)
theorem isEmpty_false {α : Type} {l : List α} (h : l ≠ []) : l.isEmpty = false:=by cases l <;> simp_all
theorem nextE_one {l : List En} (h : Wf l) {p : En} {n : Nat} (hn : l.length = n + 1) (hp : l[n]'(by omega) = p) {view : Int} {txs : List Ex.Tx} {t : T} {R : List Ex.Rc} {M : List Mem} (hc : makeC p view txs = 0)
  (hg : Trie.Good t) (hct : count t ≤ 1024) (hM : M = [] ∨ okM M = true) : One (nextE l p view txs t R M) (n + 1) ∧ Two p (nextE l p view txs t R M):=by
 have o:=h.one n (by omega)
 rw [hp] at o
 unfold makeC at hc
 split at hc
 ·cases hc
 rename_i hv
 split at hc
 ·cases hc
 rename_i hw
 have e1:=o.epo
 have e2:=o.ok.e0
 have e3:=o.hgt
 have hdn:=o.dnxt
 have hlen : (digM p.nxt).length = 32:=digM_len o.nxt
 have hsk : ∀ s ∈ (Hd.linksH (p.hd.hgt + 1)).map (sumAt l),s.length = 32:=by
  intro s hs
  obtain ⟨i,hi,rfl⟩:=List.mem_map.1 hs
  have e4 : p.hd.hgt + 1 = ((n + 1 : Nat) : Int):=by omega
  rw [e4] at hi
  have:=linksH_lt i hi
  rw [sumAt_of (by omega)]
  exact (h.one i (by omega)).sum_len
 have hepo : (0 : Int) ≤ (if p.hd.last then p.hd.epo + 1 else p.hd.epo) ∧ (if p.hd.last then p.hd.epo + 1 else p.hd.epo) ≤ ((n + 1 : Nat) : Int):=by
  split <;> omega
 have hNx : okM (if M.isEmpty then p.nxt else M) = true ∧ digM (if M.isEmpty then p.nxt else M) = (if M.isEmpty then p.hd.nxt else digM M):=by
  rcases hM with rfl | hM
  ·exact ⟨o.nxt,o.dnxt⟩
  ·have : M ≠ []:=by intro e; subst e; have:=okM_len hM; simp at this
   rw [isEmpty_false this]
   exact ⟨hM,rfl⟩
 have htx:=Ex.rootX_len txs
 have hst:=sumT_maybe t
 have hrc:=rootR_maybe R
 have hsl:=o.sum_len
 have hnl : (if M.isEmpty then p.hd.nxt else digM M).length = 32:=by rw [← hNx.2]; exact digM_len hNx.1
 have hml : p.hd.nxt.length = 32:=by rw [← hdn]; exact hlen
 have hne : (!M.isEmpty) = false → (if M.isEmpty then p.hd.nxt else digM M) = p.hd.nxt:=fun e=>by
  rw [Bool.not_eq_false'] at e
  rw [e]; rfl
 have hnp : (!M.isEmpty) = false → (if M.isEmpty then p.nxt else M) = p.nxt:=fun e=>by
  rw [Bool.not_eq_false'] at e
  rw [e]; rfl
 unfold nextE nextH
 generalize Ex.rootX txs = a at *
 generalize sumT t = b at *
 generalize rootR R = c at *
 generalize (if M.isEmpty then p.hd.nxt else digM M) = d at *
 generalize (if M.isEmpty then p.nxt else M) = m at *
 generalize (!M.isEmpty) = f at *
 generalize hep : (if p.hd.last then p.hd.epo + 1 else p.hd.epo) = ep at *
 generalize hlk : (Hd.linksH (p.hd.hgt + 1)).map (sumAt l) = sk at *
 have hskl : sk.length = (Hd.linksH (p.hd.hgt + 1)).length:=by rw [← hlk,List.length_map]
 constructor
 ·exact { hgt:=(by simp only; omega),sum:=rfl,good:=hg,cnt:=hct,set:=o.nxt,nxt:=hNx.1,dset:=o.dnxt,dnxt:=hNx.2,epo:=hepo.2,ok := { h0:=(by simp only; omega),h1:=(by simp only; omega),e0:=hepo.1,e1:=(by have:=hepo.2; simp only; omega),v0:=(by simp only; omega),v1:=(by simp only; omega),par:=⟨fun _=>hsl,fun e=>(by simp only at e; omega)⟩,sk:=hskl,skl:=hsk,tx:=htx,mem:=hml,nxt:=hnl,st:=hst,rc:=hrc,on:=hne } }
 ·exact { par:=rfl,set:=rfl,mem:=rfl,epo:=hep.symm,vw:=fun e=>Int.not_le.1 (fun h2=>hw ⟨e,h2⟩),nxt:=fun e=>⟨hnp e,hne e⟩ }
theorem Wf.snoc {l : List En} (h : Wf l) {x : En} {n : Nat} (hn : l.length = n + 1) (h1 : One x (n + 1)) (h2 : Two (l[n]'(by omega)) x) (h3 : x.hd.sk = (Hd.linksH ((n + 1 : Nat) : Int)).map (sumAt l)) : Wf (l ++ [x]) where
 pos:=by simp
 one:=fun i hi=>by
  by_cases hl : i < l.length
  ·rw [List.getElem_append_left hl]; exact h.one i hl
  ·have : i = n + 1:=by simp at hi; omega
   subst this
   rw [List.getElem_append_right (by omega)]
   simp only [hn,Nat.sub_self,List.getElem_cons_zero]
   exact h1
 two:=fun i hi=>by
  by_cases hl : i + 1 < l.length
  ·rw [List.getElem_append_left hl,List.getElem_append_left (by omega)]; exact h.two i hl
  ·have : i = n:=by simp at hi; omega
   subst this
   rw [List.getElem_append_left (by omega),List.getElem_append_right (by omega)]
   simp only [hn,Nat.sub_self,List.getElem_cons_zero]
   exact h2
 sk:=fun i hi=>by
  by_cases hl : i < l.length
  ·rw [List.getElem_append_left hl,h.sk i hl,map_sumAt_app (by omega)]
  ·have : i = n + 1:=by simp at hi; omega
   subst this
   rw [List.getElem_append_right (by omega),map_sumAt_app (by omega)]
   simp only [hn,Nat.sub_self,List.getElem_cons_zero]
   exact h3
def addW (l : List En) (view : Int) (txs : List Ex.Tx) : List En × Nat :=
 match l.getLast? with
 | none=>(l,1)
 | some p=>if makeC p view txs = 0 then (l ++ [makeE l p view txs],0) else (l,makeC p view txs)
theorem last_of {l : List En} {n : Nat} (hn : l.length = n + 1) : l.getLast? = some (l[n]'(by omega)):=by
 rw [List.getLast?_eq_getElem?,show l.length - 1 = n by omega]
 exact List.getElem?_eq_getElem _
theorem makeC_all {p : En} {view : Int} {txs : List Ex.Tx} (hc : makeC p view txs = 0) : (Ex.allL p.st txs).2 = 0:=by
 unfold makeC at hc
 split at hc
 ·cases hc
 split at hc
 ·cases hc
 exact hc
theorem addW_wf {l : List En} (h : Wf l) (view : Int) (txs : List Ex.Tx) : Wf (addW l view txs).1:=by
 obtain ⟨n,hn⟩ : ∃ n,l.length = n + 1:=⟨l.length - 1,by have:=h.pos; omega⟩
 unfold addW
 rw [last_of hn]
 simp only
 split
 ·rename_i hc
  have o:=h.one n (by omega)
  obtain ⟨a1,a2,a3⟩:=Ex.allL_ok (makeC_all hc)
  have hg:=Ex.allGoL_good txs _ [] o.good o.cnt
  have hM:=Ex.allGoL_next txs l[n].st [] a2 (.inl rfl)
  unfold makeE
  rw [a3]
  obtain ⟨q1,q2⟩:=nextE_one h hn rfl (R:=(Ex.allGoL l[n].st txs []).2.1) hc hg.1 hg.2.1 hM
  refine h.snoc hn q1 q2 ?_
  simp only [nextE,nextH]
  rw [o.hgt]
  rfl
 ·exact h
def growW (l : List En) : List (Int × List Ex.Tx) → List En
 | []=>l
 | b :: r=>growW (addW l b.1 b.2).1 r
theorem growW_snoc : ∀ (r : List (Int × List Ex.Tx)) (l : List En) (b : Int × List Ex.Tx),growW l (r ++ [b]) = (addW (growW l r) b.1 b.2).1
 | [],l,b=>rfl
 | c :: r,l,b=>by rw [List.cons_append,growW,growW_snoc r]; rfl
end Led
end Go.Proofs.YtnelhjfjkkdoaaaGreatDoor
namespace Go.Proofs.YtnelhjfjkkdoaaaGreatDoor
open Go.RowKit Go.Instr
attribute [local go_sem] ba_get ByteArray.mk_append_mk
theorem nameW_eq (s : List UInt8) : Ex.nameW s = (!s.isEmpty && decide (s.length ≤ 6)):=by
 unfold Ex.nameW
 cases s <;> simp
theorem exec_name (s : List UInt8) (hl : s.length ≤ 9223372036854775807) (w : World) :
  Calls Tryz.prog 78 #[.string ⟨s.toArray⟩] w fun e w'=>e = .returned (.bool (Ex.nameW s)) ∧ w = w':=by
 have HP : Hid (∀ b w',Ex.nameW s = b → w = w' → (fun e w'=>e = Ending.returned (.bool (Ex.nameW s)) ∧ w = w') (Ending.returned (.bool b)) w'):=Lib.hid (fun b w' h1 h2=>⟨by rw [h1],h2⟩)
 generalize (fun e w'=>e = Ending.returned (.bool (Ex.nameW s)) ∧ w = w') = P at HP ⊢
 by_cases h0 : s = []
 ·subst h0
  go_enter Tryz.func78,Tryz.ntmps78
  go_wp2
  exact HP.out _ _ rfl rfl
 ·have ne1 : (s.toArray = #[]) = False:=by simp [h0]
  have ne2 : s.isEmpty = false:=by cases s <;> simp_all
  by_cases h8 : s.length ≤ 6
  ·have h8' : (s.length : Int) ≤ 6:=by omega
   go_enter Tryz.func78,Tryz.ntmps78
   go_wp2
   exact HP.out _ _ (by simp [nameW_eq,ne2,h8]) rfl
  ·have h8' : ((s.length : Int) ≤ 6) = False:=by simp; omega
   go_enter Tryz.func78,Tryz.ntmps78
   go_wp2
   exact HP.out _ _ (by simp [nameW_eq,ne2,h8]) rfl
theorem tx_name (s : List UInt8) (hl : s.length ≤ 9223372036854775807) (w : World) :
  Calls Tryz.prog 189 #[.string ⟨s.toArray⟩] w fun e w'=>e = .returned (.bool (Ex.nameW s)) ∧ w = w':=by
 have HP : Hid (∀ b w',Ex.nameW s = b → w = w' → (fun e w'=>e = Ending.returned (.bool (Ex.nameW s)) ∧ w = w') (Ending.returned (.bool b)) w'):=Lib.hid (fun b w' h1 h2=>⟨by rw [h1],h2⟩)
 generalize (fun e w'=>e = Ending.returned (.bool (Ex.nameW s)) ∧ w = w') = P at HP ⊢
 by_cases h0 : s = []
 ·subst h0
  go_enter Tryz.func189,Tryz.ntmps189
  go_wp2
  exact HP.out _ _ rfl rfl
 ·have ne1 : (s.toArray = #[]) = False:=by simp [h0]
  have ne2 : s.isEmpty = false:=by cases s <;> simp_all
  by_cases h8 : s.length ≤ 6
  ·have h8' : (s.length : Int) ≤ 6:=by omega
   go_enter Tryz.func189,Tryz.ntmps189
   go_wp2
   exact HP.out _ _ (by simp [nameW_eq,ne2,h8]) rfl
  ·have h8' : ((s.length : Int) ≤ 6) = False:=by simp; omega
   go_enter Tryz.func189,Tryz.ntmps189
   go_wp2
   exact HP.out _ _ (by simp [nameW_eq,ne2,h8]) rfl
theorem exec_within (n : Int) (w : World) :
  Calls Tryz.prog 82 #[.int .i64 n] w fun e w'=>e = .returned (.bool (decide (0 ≤ n) && decide (n ≤ 1099511627776))) ∧ w = w':=by
 have HP : Hid (∀ b w',(decide (0 ≤ n) && decide (n ≤ 1099511627776)) = b → w = w' → (fun e w'=>e = Ending.returned (.bool (decide (0 ≤ n) && decide (n ≤ 1099511627776))) ∧ w = w') (Ending.returned (.bool b)) w'):=Lib.hid (fun b w' h1 h2=>⟨by rw [h1],h2⟩)
 generalize (fun e w'=>e = Ending.returned (.bool (decide (0 ≤ n) && decide (n ≤ 1099511627776))) ∧ w = w') = P at HP ⊢
 by_cases h0 : 0 ≤ n
 ·have h0' : (0 ≤ n) = True:=by simp [h0]
  by_cases h8 : n ≤ 1099511627776
  ·have h8' : (n ≤ 1099511627776) = True:=by simp [h8]
   go_enter Tryz.func82,Tryz.ntmps82
   go_wp2
   exact HP.out _ _ (by simp [h0,h8]) rfl
  ·have h8' : (n ≤ 1099511627776) = False:=by simp; omega
   go_enter Tryz.func82,Tryz.ntmps82
   go_wp2
   exact HP.out _ _ (by simp [h0]; omega) rfl
 ·have h0' : (0 ≤ n) = False:=by simp; omega
  go_enter Tryz.func82,Tryz.ntmps82
  go_wp2
  exact HP.out _ _ (by simp; omega) rfl
set_option maxRecDepth 100000 in
theorem exec_written (n : List UInt8) (a q : Nat) (ha : a ≤ 4000000000000) (hq : q ≤ 4000000000000) (w : World) :
  Calls Tryz.prog 153 #[.agg #[.string ⟨n.toArray⟩,.int .i64 (a : Int),.int .i64 (q : Int)]] w (Ret w (.string ⟨(Ex.writA (a,q)).toArray⟩)):=by
 have HP : Hid (∀ w',Below w.heap.size w w' → Ret w (.string ⟨(Ex.writA (a,q)).toArray⟩) (.returned (.string ⟨(numW a ++ numW q).toArray⟩)) w'):=Lib.hid (fun w' h=>⟨rfl,h⟩)
 generalize Ret w (.string ⟨(Ex.writA (a,q)).toArray⟩) = P at HP ⊢
 have HA:=Lib.hid (fun W=>code_Num a (by omega) W)
 have HQ:=Lib.hid (fun W=>code_Num q (by omega) W)
 have l1:=numW_len a (by omega)
 have l2:=numW_len q (by omega)
 have HLn:=Lib.hid (And.intro l1 l2)
 clear ha hq l1 l2
 go_enter Tryz.func153,Tryz.ntmps153
 go_upto_region 1 with fail
 have F0:=Live.ha (Lib.hid (Live.start w)) #[.string ⟨n.toArray⟩,.int .i64 (a : Int),.int .i64 (q : Int)] 62
 generalize w.alloc (.cells #[.string ⟨n.toArray⟩,.int .i64 (a : Int),.int .i64 (q : Int)] 62) = W0 at F0 ⊢
 generalize w.heap.size = ab at F0 ⊢
 have k0_0 : W0.cell? ⟨ab,0,none⟩ = some (.string ⟨n.toArray⟩):=F0.out.cell 0 0 rfl rfl; have k0_1 : W0.cell? ⟨ab,1,none⟩ = some (.int .i64 (a : Int)):=F0.out.cell 0 1 rfl rfl; have k0_2 : W0.cell? ⟨ab,2,none⟩ = some (.int .i64 (q : Int)):=F0.out.cell 0 2 rfl rfl
 go_wp2_with fail
 refine (HA.out _).mono ?_
 rintro e w1 ⟨rfl,hb⟩
 have F1:=Live.hb F0 hb
 clear hb F0 k0_0 k0_1 k0_2 HA
 have k0_0 : w1.cell? ⟨ab,0,none⟩ = some (.string ⟨n.toArray⟩):=F1.out.cell 0 0 rfl rfl; have k0_1 : w1.cell? ⟨ab,1,none⟩ = some (.int .i64 (a : Int)):=F1.out.cell 0 1 rfl rfl; have k0_2 : w1.cell? ⟨ab,2,none⟩ = some (.int .i64 (q : Int)):=F1.out.cell 0 2 rfl rfl
 go_wp2_with fail
 refine (HQ.out _).mono ?_
 rintro e w2 ⟨rfl,hb⟩
 have F2:=Live.hb F1 hb
 clear hb F1 k0_0 k0_1 k0_2 HQ
 obtain ⟨l1,l2⟩:=HLn.out
 generalize numW a = X at *
 generalize numW q = Y at *
 have m1 : X.length + Y.length ≤ 9223372036854775807:=by omega
 clear l1 l2
 go_wp2
 exact HP.out _ F2.out.b
end Go.Proofs.YtnelhjfjkkdoaaaGreatDoor
namespace Go.Proofs.YtnelhjfjkkdoaaaGreatDoor
open Go.RowKit Go.Instr
attribute [local go_sem] ba_get ByteArray.mk_append_mk
attribute [local go_sem ↓] Go.wp_at_zero Go.wp_at_succ
theorem Rdr.lower {w w' : World} {B g : Nat} {s : List UInt8 × Nat} (h : Rdr w g s) (hb : Below B w w') (hg : g < B) : Rdr w' g s:=by
 obtain ⟨all,a,h1,h2⟩:=h
 exact ⟨all,a,Blk.below h1 hb hg,h2⟩
def accW (t : Trie.T) (n : List UInt8) : (List UInt8 × Nat × Nat) × Nat :=
 if Ex.nameW n then (match Ex.acc t n with | some p=>((n,p.1,p.2),0) | none=>(([],0,0),3)) else (([],0,0),1)
def AccEnd (w : World) (r : (List UInt8 × Nat × Nat) × Nat) (e : Ending) (w' : World) : Prop :=
 e = .returned (.tuple #[.agg #[.string ⟨r.1.1.toArray⟩,.int .i64 (r.1.2.1 : Int),.int .i64 (r.1.2.2 : Int)],.int .i64 (r.2 : Int)]) ∧ Below w.heap.size w w'
theorem look_len {t : Trie.T} (h : Trie.Good t) (k : List UInt8) : (Trie.look t (Nib.of k)).length ≤ 32:=by
 by_cases e : Trie.look t (Nib.of k) = []
 ·rw [e]; simp
 ·exact (h.small _ (Nib.fit_of k) e).2
theorem getW_len {t : Trie.T} (h : Trie.Good t) (k : List UInt8) : (Trie.getW t k).1.length ≤ 32:=by
 unfold Trie.getW
 split
 ·split
  ·simp
  ·exact look_len h k
 ·simp
set_option maxRecDepth 100000 in
set_option maxHeartbeats 2000000 in
theorem exec_Account (w : World) (t : Trie.T) (v : Value) (h : TrieP w t v) (n : List UInt8) (hl : n.length ≤ 9223372036854775807) :
  Calls Tryz.prog 33 #[v,.string ⟨n.toArray⟩] w (AccEnd w (accW t n)):=by
 have HP : Hid (∀ m (a q c : Nat) w',accW t n = ((m,a,q),c) → Below w.heap.size w w' → AccEnd w (accW t n) (.returned (.tuple #[.agg #[.string ⟨m.toArray⟩,.int .i64 (a : Int),.int .i64 (q : Int)],.int .i64 (c : Int)])) w'):=Lib.hid (fun m a q c w' e h=>by rw [e]; exact ⟨rfl,h⟩)
 have HX : Hid (accW t n = if Ex.nameW n then (match (if (Trie.getW t (97 :: 58 :: n)).2 = 0 then Ex.parseA (Trie.getW t (97 :: 58 :: n)).1 else some (0,0)) with | some p=>((n,p.1,p.2),0) | none=>(([],0,0),3)) else (([],0,0),1)):=Lib.hid rfl
 generalize AccEnd w (accW t n) = P at HP ⊢
 generalize accW t n = X at *
 have HN:=Lib.hid (fun W=>exec_name n (by omega) W)
 have HGt:=Lib.hid (fun W (h6 : n.length ≤ 6) (hW : Below w.heap.size w W)=>trie_Get W t v (h.next hW) (97 :: 58 :: n) (by simp only [List.length_cons]; omega))
 have hvl:=getW_len h.1 (97 :: 58 :: n)
 generalize Trie.getW t (97 :: 58 :: n) = r at *
 obtain ⟨vl,cd⟩:=r
 simp only at HX hvl
 unfold TGetEnd at HGt
 simp only at HGt
 clear h hl
 go_enter Tryz.func33,Tryz.ntmps33
 go_upto_region 1 with fail
 have F0:=Live.ha (Lib.hid (Live.start w)) #[.string ⟨#[]⟩,.int .i64 0,.int .i64 0] 62
 generalize w.alloc (.cells #[.string ⟨#[]⟩,.int .i64 0,.int .i64 0] 62) = W0 at F0 ⊢
 generalize w.heap.size = rb at F0 ⊢
 cases hn : Ex.nameW n with
 | false =>
  have HE : Hid (X = (([],0,0),1)):=Lib.hid (by rw [HX.out,hn]; rfl)
  rw [hn] at HN
  clear HX hn
  go_wp2_with fail
  refine (HN.out _).mono ?_
  rintro e w1 ⟨rfl,rfl⟩
  have r0 : W0.cell? ⟨rb,0,none⟩ = some (.string ⟨#[]⟩):=F0.out.cell 0 0 rfl rfl
  have r1 : W0.cell? ⟨rb,1,none⟩ = some (.int .i64 0):=F0.out.cell 0 1 rfl rfl
  have r2 : W0.cell? ⟨rb,2,none⟩ = some (.int .i64 0):=F0.out.cell 0 2 rfl rfl
  have f0 : W0.frozen? ⟨rb,0,none⟩ = false:=F0.out.frozen 0 0 rfl
  have f1 : W0.frozen? ⟨rb,1,none⟩ = false:=F0.out.frozen 0 1 rfl
  have f2 : W0.frozen? ⟨rb,2,none⟩ = false:=F0.out.frozen 0 2 rfl
  go_wp2_with fail
  have F9 : Hid (Live w (((W0.setCell ⟨rb,0,none⟩ (.string ⟨#[]⟩)).setCell ⟨rb,1,none⟩ (.int .i64 0)).setCell ⟨rb,2,none⟩ (.int .i64 0)) [(rb,62,#[.string ⟨#[]⟩,.int .i64 0,.int .i64 0])]):=Lib.hid (((F0.out.set 0 0 _ rfl).set 0 1 _ rfl).set 0 2 _ rfl)
  generalize ((W0.setCell ⟨rb,0,none⟩ (.string ⟨#[]⟩)).setCell ⟨rb,1,none⟩ (.int .i64 0)).setCell ⟨rb,2,none⟩ (.int .i64 0) = W9 at F9 ⊢
  have s0 : W9.cell? ⟨rb,0,none⟩ = some (.string ⟨#[]⟩):=F9.out.cell 0 0 rfl rfl
  have s1 : W9.cell? ⟨rb,1,none⟩ = some (.int .i64 0):=F9.out.cell 0 1 rfl rfl
  have s2 : W9.cell? ⟨rb,2,none⟩ = some (.int .i64 0):=F9.out.cell 0 2 rfl rfl
  (try simp only [Exit.inBlock,Exit.then])
  refine bodyPost_ret (v:=.tuple #[.agg #[.string ⟨#[]⟩,.int .i64 0,.int .i64 0],.int .i64 1]) (by simp [results,Tryz.results33,go_sem,s0,s1,s2]) rfl ?_
  exact HP.out [] 0 0 1 _ HE.out F9.out.b
 | true =>
 rw [hn] at HN HX
 rw [if_pos rfl] at HX
 have hn6:=(Ex.nameW_len hn).2
 have HN6:=Lib.hid hn6
 have hsum : 2 + n.length ≤ 9223372036854775807:=by omega
 have hsum2 : n.length + 2 ≤ 9223372036854775807:=by omega
 have hsum3 : n.length + 1 + 1 ≤ 9223372036854775807:=by omega
 clear hn hn6
 go_wp2_with fail
 refine (HN.out _).mono ?_
 rintro e w1 ⟨rfl,rfl⟩
 go_wp2_with fail
 refine (HGt.out _ HN6.out F0.out.b).mono ?_
 rintro e w2 ⟨rfl,hb⟩
 have F2:=Live.hb F0 hb
 clear hb F0 HN HGt
 by_cases hc : cd = 0
 rotate_left
 ·have hc1 : ((cd : Int) != 0) = true:=by simp; exact hc
  have HE : Hid (X = ((n,0,0),0)):=Lib.hid (by rw [HX.out,if_neg hc])
  clear HX hc
  have r0 : w2.cell? ⟨rb,0,none⟩ = some (.string ⟨#[]⟩):=F2.out.cell 0 0 rfl rfl
  have r1 : w2.cell? ⟨rb,1,none⟩ = some (.int .i64 0):=F2.out.cell 0 1 rfl rfl
  have r2 : w2.cell? ⟨rb,2,none⟩ = some (.int .i64 0):=F2.out.cell 0 2 rfl rfl
  have f0 : w2.frozen? ⟨rb,0,none⟩ = false:=F2.out.frozen 0 0 rfl
  have f1 : w2.frozen? ⟨rb,1,none⟩ = false:=F2.out.frozen 0 1 rfl
  have f2 : w2.frozen? ⟨rb,2,none⟩ = false:=F2.out.frozen 0 2 rfl
  go_wp2_with fail
  have F9 : Hid (Live w (((w2.setCell ⟨rb,0,none⟩ (.string ⟨n.toArray⟩)).setCell ⟨rb,1,none⟩ (.int .i64 0)).setCell ⟨rb,2,none⟩ (.int .i64 0)) [(rb,62,#[.string ⟨n.toArray⟩,.int .i64 0,.int .i64 0])]):=Lib.hid (((F2.out.set 0 0 _ rfl).set 0 1 _ rfl).set 0 2 _ rfl)
  generalize ((w2.setCell ⟨rb,0,none⟩ (.string ⟨n.toArray⟩)).setCell ⟨rb,1,none⟩ (.int .i64 0)).setCell ⟨rb,2,none⟩ (.int .i64 0) = W9 at F9 ⊢
  have s0 : W9.cell? ⟨rb,0,none⟩ = some (.string ⟨n.toArray⟩):=F9.out.cell 0 0 rfl rfl
  have s1 : W9.cell? ⟨rb,1,none⟩ = some (.int .i64 0):=F9.out.cell 0 1 rfl rfl
  have s2 : W9.cell? ⟨rb,2,none⟩ = some (.int .i64 0):=F9.out.cell 0 2 rfl rfl
  (try simp only [Exit.inBlock,Exit.then])
  refine bodyPost_ret (v:=.tuple #[.agg #[.string ⟨n.toArray⟩,.int .i64 0,.int .i64 0],.int .i64 0]) (by simp [results,Tryz.results33,go_sem,s0,s1,s2]) rfl ?_
  exact HP.out n 0 0 0 _ HE.out F9.out.b
 subst hc
 rw [if_pos rfl] at HX
 have HV:=Lib.hid hvl
 clear hvl
 go_wp2_with fail
 refine (code_Read vl _).mono ?_
 rintro e w3 ⟨rfl,rfl⟩
 obtain ⟨R,hR⟩ : ∃ R,w2.heap.size = R:=⟨_,rfl⟩
 have D3 : Hid (Rdr (w2.alloc (.cells #[.string ⟨vl.toArray⟩,.int .i64 0,.int .i64 0] 200)) R (vl,0) ∧ w.heap.size ≤ R ∧ rb ≠ R):=Lib.hid (by
  subst hR
  exact ⟨⟨vl,0,Blk.new _ _ _,Nat.zero_le _,by have:=HV.out; omega,rfl⟩,F2.out.b.size,fun e=>by have:=F2.out.lt 0 rfl; omega⟩)
 have F3 : Hid (Live w (w2.alloc (.cells #[.string ⟨vl.toArray⟩,.int .i64 0,.int .i64 0] 200)) [(rb,62,#[.string ⟨#[]⟩,.int .i64 0,.int .i64 0])]):=Live.hb F2 ((Below.refl _ w2).alloc (Nat.le_refl _) _)
 rw [hR]
 generalize w2.alloc (.cells #[.string ⟨vl.toArray⟩,.int .i64 0,.int .i64 0] 200) = W3 at D3 F3 ⊢
 clear hR F2
 obtain ⟨a,s1,hA⟩ : ∃ a s1,numS (vl,0) = (a,s1):=⟨_,_,rfl⟩
 obtain ⟨q,s2,hQ⟩ : ∃ q s2,numS s1 = (q,s2):=⟨_,_,rfl⟩
 have HX2 : Hid (X = match (if endS s2 = 0 ∧ a ≤ Ex.maxA ∧ q ≤ Ex.maxA then some (a,q) else none) with | some p=>((n,p.1,p.2),0) | none=>(([],0,0),3)):=Lib.hid (by
  rw [HX.out]
  unfold Ex.parseA
  rw [hA]
  simp only
  rw [hQ])
 have HA:=Lib.hid hA
 have HQ:=Lib.hid hQ
 clear hA hQ HX
 go_upto_region 7 with fail
 go_wp2_with fail
 refine (code_RNum _ R _ D3.out.1).mono ?_
 rw [HA.out]
 rintro e w4 ⟨rfl,hd,hg⟩
 have D4 : Hid (Rdr w4 R s1 ∧ w.heap.size ≤ R ∧ rb ≠ R):=Lib.hid ⟨hd,D3.out.2⟩
 have F4:=Lib.hid (F3.out.apart hg (fun k e=>by injection e with e; subst e; exact ⟨D3.out.2.1,by intro x hx; rw [List.mem_singleton] at hx; subst hx; exact D3.out.2.2⟩))
 clear hd hg D3 F3 HA
 go_wp2_with fail
 refine (code_RNum _ R _ D4.out.1).mono ?_
 rw [HQ.out]
 rintro e w5 ⟨rfl,hd,hg⟩
 have D5 : Hid (Rdr w5 R s2 ∧ w.heap.size ≤ R ∧ rb ≠ R):=Lib.hid ⟨hd,D4.out.2⟩
 have F5:=Lib.hid (F4.out.apart hg (fun k e=>by injection e with e; subst e; exact ⟨D4.out.2.1,by intro x hx; rw [List.mem_singleton] at hx; subst hx; exact D4.out.2.2⟩))
 clear hd hg D4 F4 HQ
 go_upto_region 8 with fail
 obtain ⟨ab,hab⟩ : ∃ ab,w5.heap.size = ab:=⟨_,rfl⟩
 have D6 : Hid (Rdr (w5.alloc (.cells #[.string ⟨n.toArray⟩,.int .i64 (a : Int),.int .i64 (q : Int)] 62)) R s2 ∧ w.heap.size ≤ R ∧ rb ≠ R ∧ ab ≠ R):=Lib.hid (by
  subst hab
  exact ⟨D5.out.1.lower ((Below.refl _ w5).alloc (Nat.le_refl _) _) D5.out.1.lt,D5.out.2.1,D5.out.2.2,fun e=>by have:=D5.out.1.lt; omega⟩)
 have F6:=Live.ha F5 #[.string ⟨n.toArray⟩,.int .i64 (a : Int),.int .i64 (q : Int)] 62
 rw [hab] at F6 ⊢
 generalize w5.alloc (.cells #[.string ⟨n.toArray⟩,.int .i64 (a : Int),.int .i64 (q : Int)] 62) = W6 at D6 F6 ⊢
 clear hab D5 F5
 go_wp2_with fail
 refine (code_REnd _ R _ D6.out.1).mono ?_
 rintro e w7 ⟨rfl,hd,hg⟩
 have F7:=Lib.hid (F6.out.apart hg (fun k e=>by injection e with e; subst e; exact ⟨D6.out.2.1,by intro x hx; simp only [List.mem_cons,List.not_mem_nil,or_false] at hx; rcases hx with rfl | rfl; exact D6.out.2.2.2; exact D6.out.2.2.1⟩))
 have F8:=Lib.hid (F7.out.drop 1)
 simp only [List.drop_succ_cons,List.drop_zero] at F8
 clear hd hg D6 F6
 have k0_0 : w7.cell? ⟨ab,0,none⟩ = some (.string ⟨n.toArray⟩):=F7.out.cell 0 0 rfl rfl; have k0_1 : w7.cell? ⟨ab,1,none⟩ = some (.int .i64 (a : Int)):=F7.out.cell 0 1 rfl rfl; have k0_2 : w7.cell? ⟨ab,2,none⟩ = some (.int .i64 (q : Int)):=F7.out.cell 0 2 rfl rfl
 generalize endS s2 = ec at *
 by_cases he : ec = 0
 rotate_left
 ·have hc1 : ((ec : Int) != 0) = true:=by simp; exact he
  have HE : Hid (X = (([],0,0),3)):=Lib.hid (by rw [HX2.out,if_neg (fun e=>he e.1)])
  clear HX2 he
  have r0 : w7.cell? ⟨rb,0,none⟩ = some (.string ⟨#[]⟩):=F8.out.cell 0 0 rfl rfl
  have r1 : w7.cell? ⟨rb,1,none⟩ = some (.int .i64 0):=F8.out.cell 0 1 rfl rfl
  have r2 : w7.cell? ⟨rb,2,none⟩ = some (.int .i64 0):=F8.out.cell 0 2 rfl rfl
  have f0 : w7.frozen? ⟨rb,0,none⟩ = false:=F8.out.frozen 0 0 rfl
  have f1 : w7.frozen? ⟨rb,1,none⟩ = false:=F8.out.frozen 0 1 rfl
  have f2 : w7.frozen? ⟨rb,2,none⟩ = false:=F8.out.frozen 0 2 rfl
  go_wp2_with fail
  have F9 : Hid (Live w (((w7.setCell ⟨rb,0,none⟩ (.string ⟨#[]⟩)).setCell ⟨rb,1,none⟩ (.int .i64 0)).setCell ⟨rb,2,none⟩ (.int .i64 0)) [(rb,62,#[.string ⟨#[]⟩,.int .i64 0,.int .i64 0])]):=Lib.hid (((F8.out.set 0 0 _ rfl).set 0 1 _ rfl).set 0 2 _ rfl)
  generalize ((w7.setCell ⟨rb,0,none⟩ (.string ⟨#[]⟩)).setCell ⟨rb,1,none⟩ (.int .i64 0)).setCell ⟨rb,2,none⟩ (.int .i64 0) = W9 at F9 ⊢
  have s0 : W9.cell? ⟨rb,0,none⟩ = some (.string ⟨#[]⟩):=F9.out.cell 0 0 rfl rfl
  have s1 : W9.cell? ⟨rb,1,none⟩ = some (.int .i64 0):=F9.out.cell 0 1 rfl rfl
  have s2 : W9.cell? ⟨rb,2,none⟩ = some (.int .i64 0):=F9.out.cell 0 2 rfl rfl
  (try simp only [Exit.inBlock,Exit.then])
  refine bodyPost_ret (v:=.tuple #[.agg #[.string ⟨#[]⟩,.int .i64 0,.int .i64 0],.int .i64 3]) (by simp [results,Tryz.results33,go_sem,s0,s1,s2]) rfl ?_
  exact HP.out [] 0 0 3 _ HE.out F9.out.b
 subst he
 have WA:=Lib.hid (exec_within (a : Int) w7)
 have WQ:=Lib.hid (exec_within (q : Int) w7)
 rw [decide_eq_true (show (0 : Int) ≤ (a : Int) by omega),Bool.true_and] at WA
 rw [decide_eq_true (show (0 : Int) ≤ (q : Int) by omega),Bool.true_and] at WQ
 by_cases ha : a ≤ Ex.maxA
 rotate_left
 ·have HE : Hid (X = (([],0,0),3)):=Lib.hid (by rw [HX2.out,if_neg (fun e=>ha e.2.1)])
  rw [decide_eq_false (show ¬ (a : Int) ≤ 1099511627776 by unfold Ex.maxA at ha; omega)] at WA
  clear HX2 ha
  go_wp2_with fail
  refine WA.out.mono ?_
  rintro e w8 ⟨rfl,rfl⟩
  have r0 : w7.cell? ⟨rb,0,none⟩ = some (.string ⟨#[]⟩):=F8.out.cell 0 0 rfl rfl
  have r1 : w7.cell? ⟨rb,1,none⟩ = some (.int .i64 0):=F8.out.cell 0 1 rfl rfl
  have r2 : w7.cell? ⟨rb,2,none⟩ = some (.int .i64 0):=F8.out.cell 0 2 rfl rfl
  have f0 : w7.frozen? ⟨rb,0,none⟩ = false:=F8.out.frozen 0 0 rfl
  have f1 : w7.frozen? ⟨rb,1,none⟩ = false:=F8.out.frozen 0 1 rfl
  have f2 : w7.frozen? ⟨rb,2,none⟩ = false:=F8.out.frozen 0 2 rfl
  go_wp2_with fail
  have F9 : Hid (Live w (((w7.setCell ⟨rb,0,none⟩ (.string ⟨#[]⟩)).setCell ⟨rb,1,none⟩ (.int .i64 0)).setCell ⟨rb,2,none⟩ (.int .i64 0)) [(rb,62,#[.string ⟨#[]⟩,.int .i64 0,.int .i64 0])]):=Lib.hid (((F8.out.set 0 0 _ rfl).set 0 1 _ rfl).set 0 2 _ rfl)
  generalize ((w7.setCell ⟨rb,0,none⟩ (.string ⟨#[]⟩)).setCell ⟨rb,1,none⟩ (.int .i64 0)).setCell ⟨rb,2,none⟩ (.int .i64 0) = W9 at F9 ⊢
  have s0 : W9.cell? ⟨rb,0,none⟩ = some (.string ⟨#[]⟩):=F9.out.cell 0 0 rfl rfl
  have s1 : W9.cell? ⟨rb,1,none⟩ = some (.int .i64 0):=F9.out.cell 0 1 rfl rfl
  have s2 : W9.cell? ⟨rb,2,none⟩ = some (.int .i64 0):=F9.out.cell 0 2 rfl rfl
  (try simp only [Exit.inBlock,Exit.then])
  refine bodyPost_ret (v:=.tuple #[.agg #[.string ⟨#[]⟩,.int .i64 0,.int .i64 0],.int .i64 3]) (by simp [results,Tryz.results33,go_sem,s0,s1,s2]) rfl ?_
  exact HP.out [] 0 0 3 _ HE.out F9.out.b
 rw [decide_eq_true (show (a : Int) ≤ 1099511627776 by unfold Ex.maxA at ha; omega)] at WA
 by_cases hq : q ≤ Ex.maxA
 rotate_left
 ·have HE : Hid (X = (([],0,0),3)):=Lib.hid (by rw [HX2.out,if_neg (fun e=>hq e.2.2)])
  rw [decide_eq_false (show ¬ (q : Int) ≤ 1099511627776 by unfold Ex.maxA at hq; omega)] at WQ
  clear HX2 ha hq
  go_wp2_with fail
  refine WA.out.mono ?_
  rintro e w8 ⟨rfl,rfl⟩
  go_wp2_with fail
  refine WQ.out.mono ?_
  rintro e w8 ⟨rfl,rfl⟩
  have r0 : w7.cell? ⟨rb,0,none⟩ = some (.string ⟨#[]⟩):=F8.out.cell 0 0 rfl rfl
  have r1 : w7.cell? ⟨rb,1,none⟩ = some (.int .i64 0):=F8.out.cell 0 1 rfl rfl
  have r2 : w7.cell? ⟨rb,2,none⟩ = some (.int .i64 0):=F8.out.cell 0 2 rfl rfl
  have f0 : w7.frozen? ⟨rb,0,none⟩ = false:=F8.out.frozen 0 0 rfl
  have f1 : w7.frozen? ⟨rb,1,none⟩ = false:=F8.out.frozen 0 1 rfl
  have f2 : w7.frozen? ⟨rb,2,none⟩ = false:=F8.out.frozen 0 2 rfl
  go_wp2_with fail
  have F9 : Hid (Live w (((w7.setCell ⟨rb,0,none⟩ (.string ⟨#[]⟩)).setCell ⟨rb,1,none⟩ (.int .i64 0)).setCell ⟨rb,2,none⟩ (.int .i64 0)) [(rb,62,#[.string ⟨#[]⟩,.int .i64 0,.int .i64 0])]):=Lib.hid (((F8.out.set 0 0 _ rfl).set 0 1 _ rfl).set 0 2 _ rfl)
  generalize ((w7.setCell ⟨rb,0,none⟩ (.string ⟨#[]⟩)).setCell ⟨rb,1,none⟩ (.int .i64 0)).setCell ⟨rb,2,none⟩ (.int .i64 0) = W9 at F9 ⊢
  have s0 : W9.cell? ⟨rb,0,none⟩ = some (.string ⟨#[]⟩):=F9.out.cell 0 0 rfl rfl
  have s1 : W9.cell? ⟨rb,1,none⟩ = some (.int .i64 0):=F9.out.cell 0 1 rfl rfl
  have s2 : W9.cell? ⟨rb,2,none⟩ = some (.int .i64 0):=F9.out.cell 0 2 rfl rfl
  (try simp only [Exit.inBlock,Exit.then])
  refine bodyPost_ret (v:=.tuple #[.agg #[.string ⟨#[]⟩,.int .i64 0,.int .i64 0],.int .i64 3]) (by simp [results,Tryz.results33,go_sem,s0,s1,s2]) rfl ?_
  exact HP.out [] 0 0 3 _ HE.out F9.out.b
 have HE : Hid (X = ((n,a,q),0)):=Lib.hid (by rw [HX2.out,if_pos ⟨rfl,ha,hq⟩])
 rw [decide_eq_true (show (q : Int) ≤ 1099511627776 by unfold Ex.maxA at hq; omega)] at WQ
 clear HX2 ha hq
 go_wp2_with fail
 refine WA.out.mono ?_
 rintro e w8 ⟨rfl,rfl⟩
 go_wp2_with fail
 refine WQ.out.mono ?_
 rintro e w8 ⟨rfl,rfl⟩
 have r0 : w7.cell? ⟨rb,0,none⟩ = some (.string ⟨#[]⟩):=F8.out.cell 0 0 rfl rfl
 have r1 : w7.cell? ⟨rb,1,none⟩ = some (.int .i64 0):=F8.out.cell 0 1 rfl rfl
 have r2 : w7.cell? ⟨rb,2,none⟩ = some (.int .i64 0):=F8.out.cell 0 2 rfl rfl
 have f0 : w7.frozen? ⟨rb,0,none⟩ = false:=F8.out.frozen 0 0 rfl
 have f1 : w7.frozen? ⟨rb,1,none⟩ = false:=F8.out.frozen 0 1 rfl
 have f2 : w7.frozen? ⟨rb,2,none⟩ = false:=F8.out.frozen 0 2 rfl
 go_wp2_with fail
 have F9 : Hid (Live w (((w7.setCell ⟨rb,0,none⟩ (.string ⟨n.toArray⟩)).setCell ⟨rb,1,none⟩ (.int .i64 (a : Int))).setCell ⟨rb,2,none⟩ (.int .i64 (q : Int))) [(rb,62,#[.string ⟨n.toArray⟩,.int .i64 (a : Int),.int .i64 (q : Int)])]):=Lib.hid (((F8.out.set 0 0 _ rfl).set 0 1 _ rfl).set 0 2 _ rfl)
 generalize ((w7.setCell ⟨rb,0,none⟩ (.string ⟨n.toArray⟩)).setCell ⟨rb,1,none⟩ (.int .i64 (a : Int))).setCell ⟨rb,2,none⟩ (.int .i64 (q : Int)) = W9 at F9 ⊢
 have s0 : W9.cell? ⟨rb,0,none⟩ = some (.string ⟨n.toArray⟩):=F9.out.cell 0 0 rfl rfl
 have s1 : W9.cell? ⟨rb,1,none⟩ = some (.int .i64 (a : Int)):=F9.out.cell 0 1 rfl rfl
 have s2 : W9.cell? ⟨rb,2,none⟩ = some (.int .i64 (q : Int)):=F9.out.cell 0 2 rfl rfl
 (try simp only [Exit.inBlock,Exit.then])
 refine bodyPost_ret (v:=.tuple #[.agg #[.string ⟨n.toArray⟩,.int .i64 (a : Int),.int .i64 (q : Int)],.int .i64 0]) (by simp [results,Tryz.results33,go_sem,s0,s1,s2]) rfl ?_
 exact HP.out n a q 0 _ HE.out F9.out.b
theorem TrieP.kept {w w' : World} {row : Option Nat} {t : Trie.T} {v : Value} (h : TrieP w t v) (hg : w.grownBy w' row) (hk : ∀ k,row = some k → ∃ ty cs,Blk w k ty cs ∧ ty ≠ 115 ∧ ty ≠ 136) : TrieP w' t v:=by
 obtain ⟨h1,b,x,rfl,h2,h3⟩:=h
 refine ⟨h1,b,x,rfl,h2.grown hg (fun e => ?_),KnotP.far (fun b' cs hb=>hb.grown hg (fun e => ?_)) h3⟩
 ·obtain ⟨ty,cs,a1,a2,a3⟩:=hk b e.symm
  exact a1.ne_ h2 a2 rfl
 ·obtain ⟨ty,cs',a1,a2,a3⟩:=hk b' e.symm
  exact a1.ne_ hb a3 rfl
theorem grown_cell {a w : World} {g : Nat} (h : a.grownBy w (some g)) (i : Nat) (u : Value) : a.grownBy (w.setCell ⟨g,i,none⟩ u) (some g):=grown_setAll [u] i w h
def WorkP (w : World) (wb : Nat) (t : Trie.T) (c : Nat) : Prop := ∃ v,Blk w wb 272 #[v,.int .i64 (c : Int)] ∧ TrieP w t v
theorem WorkP.lt {w : World} {wb : Nat} {t : Trie.T} {c : Nat} (h : WorkP w wb t c) : wb < w.heap.size:=by obtain ⟨v,h,_⟩:=h; exact h.lt
theorem WorkP.next {w w' : World} {wb : Nat} {t : Trie.T} {c : Nat} (h : WorkP w wb t c) (hb : Below w.heap.size w w') : WorkP w' wb t c:=by
 obtain ⟨v,h1,h2⟩:=h
 exact ⟨v,h1.below hb h1.lt,h2.next hb⟩
def WkEnd (w : World) (wb : Nat) (t : Trie.T) (c : Nat) (e : Ending) (w' : World) : Prop:=e = .returned (.tuple #[]) ∧ WorkP w' wb t c ∧ w.grownBy w' (some wb)
theorem WorkP.set0 {w : World} {wb : Nat} {t : Trie.T} {c : Nat} {v v' : Value} (h : Blk w wb 272 #[v,.int .i64 (c : Int)]) (h' : TrieP w t v') : WorkP (w.setCell ⟨wb,0,none⟩ v') wb t c :=
 ⟨v',h.set_ 0 v',h'.kept (grown_cell (World.grownBy.refl w _) 0 v') (fun k e=>by injection e with e; subst e; exact ⟨_,_,h,by decide,by decide⟩)⟩
theorem WorkP.set1 {w : World} {wb : Nat} {t : Trie.T} {c c' : Nat} {v : Value} (h : Blk w wb 272 #[v,.int .i64 (c : Int)]) (h' : TrieP w t v) : WorkP (w.setCell ⟨wb,1,none⟩ (.int .i64 (c' : Int))) wb t c' :=
 ⟨v,h.set_ 1 _,h'.kept (grown_cell (World.grownBy.refl w _) 1 _) (fun k e=>by injection e with e; subst e; exact ⟨_,_,h,by decide,by decide⟩)⟩
theorem work_put_no (w : World) (wb : Nat) (t : Trie.T) (c : Nat) (h : WorkP w wb t c) (hc : c ≠ 0) (x y : Value) :
  Calls Tryz.prog 192 #[.pointer (some ⟨wb,0,none⟩),x,y] w (WkEnd w wb t c):=by
 have HP : Hid (WkEnd w wb t c (.returned (.tuple #[])) w):=Lib.hid ⟨rfl,h,World.grownBy.refl w _⟩
 generalize WkEnd w wb t c = P at HP ⊢
 obtain ⟨v,hB,_⟩:=h
 have k1 : w.cell? ⟨wb,1,none⟩ = some (.int .i64 (c : Int)):=hB.cell 1
 have hc1 : ((c : Int) != 0) = true:=by simp; exact hc
 clear hB hc
 go_enter Tryz.func192,Tryz.ntmps192
 go_wp2
 go_end0
 exact HP.out
theorem work_put_ok (w : World) (wb : Nat) (t : Trie.T) (h : WorkP w wb t 0) (hn : Trie.count t < 1024) (hT : Tbl w) (key value : List UInt8) (hp : Trie.putCode key value = 0) :
  Calls Tryz.prog 192 #[.pointer (some ⟨wb,0,none⟩),.string ⟨key.toArray⟩,.string ⟨value.toArray⟩] w (WkEnd w wb (Trie.put t (Nib.of key) value) 0):=by
 have hl : key.length ≤ 8 ∧ value.length ≤ 32:=by
  unfold Trie.putCode at hp
  split at hp
  ·rename_i hk
   split at hp
   ·cases hp
   ·rename_i hv
    simp only [Bool.or_eq_true,decide_eq_true_eq,not_or] at hv
    exact ⟨(Trie.keyed_len hk).1,by omega⟩
  ·cases hp
 obtain ⟨v,hB,hK⟩:=h
 have HP : Hid (∀ w',WorkP w' wb (Trie.put t (Nib.of key) value) 0 → w.grownBy w' (some wb) → WkEnd w wb (Trie.put t (Nib.of key) value) 0 (.returned (.tuple #[])) w'):=Lib.hid (fun w' h1 h2=>⟨rfl,h1,h2⟩)
 generalize WkEnd w wb (Trie.put t (Nib.of key) value) 0 = P at HP ⊢
 have HPt:=Lib.hid (trie_Put w t v hK hn hT key value (by omega) (by omega))
 rw [hp] at HPt
 have HB:=Lib.hid hB
 have k0 : w.cell? ⟨wb,0,none⟩ = some v:=hB.cell 0
 have k1 : w.cell? ⟨wb,1,none⟩ = some (.int .i64 0):=hB.cell 1
 clear hB hK hn hT hp hl
 go_enter Tryz.func192,Tryz.ntmps192
 go_wp2_with fail
 refine HPt.out.mono ?_
 rintro e w1 ⟨v1,rfl,hb,hk,_⟩
 obtain ⟨_,p1,x1,rfl,_⟩:=id (hk (by first | exact trivial | rfl))
 have B1 : Hid (Blk w1 wb 272 #[v,.int .i64 ((0 : Nat) : Int)] ∧ TrieP w1 (Trie.put t (Nib.of key) value) (.pointer (some ⟨p1,0,none⟩)) ∧ w.grownBy w1 (some wb)):=Lib.hid ⟨HB.out.below hb HB.out.lt,hk (by first | exact trivial | rfl),only_of_below hb (some wb)⟩
 have f0 : w1.frozen? ⟨wb,0,none⟩ = false:=B1.out.1.frozen 0
 have c0 : w1.cell? ⟨wb,0,none⟩ = some v:=B1.out.1.cell 0
 clear hb hk k0 k1
 go_wp2_with fail
 go_end0
 exact HP.out _ (WorkP.set0 B1.out.1 B1.out.2.1) (grown_cell B1.out.2.2 0 _)
theorem work_drop_ok (w : World) (wb : Nat) (t : Trie.T) (h : WorkP w wb t 0) (hn : Trie.count t < 1024) (hT : Tbl w) (key : List UInt8) (hl : key.length ≤ 6) :
  Calls Tryz.prog 193 #[.pointer (some ⟨wb,0,none⟩),.string ⟨key.toArray⟩] w (WkEnd w wb (if (Trie.getW t (Ex.dKey key)).2 = 0 then Trie.del t (Nib.of (Ex.dKey key)) else t) (Trie.getW t (Ex.dKey key)).2):=by
 obtain ⟨v,hB,hK⟩:=h
 have HP : Hid (∀ t' (c : Nat) w',(Trie.getW t (Ex.dKey key)).2 = c → (if c = 0 then Trie.del t (Nib.of (Ex.dKey key)) else t) = t' → WorkP w' wb t' c → w.grownBy w' (some wb) → WkEnd w wb (if (Trie.getW t (Ex.dKey key)).2 = 0 then Trie.del t (Nib.of (Ex.dKey key)) else t) (Trie.getW t (Ex.dKey key)).2 (.returned (.tuple #[])) w'):=Lib.hid (fun t' c w' e1 e2 h1 h2=>by rw [e1,e2]; exact ⟨rfl,h1,h2⟩)
 generalize WkEnd w wb (if (Trie.getW t (Ex.dKey key)).2 = 0 then Trie.del t (Nib.of (Ex.dKey key)) else t) (Trie.getW t (Ex.dKey key)).2 = P at HP ⊢
 have HDl:=Lib.hid (trie_Del w t v hK hn hT (100 :: 58 :: key) (by simp only [List.length_cons]; omega))
 have HP:=Lib.hid (show ∀ t' (c : Nat) w',(Trie.getW t (100 :: 58 :: key)).2 = c → (if c = 0 then Trie.del t (Nib.of (100 :: 58 :: key)) else t) = t' → WorkP w' wb t' c → w.grownBy w' (some wb) → P (.returned (.tuple #[])) w' from HP.out)
 have HB:=Lib.hid (And.intro hB hK)
 have k0 : w.cell? ⟨wb,0,none⟩ = some v:=hB.cell 0
 have k1 : w.cell? ⟨wb,1,none⟩ = some (.int .i64 0):=hB.cell 1
 have hsum : 2 + key.length ≤ 9223372036854775807:=by omega
 have hsum2 : key.length + 2 ≤ 9223372036854775807:=by omega
 have hsum3 : key.length + 1 + 1 ≤ 9223372036854775807:=by omega
 generalize (Trie.getW t (100 :: 58 :: key)).2 = c at *
 generalize Trie.del t (Nib.of (100 :: 58 :: key)) = t' at *
 clear hB hK hn hT hl
 by_cases hc : c = 0
 ·subst hc
  go_enter Tryz.func193,Tryz.ntmps193
  go_wp2_with fail
  refine HDl.out.mono ?_
  rintro e w1 ⟨v1,rfl,hb,hk,_⟩
  obtain ⟨_,p1,x1,rfl,_⟩:=id (hk (by first | exact trivial | rfl))
  have B1 : Hid (Blk w1 wb 272 #[v,.int .i64 ((0 : Nat) : Int)] ∧ TrieP w1 t' (.pointer (some ⟨p1,0,none⟩)) ∧ w.grownBy w1 (some wb)):=Lib.hid ⟨HB.out.1.below hb HB.out.1.lt,hk (by first | exact trivial | rfl),only_of_below hb (some wb)⟩
  have f0 : w1.frozen? ⟨wb,0,none⟩ = false:=B1.out.1.frozen 0
  have c0 : w1.cell? ⟨wb,0,none⟩ = some v:=B1.out.1.cell 0
  clear hb hk k0 k1
  go_wp2_with fail
  go_end0
  exact HP.out t' 0 _ (by first | trivial | rfl) (by simp) (WorkP.set0 B1.out.1 B1.out.2.1) (grown_cell B1.out.2.2 0 _)
 ·have hc1 : ((c : Int) != 0) = true:=by simp; exact hc
  have HC:=Lib.hid hc
  clear hc
  go_enter Tryz.func193,Tryz.ntmps193
  go_wp2_with fail
  refine HDl.out.mono ?_
  rintro e w1 ⟨v1,rfl,hb,_,hz⟩
  obtain rfl:=hz HC.out
  have B1 : Hid (Blk w1 wb 272 #[v,.int .i64 ((0 : Nat) : Int)] ∧ TrieP w1 t v ∧ w.grownBy w1 (some wb)):=Lib.hid ⟨HB.out.1.below hb HB.out.1.lt,HB.out.2.next hb,only_of_below hb (some wb)⟩
  have f1 : w1.frozen? ⟨wb,1,none⟩ = false:=B1.out.1.frozen 1
  have c1 : w1.cell? ⟨wb,1,none⟩ = some (.int .i64 0):=B1.out.1.cell 1
  clear hb k0 k1
  go_wp2_with fail
  go_end0
  exact HP.out t c _ (by first | trivial | rfl) (if_neg HC.out) (WorkP.set1 B1.out.1 B1.out.2.1) (grown_cell B1.out.2.2 1 _)
theorem Live.grownAt {w W W' : World} {g t wb : Nat} {cs : Array Value} (h : Live w W [(g,t,cs)]) (hg : W.grownBy W' (some wb)) (hw : wb < w.heap.size) : Blk W' g t cs ∧ w.grownBy W' (some wb) :=
 ⟨(h.blk 0 rfl).grown hg (fun e=>by injection e with e; have:=h.own 0 rfl; omega),(only_of_below h.b (some wb)).trans hg⟩
theorem work_save_ok (w : World) (wb : Nat) (t : Trie.T) (h : WorkP w wb t 0) (hn : Trie.count t < 1024) (hT : Tbl w) (n : List UInt8) (hl : n.length ≤ 6) (a q : Nat) (ha : a ≤ 2000000000000) (hq : q ≤ 2000000000000) :
  Calls Tryz.prog 194 #[.pointer (some ⟨wb,0,none⟩),.agg #[.string ⟨n.toArray⟩,.int .i64 (a : Int),.int .i64 (q : Int)]] w (WkEnd w wb (Trie.put t (Nib.of (Ex.aKey n)) (Ex.writA (a,q))) 0):=by
 have HW:=Lib.hid h
 have HP : Hid (∀ w',WorkP w' wb (Trie.put t (Nib.of (Ex.aKey n)) (Ex.writA (a,q))) 0 → w.grownBy w' (some wb) → WkEnd w wb (Trie.put t (Nib.of (Ex.aKey n)) (Ex.writA (a,q))) 0 (.returned (.tuple #[])) w'):=Lib.hid (fun w' h1 h2=>⟨rfl,h1,h2⟩)
 generalize WkEnd w wb (Trie.put t (Nib.of (Ex.aKey n)) (Ex.writA (a,q))) 0 = P at HP ⊢
 have HPt:=Lib.hid (fun W (hW : Below w.heap.size w W)=>work_put_ok W wb t (h.next hW) hn (hT.next hW) (97 :: 58 :: n) (Ex.writA (a,q)) (Ex.putCode_a (n:=n) hl ha hq))
 have HP:=Lib.hid (show ∀ w',WorkP w' wb (Trie.put t (Nib.of (97 :: 58 :: n)) (Ex.writA (a,q))) 0 → w.grownBy w' (some wb) → P (.returned (.tuple #[])) w' from HP.out)
 clear h hn hT
 have HWr:=Lib.hid (fun W=>exec_written n a q (by omega) (by omega) W)
 have hsum : 2 + n.length ≤ 9223372036854775807:=by omega
 have hsum2 : n.length + 2 ≤ 9223372036854775807:=by omega
 have hsum3 : n.length + 1 + 1 ≤ 9223372036854775807:=by omega
 have hnl1 : (9223372036854775807 < 2 + n.length) = False:=by simp; omega
 have hnl2 : (9223372036854775807 < n.length + 2) = False:=by simp; omega
 have hnl3 : (9223372036854775807 < n.length + 1 + 1) = False:=by simp; omega
 generalize Ex.writA (a,q) = wr at *
 go_enter Tryz.func194,Tryz.ntmps194
 go_upto_region 1 with fail
 have F0:=Live.ha (Lib.hid (Live.start w)) #[.string ⟨n.toArray⟩,.int .i64 (a : Int),.int .i64 (q : Int)] 62
 have HLt:=Lib.hid HW.out.lt
 have HNe : Hid (wb < w.heap.size):=Lib.hid HLt.out
 generalize w.alloc (.cells #[.string ⟨n.toArray⟩,.int .i64 (a : Int),.int .i64 (q : Int)] 62) = W0 at F0 ⊢
 obtain ⟨ab,hab⟩ : ∃ ab,w.heap.size = ab:=⟨_,rfl⟩
 rw [hab] at F0 ⊢
 have HAb:=Lib.hid hab
 clear hab
 have d0 : W0.cell? ⟨ab,0,none⟩ = some (.string ⟨n.toArray⟩) ∧ W0.cell? ⟨ab,1,none⟩ = some (.int .i64 (a : Int)) ∧ W0.cell? ⟨ab,2,none⟩ = some (.int .i64 (q : Int)):=⟨F0.out.cell 0 0 rfl rfl,F0.out.cell 0 1 rfl rfl,F0.out.cell 0 2 rfl rfl⟩
 go_region_held3 (fun w'=>w'.cell? ⟨ab,0,none⟩ = some (.string ⟨n.toArray⟩) ∧ w'.cell? ⟨ab,1,none⟩ = some (.int .i64 (a : Int)) ∧ w'.cell? ⟨ab,2,none⟩ = some (.int .i64 (q : Int))) (first | go_keep | assumption) (first | (go_at_call 153; refine (HWr.out _).mono ?_; rintro e w2 ⟨rfl,hb⟩; have hb2 : Below W0.heap.size W0 w2:=(by first | exact hb | exact hb.start); clear hb; have F2:=Live.hb F0 hb2; have d1 : w2.cell? ⟨ab,0,none⟩ = some (.string ⟨n.toArray⟩) ∧ w2.cell? ⟨ab,1,none⟩ = some (.int .i64 (a : Int)) ∧ w2.cell? ⟨ab,2,none⟩ = some (.int .i64 (q : Int)):=⟨F2.out.cell 0 0 rfl rfl,F2.out.cell 0 1 rfl rfl,F2.out.cell 0 2 rfl rfl⟩) | (go_at_call 192; refine ((HPt.out _ (by first | exact F2.out.b | exact F2.out.b.drew))).mono ?_; rintro e w3 ⟨rfl,hk3,hg3⟩; have hg : w2.grownBy w3 (some wb):=⟨hg3.os,hg3.tape,hg3.output,hg3.size,hg3.block⟩; have F3:=Lib.hid (F2.out.grownAt hg HNe.out); have K3:=Lib.hid hk3; clear hg3 hk3; have d2 : w3.cell? ⟨ab,0,none⟩ = some (.string ⟨n.toArray⟩) ∧ w3.cell? ⟨ab,1,none⟩ = some (.int .i64 (a : Int)) ∧ w3.cell? ⟨ab,2,none⟩ = some (.int .i64 (q : Int)):=⟨F3.out.1.cell 0,F3.out.1.cell 1,F3.out.1.cell 2⟩))
 go_wp2_with fail
 go_end0
 exact HP.out _ K3.out F3.out.2
theorem work_save_no (w : World) (wb : Nat) (t : Trie.T) (c : Nat) (h : WorkP w wb t c) (hc : c ≠ 0) (n : List UInt8) (hl : n.length ≤ 6) (a q : Nat) (ha : a ≤ 2000000000000) (hq : q ≤ 2000000000000) :
  Calls Tryz.prog 194 #[.pointer (some ⟨wb,0,none⟩),.agg #[.string ⟨n.toArray⟩,.int .i64 (a : Int),.int .i64 (q : Int)]] w (WkEnd w wb t c):=by
 have HW:=Lib.hid h
 have HP : Hid (∀ w',WorkP w' wb t c → w.grownBy w' (some wb) → WkEnd w wb t c (.returned (.tuple #[])) w'):=Lib.hid (fun w' h1 h2=>⟨rfl,h1,h2⟩)
 generalize WkEnd w wb t c = P at HP ⊢
 have HPt:=Lib.hid (fun W (hW : Below w.heap.size w W)=>work_put_no W wb t c (h.next hW) hc (.string ⟨(97 :: 58 :: n).toArray⟩) (.string ⟨(Ex.writA (a,q)).toArray⟩))
 clear h hc
 have HWr:=Lib.hid (fun W=>exec_written n a q (by omega) (by omega) W)
 have hsum : 2 + n.length ≤ 9223372036854775807:=by omega
 have hsum2 : n.length + 2 ≤ 9223372036854775807:=by omega
 have hsum3 : n.length + 1 + 1 ≤ 9223372036854775807:=by omega
 have hnl1 : (9223372036854775807 < 2 + n.length) = False:=by simp; omega
 have hnl2 : (9223372036854775807 < n.length + 2) = False:=by simp; omega
 have hnl3 : (9223372036854775807 < n.length + 1 + 1) = False:=by simp; omega
 generalize Ex.writA (a,q) = wr at *
 go_enter Tryz.func194,Tryz.ntmps194
 go_upto_region 1 with fail
 have F0:=Live.ha (Lib.hid (Live.start w)) #[.string ⟨n.toArray⟩,.int .i64 (a : Int),.int .i64 (q : Int)] 62
 have HLt:=Lib.hid HW.out.lt
 have HNe : Hid (wb < w.heap.size):=Lib.hid HLt.out
 generalize w.alloc (.cells #[.string ⟨n.toArray⟩,.int .i64 (a : Int),.int .i64 (q : Int)] 62) = W0 at F0 ⊢
 obtain ⟨ab,hab⟩ : ∃ ab,w.heap.size = ab:=⟨_,rfl⟩
 rw [hab] at F0 ⊢
 have HAb:=Lib.hid hab
 clear hab
 have d0 : W0.cell? ⟨ab,0,none⟩ = some (.string ⟨n.toArray⟩) ∧ W0.cell? ⟨ab,1,none⟩ = some (.int .i64 (a : Int)) ∧ W0.cell? ⟨ab,2,none⟩ = some (.int .i64 (q : Int)):=⟨F0.out.cell 0 0 rfl rfl,F0.out.cell 0 1 rfl rfl,F0.out.cell 0 2 rfl rfl⟩
 go_region_held3 (fun w'=>w'.cell? ⟨ab,0,none⟩ = some (.string ⟨n.toArray⟩) ∧ w'.cell? ⟨ab,1,none⟩ = some (.int .i64 (a : Int)) ∧ w'.cell? ⟨ab,2,none⟩ = some (.int .i64 (q : Int))) (first | go_keep | assumption) (first | (go_at_call 153; refine (HWr.out _).mono ?_; rintro e w2 ⟨rfl,hb⟩; have hb2 : Below W0.heap.size W0 w2:=(by first | exact hb | exact hb.start); clear hb; have F2:=Live.hb F0 hb2; have d1 : w2.cell? ⟨ab,0,none⟩ = some (.string ⟨n.toArray⟩) ∧ w2.cell? ⟨ab,1,none⟩ = some (.int .i64 (a : Int)) ∧ w2.cell? ⟨ab,2,none⟩ = some (.int .i64 (q : Int)):=⟨F2.out.cell 0 0 rfl rfl,F2.out.cell 0 1 rfl rfl,F2.out.cell 0 2 rfl rfl⟩) | (go_at_call 192; refine ((HPt.out _ (by first | exact F2.out.b | exact F2.out.b.drew))).mono ?_; rintro e w3 ⟨rfl,hk3,hg3⟩; have hg : w2.grownBy w3 (some wb):=⟨hg3.os,hg3.tape,hg3.output,hg3.size,hg3.block⟩; have F3:=Lib.hid (F2.out.grownAt hg HNe.out); have K3:=Lib.hid hk3; clear hg3 hk3; have d2 : w3.cell? ⟨ab,0,none⟩ = some (.string ⟨n.toArray⟩) ∧ w3.cell? ⟨ab,1,none⟩ = some (.int .i64 (a : Int)) ∧ w3.cell? ⟨ab,2,none⟩ = some (.int .i64 (q : Int)):=⟨F3.out.1.cell 0,F3.out.1.cell 1,F3.out.1.cell 2⟩))
 go_wp2_with fail
 go_end0
 exact HP.out _ K3.out F3.out.2
end Go.Proofs.YtnelhjfjkkdoaaaGreatDoor
