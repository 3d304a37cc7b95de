import Derived.Test.YtnelhjfjkkdoaaaGreatDoorJ04
set_option linter.unusedSimpArgs false
set_option linter.unusedVariables false
set_option maxHeartbeats 4000000
set_option maxRecDepth 100000
namespace Go.Proofs.YtnelhjfjkkdoaaaGreatDoor
section
open Go.RowKit Go.Instr
attribute [local go_sem] ByteArray.mk_append_mk
theorem beB_len:∀ (j n:Nat),n<256 ^ j→(beB n).length≤j
 |0,n,h=>by
  have:n=0:=by simpa using h
  subst this;rw [beB_zero]; simp
 |j+1,n,h=>by
  rcases Nat.eq_zero_or_pos n with h0|h0
  ·subst h0; rw [beB_zero]; simp
  ·rw [beB_pos h0,List.length_append,List.length_cons,List.length_nil]
   have:=beB_len j (n / 256) (by rw [Nat.pow_succ] at h; exact Nat.div_lt_of_lt_mul (by rw [Nat.mul_comm]; exact h))
   omega
theorem numW_len (n:Nat) (hn:n<9223372036854775808):(numW n).length≤9:=by
 have:=beB_len 8 n (by omega)
 unfold numW;rw [List.length_cons];omega
def textW (s:List UInt8):List UInt8:=numW s.length++s
theorem code_Text (s:List UInt8) (hs:s.length≤9223372036854775000) (w:World):
  Calls Tryz.prog 124 #[s] w fun e w'=>e= .returned (.string ⟨(textW s).toArray⟩)∧Below w.heap.size w w':=by
 have HP:Hid (∀ w',Below w.heap.size w w'→(fun e w'=>e=Ending.returned (.string ⟨(textW s).toArray⟩)∧Below w.heap.size w w') (Ending.returned (.string ⟨(numW s.length++s).toArray⟩)) w'):=ι (fun w' hb=>⟨rfl,hb⟩);generalize (fun e w'=>e=Ending.returned (.string ⟨(textW s).toArray⟩)∧Below w.heap.size w w')=P at HP ⊢;go_enter Tryz.func124,Tryz.ntmps124
 go_wp2_with fail
 refine (code_num s.length (by omega) _).mono ?_;rintro e w1 ⟨rfl,hb⟩;have hl:=numW_len s.length (by omega);generalize numW s.length=N at *;have hsum:N.length+s.length≤9223372036854775807:=by omega
 go_wp2
 exact HP.out _ hb
theorem code_Num (n:Nat) (hn:n<9223372036854775808) (w:World):
  Calls Tryz.prog 123 #[n] w fun e w'=>e= .returned (.tuple #[.string ⟨(numW n).toArray⟩,ζ])∧Below w.heap.size w w':=by
 have HP:Hid (∀ w',Below w.heap.size w w'→(fun e w'=>e=Ending.returned (.tuple #[.string ⟨(numW n).toArray⟩,ζ])∧Below w.heap.size w w') (Ending.returned (.tuple #[.string ⟨(numW n).toArray⟩,ζ])) w'):=ι (fun w' hb=>⟨rfl,hb⟩);generalize (fun e w'=>e=Ending.returned (.tuple #[.string ⟨(numW n).toArray⟩,ζ])∧Below w.heap.size w w')=P at HP ⊢;have h0:((n:Int)<0)=False:=by simp
 go_enter Tryz.func123,Tryz.ntmps123
 go_wp2_with fail
 refine (code_num n hn _).mono ?_;rintro e w1 ⟨rfl,hb⟩;go_wp2
 exact HP.out _ hb
end
namespace Pw
abbrev Mem:=List UInt8 × Int
def risM:List UInt8→List Mem→Bool
 |_,[]=>true
 |last,m::r=>decide (m.1.length≤6) && Op.bytesLess last m.1 && decide (1≤m.2) && decide (m.2≤1000) && risM m.1 r
def okM (l:List Mem):Bool:=decide (1≤l.length) && decide (l.length≤7) && risM [] l
def memB (m:Mem):List UInt8:=textW m.1++numW m.2.toNat
def encM (l:List Mem):List UInt8:=numW l.length++(l.map memB).flatten
def digM (l:List Mem):List UInt8:=if okM l then shaW (4::encM l) else []
theorem risM_all:∀ (l:List Mem) (last:List UInt8),risM last l=true→∀ m∈l,m.1.length≤6∧m.1≠ []∧1≤m.2∧m.2≤1000
 | [],_,_=>by simp
 |m::r,last,h=>by
  simp only [risM,Bool.and_eq_true,decide_eq_true_eq] at h;intro x hx;rcases List.mem_cons.1 hx with rfl|hx
  ·refine ⟨h.1.1.1.1,?_,h.1.1.2,h.1.2⟩;intro e
   have:=h.1.1.1.2
   rw [e] at this;cases last<;>simp [Op.bytesLess] at this
  ·exact risM_all r m.1 h.2 x hx
theorem okM_len {l:List Mem} (h:okM l=true):1≤l.length∧l.length≤7:=by
 simp only [okM,Bool.and_eq_true,decide_eq_true_eq] at h;exact h.1
theorem okM_all {l:List Mem} (h:okM l=true):∀ m∈l,m.1.length≤6∧m.1≠ []∧1≤m.2∧m.2≤1000:=by
 simp only [okM,Bool.and_eq_true,decide_eq_true_eq] at h;exact risM_all l [] h.2
theorem memB_len {m:Mem} (h:m.1.length≤6) (h1:1≤m.2) (h2:m.2≤1000):(memB m).length≤24:=by
 unfold memB textW;have a:=numW_len m.1.length (by omega);have b:=numW_len m.2.toNat (by omega);simp only [List.length_append];omega
theorem flat_len:∀ (l:List Mem),(∀ m∈l,(memB m).length≤24)→(l.map memB).flatten.length≤24*l.length
 | [],_=>by simp
 |m::r,h=>by
  have h1:=h m (List.mem_cons_self ..);have h2:=flat_len r (fun x hx=>h x (List.mem_cons_of_mem _ hx));simp only [List.map_cons,List.flatten_cons,List.length_append,List.length_cons];omega
theorem encM_len {l:List Mem} (h:okM l=true):(encM l).length≤200:=by
 unfold encM;have hl:=okM_len h;have a:=numW_len l.length (by omega);have b:=flat_len l (fun m hm=>by
  obtain ⟨h1,_,h3,h4⟩:=okM_all h m hm;exact memB_len h1 h3 h4)
 rw [List.length_append];omega
theorem digM_len {l:List Mem} (h:okM l=true):(digM l).length=32:=by
 unfold digM;rw [if_pos h,shaW_length]
end Pw
theorem snoc_ind {P:List UInt8→Prop} (h0:P []) (h1:∀ c x,P c→P (c++ [x])) (l:List UInt8):P l:=by
 have:∀ m:List UInt8,P m.reverse:=by
  intro m
  induction m with
  |nil=>exact h0
  |cons x m ih=>rw [List.reverse_cons]; exact h1 _ _ ih
 have h:=this l.reverse
 rwa [List.reverse_reverse] at h
theorem snoc_cases (l:List UInt8):l= []∨∃ c x,l=c++ [x]:=by
 induction l using snoc_ind with
 |h0=>exact .inl rfl
 |h1 c x _=>exact .inr ⟨c,x,rfl⟩
def valBE (b:List UInt8):Nat:=b.foldl (fun n x=>n*256+x.toNat) 0
theorem valBE_snoc (b:List UInt8) (x:UInt8):valBE (b++ [x])=valBE b*256+x.toNat:=by simp [valBE]
theorem valBE_lt (b:List UInt8):valBE b<256 ^ b.length:=by
 induction b using snoc_ind with
 |h0=>simp [valBE]
 |h1 c x this=>
  have hx:=x.toNat_lt;rw [valBE_snoc,List.length_append,List.length_singleton,Nat.pow_succ];omega
theorem valBE_beB (n:Nat):valBE (beB n)=n:=by
 rcases Nat.eq_zero_or_pos n with h|h
 ·subst h; rw [beB_zero]; rfl
 ·rw [beB_pos h,valBE_snoc,valBE_beB (n / 256)];simp
  omega
termination_by n
decreasing_by omega
theorem beB_head (n:Nat):∀ x r,beB n=x::r→x≠0:=by
 intro x r e;rcases Nat.eq_zero_or_pos n with h|h
 ·subst h; rw [beB_zero] at e; cases e
 ·rw [beB_pos h] at e;cases hb:beB (n / 256) with
  |nil=>
   rw [hb] at e;simp at e
   have hz:n / 256=0:=by have:=valBE_beB (n / 256); rw [hb] at this; simp [valBE] at this; omega
   intro e0;rw [←e.1] at e0
   have:=congrArg UInt8.toNat e0
   simp at this
   omega
  |cons y t=>
   rw [hb] at e;simp at e
   rw [←e.1];exact beB_head (n / 256) y t hb
termination_by n
decreasing_by omega
theorem beB_valBE (b:List UInt8):(∀ x r,b=x::r→x≠0)→beB (valBE b)=b:=by
 induction b using snoc_ind with
 |h0=>intro _; exact beB_zero
 |h1 c x ih0=>
  intro h;have hx:=x.toNat_lt;rw [valBE_snoc];cases c with
  |nil=>
   have hx0:x≠0:=h x [] rfl;have hp:0<x.toNat:=by
    rcases Nat.eq_zero_or_pos x.toNat with h0|h0
    ·exact absurd (UInt8.toNat_inj.1 h0) hx0
    ·exact h0
   rw [show valBE []*256+x.toNat=x.toNat by simp [valBE],beB_pos hp,show x.toNat / 256=0 by omega,beB_zero];simp
  |cons y t=>
   have hy:y≠0:=h y (t++ [x]) rfl;have ih:=ih0 (fun a r e=>by injection e with e _; rw [←e]; exact hy);have hv:0<valBE (y::t):=by
    rcases Nat.eq_zero_or_pos (valBE (y::t)) with h0|h0
    ·rw [h0,beB_zero] at ih; cases ih
    ·exact h0
   rw [beB_pos (by omega),show (valBE (y::t)*256+x.toNat) / 256=valBE (y::t) by omega,ih]
   congr 1
   congr 1
   apply UInt8.toNat_inj.1
   simp
def numT:List UInt8→Nat × List UInt8 × Nat
 | []=>(0,[],20)
 |k::r=>if 8<k.toNat then (0,[],3) else if r.length<k.toNat then (0,[],20)
  else if (0<k.toNat∧r.getD 0 0=0)∨(k.toNat=8∧128≤(r.getD 0 0).toNat) then (0,[],3)
  else (valBE (r.take k.toNat),r.drop k.toNat,0)
theorem numT_cons (k:UInt8) (r:List UInt8):numT (k::r)=if 8<k.toNat then (0,[],3) else if r.length<k.toNat then (0,[],20)
  else if (0<k.toNat∧r.getD 0 0=0)∨(k.toNat=8∧128≤(r.getD 0 0).toNat) then (0,[],3)
  else (valBE (r.take k.toNat),r.drop k.toNat,0):=rfl
theorem valBE_cons_lt (x:UInt8) (b:List UInt8) (hx:x.toNat<128) (hb:b.length≤7):valBE (x::b)<9223372036854775808:=by
 have key:∀ (b:List UInt8),valBE (x::b)<(x.toNat+1)*256 ^ b.length:=by
  intro b
  induction h:b.length generalizing b with
  |zero=>
   have:b= []:=List.eq_nil_of_length_eq_zero h
   subst this;simp [valBE]
  |succ n ih=>
   rcases snoc_cases b with rfl|⟨c,y,rfl⟩
   ·simp at h
   ·have hc:c.length=n:=by simp at h; exact h
    have:=ih c hc
    have hy:=y.toNat_lt;rw [show x::(c++ [y])=(x::c)++ [y] from rfl,valBE_snoc,Nat.pow_succ,←Nat.mul_assoc];omega
 have h1:=key b;have h2:(256:Nat) ^ b.length≤256 ^ 7:=Nat.pow_le_pow_right (by omega) hb;have h3:(x.toNat+1)*256 ^ b.length≤128*256 ^ 7:=Nat.mul_le_mul (by omega) h2;have h4:(128:Nat)*256 ^ 7=9223372036854775808:=by decide
 omega
theorem numT_lt {s r:List UInt8} {n:Nat} (h:numT s=(n,r,0)):n<9223372036854775808:=by
 cases s with
 |nil=>simp [numT] at h
 |cons k t=>
  rw [numT_cons] at h
  split at h
  ·simp at h
  split at h
  ·simp at h
  split at h
  ·simp at h
  rename_i h1 h2 h3;simp only [Prod.mk.injEq] at h;rw [←h.1];have hl:(t.take k.toNat).length=k.toNat:=by rw [List.length_take]; omega
  by_cases h8:k.toNat=8
  ·cases t with
   |nil=>simp at h2; omega
   |cons x u=>
    rw [h8,show (x::u).take 8=x::u.take 7 from rfl];refine valBE_cons_lt x _ ?_ (by rw [List.length_take]; omega);simp at h3
    exact h3.2 h8
  ·have h4:=valBE_lt (t.take k.toNat);rw [hl] at h4
   have:(256:Nat) ^ k.toNat≤256 ^ 7:=Nat.pow_le_pow_right (by omega) (by omega)
   have h5:(256:Nat) ^ 7=72057594037927936:=by decide
   omega
theorem numT_back {s r:List UInt8} {n:Nat} (h:numT s=(n,r,0)):s=numW n++r:=by
 cases s with
 |nil=>simp [numT] at h
 |cons k t=>
  rw [numT_cons] at h
  split at h
  ·simp at h
  split at h
  ·simp at h
  split at h
  ·simp at h
  rename_i h1 h2 h3;simp only [Prod.mk.injEq] at h;obtain ⟨e1,e2,_⟩:=h;have hl:(t.take k.toNat).length=k.toNat:=by rw [List.length_take]; omega
  have hb:beB n=t.take k.toNat:=by
   rw [←e1];refine beB_valBE _ fun x u e=> ?_;have hk:0<k.toNat:=by rw [←hl,e]; simp
   intro hx;apply h3
   left
   refine ⟨hk,?_⟩;cases t with
   |nil=>simp at e
   |cons y v=>
    rw [show k.toNat=(k.toNat - 1)+1 by omega,List.take_succ_cons] at e;injection e with e _
    rw [List.getD_cons_zero,e,hx]
  rw [numW,hb,hl,←e2];simp
theorem numT_of (n:Nat) (hn:n<9223372036854775808) (r:List UInt8):numT (numW n++r)=(n,r,0):=by
 have hl:=beB_len 8 n (by omega);have hk:(UInt8.ofNat (beB n).length).toNat=(beB n).length:=by simp; omega
 rw [show numW n++r=UInt8.ofNat (beB n).length::(beB n++r) from rfl];rw [numT_cons,hk,if_neg (by omega),if_neg (by simp)];have hh:¬((0<(beB n).length∧(beB n++r).getD 0 0=0)∨((beB n).length=8∧128≤((beB n++r).getD 0 0).toNat)):=by
  cases hb:beB n with
  |nil=>simp
  |cons x t=>
   have hx:=beB_head n x t hb;simp only [List.cons_append,List.getD_cons_zero];rintro (⟨_,h⟩|⟨h8,h⟩)
   ·exact hx h
   ·have hv:=valBE_beB n;rw [hb] at hv;have hlow:∀ c:List UInt8,x.toNat*256 ^ c.length≤valBE (x::c):=by
     intro c
     induction hc:c.length generalizing c with
     |zero=>
      have:c= []:=List.eq_nil_of_length_eq_zero hc
      subst this;simp [valBE]
     |succ m ih=>
      rcases snoc_cases c with rfl|⟨d,y,rfl⟩
      ·simp at hc
      ·have hd:d.length=m:=by simp at hc; exact hc
       have:=ih d hd
       rw [show x::(d++ [y])=(x::d)++ [y] from rfl,valBE_snoc,Nat.pow_succ,←Nat.mul_assoc];omega
    have h7:t.length=7:=by simp at h8; exact h8
    have h1:=hlow t;rw [hv,h7] at h1;have h2:128*256 ^ 7≤x.toNat*256 ^ 7:=Nat.mul_le_mul_right _ h;have h4:(128:Nat)*256 ^ 7=9223372036854775808:=by decide
    omega
 rw [if_neg hh];simp [valBE_beB]
def txtT (s:List UInt8) (most:Nat):List UInt8 × List UInt8 × Nat:=
 if (numT s).2.2≠0 then ([],[],(numT s).2.2)
 else if most<(numT s).1 then ([],[],2) else if (numT s).2.1.length<(numT s).1 then ([],[],20)
 else ((numT s).2.1.take (numT s).1,(numT s).2.1.drop (numT s).1,0)
theorem txtT_back {s t r:List UInt8} {m:Nat} (h:txtT s m=(t,r,0)):s=textW t++r∧t.length≤m:=by
 unfold txtT at h
 split at h
 ·simp at h; exact absurd h.2.2 (by assumption)
 split at h
 ·simp at h
 split at h
 ·simp at h
 rename_i h1 h2 h3;simp only [Prod.mk.injEq] at h;obtain ⟨e1,e2,_⟩:=h;have hb:=numT_back (s:=s) (n:=(numT s).1) (r:=(numT s).2.1) (by
  have:(numT s).2.2=0:=by omega
  rw [←this])
 have hl:t.length=(numT s).1:=by rw [←e1,List.length_take]; omega
 refine ⟨?_,by omega⟩;rw [textW,hl]
 conv=>lhs; rw [hb]
 rw [←e1,←e2,List.append_assoc,List.take_append_drop]
theorem txtT_of (t r:List UInt8) (m:Nat) (hm:t.length≤m) (hl:t.length<9223372036854775808):txtT (textW t++r) m=(t,r,0):=by
 unfold txtT textW;rw [List.append_assoc,numT_of _ hl];simp only
 rw [if_neg (by simp),if_neg (by omega),if_neg (by simp)];simp
structure Hd where
 hgt:Int
 epo:Int
 vw:Int
 last:Bool
 par:List UInt8
 st:List UInt8
 rc:List UInt8
 tx:List UInt8
 mem:List UInt8
 nxt:List UInt8
 sk:List (List UInt8)
namespace Hd
def linksH (h:Int):List Nat:=if 1≤h∧h≤1048576 then Skip.links h.toNat else []
def sumB (s:List UInt8):Bool:=decide (s.length=32)
def maybeB (s:List UInt8):Bool:=s.isEmpty||sumB s
def inB (n:Int):Bool:=decide (0≤n) && decide (n≤1048576)
def numsB (h:Hd):Bool:=inB h.hgt && inB h.epo && inB h.vw
def firstB (h:Hd):Bool:=if 0<h.hgt then sumB h.par else h.par.isEmpty && decide (h.epo=0) && decide (h.vw=0) && h.last
def skB (h:Hd):Bool:=decide (h.sk.length=(linksH h.hgt).length) && h.sk.all sumB
def restB (h:Hd):Bool:=sumB h.tx && sumB h.mem && sumB h.nxt && maybeB h.st && maybeB h.rc
def ok (h:Hd):Bool:=numsB h && firstB h && (skB h && restB h) && (h.last||decide (h.nxt=h.mem))
def flagW (b:Bool):List UInt8:= [if b then 1 else 0]
def enc (h:Hd):List UInt8:=
 numW h.hgt.toNat++numW h.epo.toNat++numW h.vw.toNat++flagW h.last++textW h.par++textW h.st++textW h.rc++h.tx++h.mem++h.nxt++h.sk.flatten
def dig (h:Hd):List UInt8:=if ok h then shaW (2::enc h) else []
theorem sumB_iff {s:List UInt8}:sumB s=true↔s.length=32:=by simp [sumB]
structure Ok (h:Hd):Prop where
 h0:0≤h.hgt
 h1:h.hgt≤1048576
 e0:0≤h.epo
 e1:h.epo≤1048576
 v0:0≤h.vw
 v1:h.vw≤1048576
 par:(0<h.hgt→h.par.length=32)∧(h.hgt=0→h.par= []∧h.epo=0∧h.vw=0∧h.last=true)
 sk:h.sk.length=(linksH h.hgt).length
 skl:∀ s∈h.sk,s.length=32
 tx:h.tx.length=32
 mem:h.mem.length=32
 nxt:h.nxt.length=32
 st:h.st= []∨h.st.length=32
 rc:h.rc= []∨h.rc.length=32
 on:h.last=false→h.nxt=h.mem
theorem ok_iff (h:Hd):ok h=true↔Ok h:=by
 unfold ok numsB inB firstB skB restB maybeB;simp only [Bool.and_eq_true,Bool.or_eq_true,decide_eq_true_eq,sumB_iff,List.all_eq_true,List.isEmpty_iff]
 constructor
 ·rintro ⟨⟨⟨⟨⟨⟨a1,a2⟩,b1,b2⟩,c1,c2⟩,hf⟩,⟨s1,s2⟩,⟨⟨⟨t1,t2⟩,t3⟩,t4⟩,t5⟩,hl⟩;refine ⟨a1,a2,b1,b2,c1,c2,?_,s1,s2,t1,t2,t3,t4,t5,fun e=> ?_⟩
  ·by_cases h0:0<h.hgt
   ·rw [if_pos h0] at hf;exact ⟨fun _=>sumB_iff.1 hf,fun e=>by omega⟩
   ·rw [if_neg h0] at hf;simp only [Bool.and_eq_true,decide_eq_true_eq,List.isEmpty_iff] at hf;exact ⟨fun e=>absurd e h0,fun _=>⟨hf.1.1.1,hf.1.1.2,hf.1.2,hf.2⟩⟩
  ·rcases hl with hl|hl
   ·rw [hl] at e; cases e
   ·exact hl
 ·rintro ⟨a1,a2,b1,b2,c1,c2,hp,s1,s2,t1,t2,t3,t4,t5,hl⟩;refine ⟨⟨⟨⟨⟨⟨a1,a2⟩,b1,b2⟩,c1,c2⟩,?_⟩,⟨s1,s2⟩,⟨⟨⟨t1,t2⟩,t3⟩,t4⟩,t5⟩,?_⟩
  ·by_cases h0:0<h.hgt
   ·rw [if_pos h0];exact sumB_iff.2 (hp.1 h0)
   ·rw [if_neg h0];obtain ⟨q1,q2,q3,q4⟩:=hp.2 (by omega);simp [q1,q2,q3,q4]
  ·cases e:h.last with
   |true=>exact .inl rfl
   |false=>exact .inr (hl e)
theorem linksH_len (h:Int):(linksH h).length≤22:=by
 unfold linksH
 split
 ·exact Skip.linksF_len _ _ _
 ·simp
theorem flat32_len:∀ (l:List (List UInt8)),(∀ s∈l,s.length=32)→l.flatten.length=32*l.length
 | [],_=>rfl
 |x::l,h=>by
  have ih:=flat32_len l fun s hs=>h s (by simp [hs])
  have:=h x (by simp)
  simp only [List.flatten_cons,List.length_append,List.length_cons,ih];omega
theorem maybe_le {s:List UInt8} (h:s= []∨s.length=32):s.length≤32:=by
 rcases h with rfl|h
 ·simp
 ·omega
theorem Ok.par_le {h:Hd} (o:Ok h):h.par.length≤32:=by
 by_cases h0:0<h.hgt
 ·have:=o.par.1 h0; omega
 ·have:=(o.par.2 (by have:=o.h0; omega)).1; rw [this]; simp
theorem Ok.sk_le {h:Hd} (o:Ok h):h.sk.length≤22:=by rw [o.sk]; exact linksH_len _
theorem textW_len {s:List UInt8} (h:s.length≤32):(textW s).length≤41:=by
 have:=numW_len s.length (by omega)
 simp only [textW,List.length_append];omega
theorem Ok.enc_len {h:Hd} (o:Ok h):(enc h).length≤1000:=by
 have a:=numW_len h.hgt.toNat (by have:=o.h1; omega);have b:=numW_len h.epo.toNat (by have:=o.e1; omega);have c:=numW_len h.vw.toNat (by have:=o.v1; omega);have d:=textW_len o.par_le;have e:=textW_len (maybe_le o.st);have f:=textW_len (maybe_le o.rc);have g:=flat32_len h.sk o.skl;have k:=o.sk_le
 have:=o.tx
 have:=o.mem
 have:=o.nxt
 simp only [enc,flagW,List.length_append,List.length_cons,List.length_nil];omega
theorem dig_len {h:Hd} (o:ok h=true):(dig h).length=32:=by
 unfold dig;rw [if_pos o];rw [shaW_length]
end Hd
section
open Go.RowKit Go.Instr
attribute [local go_sem] ba_get ByteArray.mk_append_mk
theorem extract_drop (s:List UInt8) (c:Nat):(ByteArray.mk s.toArray).extract c (ByteArray.mk s.toArray).size=⟨(s.drop c).toArray⟩:=by
 apply ByteArray.ext
 rw [ByteArray.data_extract]
 show s.toArray.extract c s.toArray.size=_;rw [List.extract_toArray];simp [List.take_of_length_le]
theorem extract_take (s:List UInt8) (c:Nat):(ByteArray.mk s.toArray).extract 0 c=⟨(s.take c).toArray⟩:=by
 apply ByteArray.ext
 rw [ByteArray.data_extract]
 show s.toArray.extract 0 c=_;rw [List.extract_toArray];simp
theorem run_drop (s:List UInt8) (c:Nat) (h:c≤s.length) (w:World):(Instr.slice 9 (.string ⟨s.toArray⟩) (some (.int .i64 (c:Int))) none none).run Tryz.prog w= .ok (.string ⟨(s.drop c).toArray⟩) w:=by
 have:=run_slice_string_l (P:=Tryz.prog) (t:=9) (s:=⟨s.toArray⟩) (w:=w) Tryz.underlying9 .i64 (c:Int) (by omega) (by show (c:Int)≤(s.toArray.size:Nat); simp; omega)
 rwa [show ((c:Int)).toNat=c by omega,extract_drop] at this
theorem run_take (s:List UInt8) (c:Nat) (h:c≤s.length) (w:World):(Instr.slice 9 (.string ⟨s.toArray⟩) none (some (.int .i64 (c:Int))) none).run Tryz.prog w= .ok (.string ⟨(s.take c).toArray⟩) w:=by
 have:=run_slice_string_h (P:=Tryz.prog) (t:=9) (s:=⟨s.toArray⟩) (w:=w) Tryz.underlying9 .i64 (c:Int) (by omega) (by show (c:Int)≤(s.toArray.size:Nat); simp; omega)
 rwa [show ((c:Int)).toNat=c by omega,extract_take] at this
theorem run_tail (b:UInt8) (r:List UInt8) (w:World):(Instr.slice 9 (.string ⟨(b::r).toArray⟩) (some (.int .i64 1)) none none).run Tryz.prog w= .ok (.string ⟨r.toArray⟩) w:=run_drop (b::r) 1 (by simp) w
theorem extract_mid (s:List UInt8) (a n:Nat):(ByteArray.mk s.toArray).extract a (a+n)=⟨((s.drop a).take n).toArray⟩:=by
 apply ByteArray.ext
 rw [ByteArray.data_extract]
 show s.toArray.extract a (a+n)=_;rw [List.extract_toArray];simp
def RdB (w:World) (g:Nat) (all:List UInt8) (at_ code:Nat):Prop:=Blk w g 200 #[all,at_,code]
theorem RdB.cells {w:World} {g:Nat} {all:List UInt8} {a c:Nat} (h:RdB w g all a c):w.cell? ⟨g,0,none⟩=some (all:Value)∧w.cell? ⟨g,1,none⟩=some (.int .i64 (a:Int))∧w.cell? ⟨g,2,none⟩=some (.int .i64 (c:Int))∧w.frozen? ⟨g,1,none⟩=false∧w.frozen? ⟨g,2,none⟩=false:=
 ⟨Blk.cell h 0,Blk.cell h 1,Blk.cell h 2,Blk.frozen h 1,Blk.frozen h 2⟩
theorem code_Read (all:List UInt8) (w:World):
  Calls Tryz.prog 79 #[all] w fun e w'=>e= .returned (.pointer (some ⟨w.heap.size,0,none⟩))∧w'=w.alloc (.cells #[all,ζ,ζ] 200):=by
 go_enter Tryz.func79,Tryz.ntmps79
 go_wp2
 go_ret
 exact ⟨rfl,rfl⟩
def RdEnd (w:World) (g:Nat) (all:List UInt8) (v:Value) (at_ code:Nat) (e:Ending) (w':World):Prop:=e= .returned v∧RdB w' g all at_ code∧w.grownBy w' (some g)
theorem code_refused (w:World) (g:Nat) (all:List UInt8) (a c:Nat) (h:RdB w g all a c) (from_ e:Nat):
  Calls Tryz.prog 120 #[.pointer (some ⟨g,0,none⟩),from_,e] w (RdEnd w g all (.tuple #[]) (if c=0 then from_ else a) (if c=0 then e else c)):=by
 obtain ⟨c0,c1,c2,f1,f2⟩:=h.cells;have HH:=ι h;by_cases hc:c=0
 ·subst hc;rw [if_pos rfl,if_pos rfl];have HP:Hid (∀ w',RdB w' g all from_ e→w.grownBy w' (some g)→RdEnd w g all (.tuple #[]) from_ e (.returned (.tuple #[])) w'):=ι (fun w' a b=>⟨rfl,a,b⟩);generalize RdEnd w g all (.tuple #[]) from_ e=P at HP ⊢;clear h;go_enter Tryz.func120,Tryz.ntmps120
  go_wp2
  go_end0
  refine HP.out _ ?_ ?_
  ·exact (Blk.set_ (Blk.set_ HH.out 1 (.int .i64 (from_:Int))) 2 (.int .i64 (e:Int)))
  ·exact grown_set0 (grown_set0 (World.grownBy.refl _ _) _ _) _ _
 ·rw [if_neg hc,if_neg hc];have HP:Hid (∀ w',RdB w' g all a c→w.grownBy w' (some g)→RdEnd w g all (.tuple #[]) a c (.returned (.tuple #[])) w'):=ι (fun w' a b=>⟨rfl,a,b⟩);generalize RdEnd w g all (.tuple #[]) a c=P at HP ⊢;have hc1:((c:Int)==0)=false:=by simp; exact hc
  clear h hc;go_enter Tryz.func120,Tryz.ntmps120
  go_wp2
  go_end0
  exact HP.out _ HH.out (World.grownBy.refl _ _)
theorem code_Left (w:World) (g:Nat) (all:List UInt8) (a c:Nat) (h:RdB w g all a c) (hl:all.length≤1000000) (ha:a≤all.length):
  Calls Tryz.prog 121 #[.pointer (some ⟨g,0,none⟩)] w (RdEnd w g all (.int .i64 ((all.length - a:Nat):Int)) a c):=by
 obtain ⟨c0,c1,c2,f1,f2⟩:=h.cells;have HH:=ι h;have hv:IntKind.i64.wrap ((all.length:Int) - a)=((all.length - a:Nat):Int):=by rw [IntWalk.i64_in _ (by omega)]; omega
 have HP:Hid (∀ w',RdB w' g all a c→w.grownBy w' (some g)→RdEnd w g all (.int .i64 ((all.length - a:Nat):Int)) a c (.returned (.int .i64 ((all.length - a:Nat):Int))) w'):=ι (fun w' a b=>⟨rfl,a,b⟩);generalize RdEnd w g all (.int .i64 ((all.length - a:Nat):Int)) a c=P at HP ⊢;generalize ((all.length - a:Nat):Int)=d at *;clear h;go_enter Tryz.func121,Tryz.ntmps121
 go_wp2
 go_quiet (fail)
 go_wp2
 exact HP.out _ HH.out ⟨rfl,rfl,rfl,Nat.le_refl _,fun _ _ _=>rfl⟩
theorem code_take (w:World) (g:Nat) (all:List UInt8) (a c:Nat) (h:RdB w g all a c) (hl:all.length≤1000000) (ha:a≤all.length) (n:Nat) (hn:n<9223372036854775808):
  Calls Tryz.prog 155 #[.pointer (some ⟨g,0,none⟩),n] w (RdEnd w g all (.tuple #[.string ⟨(if n≤(all.drop a).length then (all.drop a).take n else []).toArray⟩,.bool (decide (n≤(all.drop a).length))]) (if n≤(all.drop a).length then a+n else a) c):=by
 obtain ⟨c0,c1,c2,f1,f2⟩:=h.cells;have HH:=ι h;have hv:IntKind.i64.wrap ((all.length:Int) - a)=(all.length:Int) - a:=IntWalk.i64_in _ (by omega);rw [List.length_drop];by_cases hle:n≤all.length - a
 ·rw [if_pos hle,if_pos hle,decide_eq_true hle];have HP:Hid (∀ w',RdB w' g all (a+n) c→w.grownBy w' (some g)→RdEnd w g all (.tuple #[.string ⟨((all.drop a).take n).toArray⟩,true]) (a+n) c (.returned (.tuple #[.string ⟨((all.drop a).take n).toArray⟩,true])) w'):=ι (fun w' a b=>⟨rfl,a,b⟩);generalize RdEnd w g all (.tuple #[.string ⟨((all.drop a).take n).toArray⟩,true]) (a+n) c=P at HP ⊢;have hgt:((all.length:Int) - a<n)=False:=by simp; omega
  have hv2:IntKind.i64.wrap ((a:Int)+n)=(a:Int)+n:=IntWalk.i64_in _ (by omega);have hr:∀ W,(Instr.slice 9 (.string ⟨all.toArray⟩) (some (.int .i64 (a:Int))) (some (.int .i64 ((a:Int)+n))) none).run Tryz.prog W= .ok (.string ⟨((all.drop a).take n).toArray⟩) W:=fun W=>by
   have:=run_slice_string_if (P:=Tryz.prog) (w:=W) 9 ⟨all.toArray⟩ .i64 .i64 (a:Int) ((a:Int)+n) Tryz.underlying9
   rw [if_pos ⟨by omega,by show (a:Int)+n≤(all.toArray.size:Nat); simp; omega⟩,if_pos ⟨by omega,by omega⟩] at this
   rwa [show ((a:Int)).toNat=a by omega,show ((a:Int)+n).toNat=a+n by omega,extract_mid] at this
  have hs0:(a:Int)+n≤1000000:=by omega
  clear h hle;generalize (all.drop a).take n=piece at *;go_enter Tryz.func155,Tryz.ntmps155
  go_wp2
  go_quiet (fail)
  go_wp2
  go_quiet (fail)
  go_wp2
  exact HP.out _ (Blk.set_ HH.out 1 (.int .i64 ((a:Int)+n))) (grown_set0 (only_drewN (World.grownBy.refl _ _) _) _ _)
 ·rw [if_neg hle,if_neg hle,decide_eq_false hle];have HP:Hid (∀ w',RdB w' g all a c→w.grownBy w' (some g)→RdEnd w g all (.tuple #[.string ⟨[].toArray⟩,false]) a c (.returned (.tuple #[ε,false])) w'):=ι (fun w' a b=>⟨rfl,a,b⟩);generalize RdEnd w g all (.tuple #[.string ⟨[].toArray⟩,false]) a c=P at HP ⊢;have hgt:((all.length:Int) - a<n)=True:=by simp; omega
  clear h hle;go_enter Tryz.func155,Tryz.ntmps155
  go_wp2
  go_quiet (fail)
  go_wp2
  exact HP.out _ HH.out ⟨rfl,rfl,rfl,Nat.le_refl _,fun _ _ _=>rfl⟩
theorem valBE_take (b:List UInt8) (i:Nat) (hi:i<b.length):valBE (b.take (i+1))=valBE (b.take i)*256+(b.getD i 0).toNat:=by
 rw [List.take_succ_eq_append_getElem hi,valBE_snoc,List.getD_eq_getElem?_getD,List.getElem?_eq_getElem hi];rfl
theorem valBE_mono (b:List UInt8):∀ i,valBE (b.take i)≤valBE b:=by
 induction b using snoc_ind with
 |h0=>intro i; simp
 |h1 c x ih=>
  intro i;rw [valBE_snoc];by_cases h:i≤c.length
  ·rw [List.take_append_of_le_length h]
   have:=ih i
   omega
  ·rw [List.take_of_length_le (by simp; omega),valBE_snoc];omega
theorem or_of' {x y:Nat} (k:Nat) (hy:y<2 ^ k):x*2 ^ k|||y=x*2 ^ k+y:=by
 rw [←Nat.shiftLeft_eq,Nat.shiftLeft_add_eq_or_of_lt hy]
theorem i64_or_byte (n:Nat) (b:Nat) (hb:b<256) (h:n*256+b<9223372036854775808):bits .or .i64 ((n:Int)*256) (b:Int)=((n*256+b:Nat):Int):=by
 have e1:(n:Int)*256=((n*256:Nat):Int):=by omega
 have h1:n*256<9223372036854775808:=by omega
 have h2:b<9223372036854775808:=by omega
 have e3:(2:Nat) ^ 8=256:=by decide
 have e2:=or_of' (x:=n) 8 (y:=b) (by rw [e3]; exact hb);rw [e3] at e2;rw [e1,i64_or_nat (n*256) b h1 h2,e2]
theorem run_byte (l : List UInt8) (i : Nat) (hi : i < l.length) (W : World) : (Instr.index 9 (.string ⟨l.toArray⟩) (.int .i64 (i : Int))).run Tryz.prog W = .ok (.int .u8 ((l.getD i 0).toNat : Int)) W := by
  have hsz : ((i : Int)).toNat < (ByteArray.mk l.toArray).size := by simpa [ByteArray.size] using hi
  rw [run_index_string W 9 ⟨l.toArray⟩ .i64 (i : Int) Tryz.underlying9]
  have e : (ByteArray.mk l.toArray)[((i : Int)).toNat]'hsz = l.getD i 0 := by
    rw [ba_get]
    simp [List.getD_eq_getElem?_getD, hi]
  rw [dif_pos ⟨by omega, by have e2 : (ByteArray.mk l.toArray).size = l.length := by simp [ByteArray.size]
                            omega⟩, e]
theorem number_loop (b:List UInt8) (hl:b.length≤8) (hv:valBE b<9223372036854775808) (w0:World)
  (Q:Exit→Act→World→Prop) (p0:Value)
  (hQ:∀ ⦃s1 s2 s3 s4 s5 s6 s8 s9 s0 s7 a0 a2 a3 a4 a5 a6 a7 a8 a9 b0 b1 b2 b3 b4 b5 b6 b7 b8 b9 c0 c1 c2 c3 c4 c5 c6 c7 c8 c9 d0 d1 d2 d3 d4 d5 d6 d7 d8 d9 e0 e1 e2 e3 e4 e5 e6 e7 e8 e9 f0 f1 f2 f3 f4 f5 f6 f7 f8:Value⦄,Q (.exit 0) {tmps:=#[p0,s1,s2,s3,s4,s5,s6,.int .i64 (valBE b:Int),s8,s9,s0,s7,a0,a2,a3,a4,a5,a6,a7,a8,a9,b0,b1,b2,b3,b4,b5,b6,b7,b8,b9,c0,c1,c2,c3,c4,c5,c6,c7,c8,c9,d0,d1,d2,d3,d4,d5,d6,d7,d8,d9,e0,e1,e2,e3,e4,e5,e6,e7,e8,e9,f0,f1,f2,f3,f4,f5,f6,f7,f8],defers:= []} w0)
  (s1 s2 s3 s4 s5 s8 s9 s0 s7 a0 a2 a3 a4 a5 a6 a7 a8 a9 b0 b1 b2 b3 b4 b5 b6 b7 b8 b9 c0 c1 c2 c3 c4 c5 c6 c7 c8 c9 d0 d1 d2 d3 d4 d5 d6 d7 d8 d9 e0 e1 e2 e3 e4 e5 e8 e9 f0 f1 f2 f3 f4 f5 f6 f7 f8:Value):
  Code.wp Tryz.prog (.loop (loopAt Tryz.f119 0)) Q {tmps:=#[p0,s1,s2,s3,s4,s5,.string ⟨b.toArray⟩,.int .i64 0,s8,s9,s0,s7,a0,a2,a3,a4,a5,a6,a7,a8,a9,b0,b1,b2,b3,b4,b5,b6,b7,b8,b9,c0,c1,c2,c3,c4,c5,c6,c7,c8,c9,d0,d1,d2,d3,d4,d5,d6,d7,d8,d9,e0,e1,e2,e3,e4,e5,.int .i64 b.length,.int .i64 0,e8,e9,f0,f1,f2,f3,f4,f5,f6,f7,f8],defers:= []} w0:=by
 have HQ:=ι hQ;clear hQ;refine wp_loop_ghost_k (fun k a wr=>∀ Φ:Act→Prop,(∀ ⦃s1 s2 s3 s4 s5 s8 s9 s0 s7 a0 a2 a3 a4 a5 a6 a7 a8 a9 b0 b1 b2 b3 b4 b5 b6 b7 b8 b9 c0 c1 c2 c3 c4 c5 c6 c7 c8 c9 d0 d1 d2 d3 d4 d5 d6 d7 d8 d9 e0 e1 e2 e3 e4 e5 e8 e9 f0 f1 f2 f3 f4 f5 f6 f7 f8:Value⦄ (i n:Nat),(i+k=b.length∧valBE (b.take i)=n∧wr=w0)→Φ {tmps:=#[p0,s1,s2,s3,s4,s5,.string ⟨b.toArray⟩,.int .i64 (n:Int),s8,s9,s0,s7,a0,a2,a3,a4,a5,a6,a7,a8,a9,b0,b1,b2,b3,b4,b5,b6,b7,b8,b9,c0,c1,c2,c3,c4,c5,c6,c7,c8,c9,d0,d1,d2,d3,d4,d5,d6,d7,d8,d9,e0,e1,e2,e3,e4,e5,.int .i64 b.length,.int .i64 (i:Int),e8,e9,f0,f1,f2,f3,f4,f5,f6,f7,f8],defers:= []})→Φ a) (b.length) ?_ ?_
 ·refine fun Φ hΦ=>hΦ (0) (0) ?_;exact ⟨by omega,by simp [valBE],rfl⟩
 ·intro k1 a1 wr1 hI1 J1 K1 hJ1 hK1;refine hI1 (fun a=>Code.wp _ _ _ a _) ?_;clear hI1 a1;iterate 65 (intro _)
  intro i n hrel
  show Code.wp _ _ _ _ _
  conv=>arg 2; whnf
  obtain ⟨h1,h2,rfl⟩:=hrel;by_cases hi:i<b.length
  ·have h3:=valBE_take b i hi;have h4:=valBE_mono b (i+1);have hx:=(b.getD i 0).toNat_lt;have HN:Hid (valBE (b.take (i+1))=n*256+(b.getD i 0).toNat):=ι (by rw [h3,h2]);have hsum:n*256+(b.getD i 0).toNat<9223372036854775808:=by rw [h2] at h3; omega
   have hor:=i64_or_byte n (b.getD i 0).toNat (by omega) hsum;have hix:=fun W=>run_byte b i hi W;have HI:=ι h1;have hi1:(i:Int)<b.length:=by omega
   have hi0:(0:Int)≤i:=by omega
   have hl8:(b.length:Int)≤8:=by omega
   have hn0:(0:Int)≤n:=by omega
   have hn1:(n:Int)≤36028797018963967:=by omega
   clear h1 h2 h3 h4;generalize b.getD i 0=x at *;go_wp2_with fail
   refine Handed.intro (b.length - (i+1)) ?_ (hJ1 _ _ _ (fun Φ hΦ=>hΦ (i+1) (n*256+x.toNat) ?_))
   ·have:=HI.out
    show b.length - (i+1)<k1;omega
   ·have:=HI.out
    exact ⟨by omega,HN.out,rfl⟩
  ·have e:b.take i=b:=List.take_of_length_le (by omega);rw [e] at h2;subst h2;have hi2:((i:Int)<b.length)=False:=by simp; omega
   clear h1 hi e;go_wp2_with fail
   apply HQ.out
end
end Go.Proofs.YtnelhjfjkkdoaaaGreatDoor