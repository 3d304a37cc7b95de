import Derived.Test.YtnelhjfjkkdoaaaGreatDoorK04
import Derived.BigRegion
set_option linter.unusedSimpArgs false
set_option linter.unusedVariables false
set_option maxHeartbeats 4000000
set_option maxRecDepth 100000
namespace Go.Proofs.YtnelhjfjkkdoaaaGreatDoor
section
open Go.RowKit Go.Instr
attribute [local go_sem] ByteArray.mk_append_mk
theorem zeros8:(bvals (List.replicate 8 0)).toArray=#[.int .u8 0,.int .u8 0,.int .u8 0,.int .u8 0,.int .u8 0,.int .u8 0,.int .u8 0,.int .u8 0]:=rfl
theorem code_num (n:Nat) (hn:n<9223372036854775808) (w:World):
  Calls Tryz.prog 156 #[n] w fun e w'=>e= .returned (.string ⟨(numW n).toArray⟩)∧Below w.heap.size w w':=by
 have h8:=ι zeros8;have HS:Hid (numW n=UInt8.ofNat (beB n).length::beB n):=ι rfl;generalize numW n=S at *;go_enter Tryz.func156,Tryz.ntmps156
 go_wp2
 rw [←h8.out];have F0:Hid (Blk (w.alloc (.cells (bvals (List.replicate 8 0)).toArray 263)) w.heap.size 263 (bvals (List.replicate 8 0)).toArray∧Below w.heap.size w (w.alloc (.cells (bvals (List.replicate 8 0)).toArray 263))):=ι ⟨Blk.new _ _ _,by go_grown⟩;generalize w.alloc (.cells (bvals (List.replicate 8 0)).toArray 263)=W0 at F0 ⊢;refine num_loop n hn W0 w.heap.size F0.out.1 _ ?_ _ _ _ _ _ _ _ _ _ _ _ _ _ _ _ _ _ _ _ _ _;intro s0 s1 s2 s5 s6 s7 s8 s9 s10 s11 s12 s13 s14 s15 s16 s17 s18 s19 s20 s21 s22 s23 k w2 hk hb2 hg2 hs2;have B2:Below w.heap.size w w2:=F0.out.2.grown hg2 F0.out.2.size (by intro j e; injection e with e; omega);generalize beB n=D at *;have hlt:=hb2.lt;have hk8:k≤8:=by omega
 have cv1:=conv1 w2.drew ((8:Int) - k) (by omega) (by omega);have cv1':=conv1 w2 ((8:Int) - k) (by omega) (by omega);rw [show UInt8.ofNat ((8:Int) - k).toNat=UInt8.ofNat D.length by congr 1; omega] at cv1 cv1';have ek:(8:Int) - k=D.length:=by omega
 have cvD:∀ w' A,(A=some (if 8=k then (⟨w.heap.size,0,none⟩:Addr) else ⟨w.heap.size,k,none⟩))→w'.heap[w.heap.size]?=w2.heap[w.heap.size]?→(convert 118 9 (.slice A (8 - k) (8 - k))).run Tryz.prog w'= .ok (.string ⟨D.toArray⟩) w':=by
  intro w' A hA hw';subst hA;have hb3:Blk w' w.heap.size 263 (bvals (List.replicate k 0++D)).toArray:=hw'.trans hb2;refine conv_reads w' w'.heap.size _ (8 - k) (8 - k) D ⟨by rw [bvals_length]; omega,fun h0=> ?_⟩;rw [if_neg (by omega)];refine ⟨_,rfl,hb3.lt,fun j v hv=> ?_⟩;rw [Addr.add_mid,hb3.cell];rw [bvals_append]
  have:(bvals (List.replicate k (0:UInt8))).length=k:=by rw [bvals_length,List.length_replicate]
  simp only [List.getElem?_toArray];rw [List.getElem?_append_right (by omega),this,Nat.add_sub_cancel_left];exact hv
 have K2:=ι (And.intro B2 (And.intro hlt cvD));clear hb2 hg2 hs2 F0 hlt cvD;have kk1:(0:Int)≤8 - k:=by omega
 have kk2:(8:Int) - k<256:=by omega
 have kk3:(k:Int)≤8:=by omega
 have E1:=conv1d w2 ((8:Int) - k) kk1 kk2;rw [show UInt8.ofNat ((8:Int) - k).toNat=UInt8.ofNat D.length by congr 1; omega] at E1;clear cv1 cv1' ek;by_cases hk88:k=8
 ·subst hk88;have hD:D= []:=List.eq_nil_of_length_eq_zero (by omega);subst hD;have z1:IntKind.i64.wrap 0=0:=rfl;have z2:IntKind.u8.wrap 0=0:=rfl;have z3:(8:Int) - (8:Nat)=0:=rfl;have E1':=conv1d w2 0 (by omega) (by omega);have E2:=K2.out.2.2 w2.drew (some ⟨w.heap.size,0,none⟩) (by simp) rfl;have E3:=K2.out.2.2 (w2.alloc (.cells #[.int .u8 0] 5)).drew (some ⟨w.heap.size,0,none⟩) (by simp) (Below.heap_alloc _ _ _ K2.out.2.1);rw [show (8 - 8:Nat)=0 from rfl] at E2 E3;clear E1;go_wp2
  go_region
  rw [show (#[0]:Array UInt8)=S.toArray from congrArg List.toArray HS.out.symm];go_wp2
  go_ret
  refine ⟨rfl,?_⟩;exact (K2.out.1.alloc K2.out.1.size _).drew
 ·have E2:=K2.out.2.2 w2.drew (some ⟨w.heap.size,k,none⟩) (by rw [if_neg (fun e=>hk88 e.symm)]) rfl;have E3:=K2.out.2.2 (w2.alloc (.cells #[.int .u8 ((8:Int) - k)] 5)).drew (some ⟨w.heap.size,k,none⟩) (by rw [if_neg (fun e=>hk88 e.symm)]) (Below.heap_alloc _ _ _ K2.out.2.1);have kk4:(k:Int)<8:=by omega
  have kk5:k<8:=by omega
  go_wp2
  go_region
  rw [←HS.out];go_wp2
  go_ret
  refine ⟨rfl,?_⟩;exact (K2.out.1.alloc K2.out.1.size _).drew
theorem beB_len:∀ (j n:Nat),n<256 ^ j→(beB n).length≤j
 |0,n,h=>by
  have:n=0:=by simpa using h
  subst this;rw [beB_zero]; simp
 |j+1,n,h=>by
  rcases Nat.eq_zero_or_pos n with h0|h0
  ·subst h0; rw [beB_zero]; simp
  ·rw [beB_pos h0,List.length_append,List.length_cons,List.length_nil]
   have:=beB_len j (n / 256) (by rw [Nat.pow_succ] at h; exact Nat.div_lt_of_lt_mul (by rw [Nat.mul_comm]; exact h))
   omega
theorem numW_len (n:Nat) (hn:n<9223372036854775808):(numW n).length≤9:=by
 have:=beB_len 8 n (by omega)
 unfold numW;rw [List.length_cons];omega
def textW (s:List UInt8):List UInt8:=numW s.length++s
theorem code_Text (s:List UInt8) (hs:s.length≤9223372036854775000) (w:World):
  Calls Tryz.prog 124 #[s] w fun e w'=>e= .returned (.string ⟨(textW s).toArray⟩)∧Below w.heap.size w w':=by
 have HP:Hid (∀ w',Below w.heap.size w w'→(fun e w'=>e=Ending.returned (.string ⟨(textW s).toArray⟩)∧Below w.heap.size w w') (Ending.returned (.string ⟨(numW s.length++s).toArray⟩)) w'):=ι (fun w' hb=>⟨rfl,hb⟩);generalize (fun e w'=>e=Ending.returned (.string ⟨(textW s).toArray⟩)∧Below w.heap.size w w')=P at HP ⊢;go_enter Tryz.func124,Tryz.ntmps124
 go_wp2_with fail
 refine (code_num s.length (by omega) _).mono ?_;rintro e w1 ⟨rfl,hb⟩;have hl:=numW_len s.length (by omega);generalize numW s.length=N at *;have hsum:N.length+s.length≤9223372036854775807:=by omega
 go_wp2
 exact HP.out _ hb
end
theorem snoc_ind {P:List UInt8→Prop} (h0:P []) (h1:∀ c x,P c→P (c++ [x])) (l:List UInt8):P l:=by
 have:∀ m:List UInt8,P m.reverse:=by
  intro m
  induction m with
  |nil=>exact h0
  |cons x m ih=>rw [List.reverse_cons]; exact h1 _ _ ih
 have h:=this l.reverse
 rwa [List.reverse_reverse] at h
theorem snoc_cases (l:List UInt8):l= []∨∃ c x,l=c++ [x]:=by
 induction l using snoc_ind with
 |h0=>exact .inl rfl
 |h1 c x _=>exact .inr ⟨c,x,rfl⟩
def valBE (b:List UInt8):Nat:=b.foldl (fun n x=>n*256+x.toNat) 0
theorem valBE_snoc (b:List UInt8) (x:UInt8):valBE (b++ [x])=valBE b*256+x.toNat:=by simp [valBE]
theorem valBE_lt (b:List UInt8):valBE b<256 ^ b.length:=by
 induction b using snoc_ind with
 |h0=>simp [valBE]
 |h1 c x this=>
  have hx:=x.toNat_lt;rw [valBE_snoc,List.length_append,List.length_singleton,Nat.pow_succ];omega
theorem valBE_beB (n:Nat):valBE (beB n)=n:=by
 rcases Nat.eq_zero_or_pos n with h|h
 ·subst h; rw [beB_zero]; rfl
 ·rw [beB_pos h,valBE_snoc,valBE_beB (n / 256)];simp
  omega
termination_by n
decreasing_by omega
theorem beB_head (n:Nat):∀ x r,beB n=x::r→x≠0:=by
 intro x r e;rcases Nat.eq_zero_or_pos n with h|h
 ·subst h; rw [beB_zero] at e; cases e
 ·rw [beB_pos h] at e;cases hb:beB (n / 256) with
  |nil=>
   rw [hb] at e;simp at e
   have hz:n / 256=0:=by have:=valBE_beB (n / 256); rw [hb] at this; simp [valBE] at this; omega
   intro e0;rw [←e.1] at e0
   have:=congrArg UInt8.toNat e0
   simp at this
   omega
  |cons y t=>
   rw [hb] at e;simp at e
   rw [←e.1];exact beB_head (n / 256) y t hb
termination_by n
decreasing_by omega
theorem beB_valBE (b:List UInt8):(∀ x r,b=x::r→x≠0)→beB (valBE b)=b:=by
 induction b using snoc_ind with
 |h0=>intro _; exact beB_zero
 |h1 c x ih0=>
  intro h;have hx:=x.toNat_lt;rw [valBE_snoc];cases c with
  |nil=>
   have hx0:x≠0:=h x [] rfl;have hp:0<x.toNat:=by
    rcases Nat.eq_zero_or_pos x.toNat with h0|h0
    ·exact absurd (UInt8.toNat_inj.1 h0) hx0
    ·exact h0
   rw [show valBE []*256+x.toNat=x.toNat by simp [valBE],beB_pos hp,show x.toNat / 256=0 by omega,beB_zero];simp
  |cons y t=>
   have hy:y≠0:=h y (t++ [x]) rfl;have ih:=ih0 (fun a r e=>by injection e with e _; rw [←e]; exact hy);have hv:0<valBE (y::t):=by
    rcases Nat.eq_zero_or_pos (valBE (y::t)) with h0|h0
    ·rw [h0,beB_zero] at ih; cases ih
    ·exact h0
   rw [beB_pos (by omega),show (valBE (y::t)*256+x.toNat) / 256=valBE (y::t) by omega,ih]
   congr 1
   congr 1
   apply UInt8.toNat_inj.1
   simp
def numT:List UInt8→Nat × List UInt8 × Nat
 | []=>(0,[],20)
 |k::r=>if 8<k.toNat then (0,[],3) else if r.length<k.toNat then (0,[],20)
  else if (0<k.toNat∧r.getD 0 0=0)∨(k.toNat=8∧128≤(r.getD 0 0).toNat) then (0,[],3)
  else (valBE (r.take k.toNat),r.drop k.toNat,0)
theorem numT_cons (k:UInt8) (r:List UInt8):numT (k::r)=if 8<k.toNat then (0,[],3) else if r.length<k.toNat then (0,[],20)
  else if (0<k.toNat∧r.getD 0 0=0)∨(k.toNat=8∧128≤(r.getD 0 0).toNat) then (0,[],3)
  else (valBE (r.take k.toNat),r.drop k.toNat,0):=rfl
theorem valBE_cons_lt (x:UInt8) (b:List UInt8) (hx:x.toNat<128) (hb:b.length≤7):valBE (x::b)<9223372036854775808:=by
 have key:∀ (b:List UInt8),valBE (x::b)<(x.toNat+1)*256 ^ b.length:=by
  intro b
  induction h:b.length generalizing b with
  |zero=>
   have:b= []:=List.eq_nil_of_length_eq_zero h
   subst this;simp [valBE]
  |succ n ih=>
   rcases snoc_cases b with rfl|⟨c,y,rfl⟩
   ·simp at h
   ·have hc:c.length=n:=by simp at h; exact h
    have:=ih c hc
    have hy:=y.toNat_lt;rw [show x::(c++ [y])=(x::c)++ [y] from rfl,valBE_snoc,Nat.pow_succ,←Nat.mul_assoc];omega
 have h1:=key b;have h2:(256:Nat) ^ b.length≤256 ^ 7:=Nat.pow_le_pow_right (by omega) hb;have h3:(x.toNat+1)*256 ^ b.length≤128*256 ^ 7:=Nat.mul_le_mul (by omega) h2;have h4:(128:Nat)*256 ^ 7=9223372036854775808:=by decide
 omega
theorem numT_lt {s r:List UInt8} {n:Nat} (h:numT s=(n,r,0)):n<9223372036854775808:=by
 cases s with
 |nil=>simp [numT] at h
 |cons k t=>
  rw [numT_cons] at h
  split at h
  ·simp at h
  split at h
  ·simp at h
  split at h
  ·simp at h
  rename_i h1 h2 h3;simp only [Prod.mk.injEq] at h;rw [←h.1];have hl:(t.take k.toNat).length=k.toNat:=by rw [List.length_take]; omega
  by_cases h8:k.toNat=8
  ·cases t with
   |nil=>simp at h2; omega
   |cons x u=>
    rw [h8,show (x::u).take 8=x::u.take 7 from rfl];refine valBE_cons_lt x _ ?_ (by rw [List.length_take]; omega);simp at h3
    exact h3.2 h8
  ·have h4:=valBE_lt (t.take k.toNat);rw [hl] at h4
   have:(256:Nat) ^ k.toNat≤256 ^ 7:=Nat.pow_le_pow_right (by omega) (by omega)
   have h5:(256:Nat) ^ 7=72057594037927936:=by decide
   omega
theorem numT_back {s r:List UInt8} {n:Nat} (h:numT s=(n,r,0)):s=numW n++r:=by
 cases s with
 |nil=>simp [numT] at h
 |cons k t=>
  rw [numT_cons] at h
  split at h
  ·simp at h
  split at h
  ·simp at h
  split at h
  ·simp at h
  rename_i h1 h2 h3;simp only [Prod.mk.injEq] at h;obtain ⟨e1,e2,_⟩:=h;have hl:(t.take k.toNat).length=k.toNat:=by rw [List.length_take]; omega
  have hb:beB n=t.take k.toNat:=by
   rw [←e1];refine beB_valBE _ fun x u e=> ?_;have hk:0<k.toNat:=by rw [←hl,e]; simp
   intro hx;apply h3
   left
   refine ⟨hk,?_⟩;cases t with
   |nil=>simp at e
   |cons y v=>
    rw [show k.toNat=(k.toNat - 1)+1 by omega,List.take_succ_cons] at e;injection e with e _
    rw [List.getD_cons_zero,e,hx]
  rw [numW,hb,hl,←e2];simp
theorem numT_of (n:Nat) (hn:n<9223372036854775808) (r:List UInt8):numT (numW n++r)=(n,r,0):=by
 have hl:=beB_len 8 n (by omega);have hk:(UInt8.ofNat (beB n).length).toNat=(beB n).length:=by simp; omega
 rw [show numW n++r=UInt8.ofNat (beB n).length::(beB n++r) from rfl];rw [numT_cons,hk,if_neg (by omega),if_neg (by simp)];have hh:¬((0<(beB n).length∧(beB n++r).getD 0 0=0)∨((beB n).length=8∧128≤((beB n++r).getD 0 0).toNat)):=by
  cases hb:beB n with
  |nil=>simp
  |cons x t=>
   have hx:=beB_head n x t hb;simp only [List.cons_append,List.getD_cons_zero];rintro (⟨_,h⟩|⟨h8,h⟩)
   ·exact hx h
   ·have hv:=valBE_beB n;rw [hb] at hv;have hlow:∀ c:List UInt8,x.toNat*256 ^ c.length≤valBE (x::c):=by
     intro c
     induction hc:c.length generalizing c with
     |zero=>
      have:c= []:=List.eq_nil_of_length_eq_zero hc
      subst this;simp [valBE]
     |succ m ih=>
      rcases snoc_cases c with rfl|⟨d,y,rfl⟩
      ·simp at hc
      ·have hd:d.length=m:=by simp at hc; exact hc
       have:=ih d hd
       rw [show x::(d++ [y])=(x::d)++ [y] from rfl,valBE_snoc,Nat.pow_succ,←Nat.mul_assoc];omega
    have h7:t.length=7:=by simp at h8; exact h8
    have h1:=hlow t;rw [hv,h7] at h1;have h2:128*256 ^ 7≤x.toNat*256 ^ 7:=Nat.mul_le_mul_right _ h;have h4:(128:Nat)*256 ^ 7=9223372036854775808:=by decide
    omega
 rw [if_neg hh];simp [valBE_beB]
def txtT (s:List UInt8) (most:Nat):List UInt8 × List UInt8 × Nat:=
 if (numT s).2.2≠0 then ([],[],(numT s).2.2)
 else if most<(numT s).1 then ([],[],2) else if (numT s).2.1.length<(numT s).1 then ([],[],20)
 else ((numT s).2.1.take (numT s).1,(numT s).2.1.drop (numT s).1,0)
theorem txtT_back {s t r:List UInt8} {m:Nat} (h:txtT s m=(t,r,0)):s=textW t++r∧t.length≤m:=by
 unfold txtT at h
 split at h
 ·simp at h; exact absurd h.2.2 (by assumption)
 split at h
 ·simp at h
 split at h
 ·simp at h
 rename_i h1 h2 h3;simp only [Prod.mk.injEq] at h;obtain ⟨e1,e2,_⟩:=h;have hb:=numT_back (s:=s) (n:=(numT s).1) (r:=(numT s).2.1) (by
  have:(numT s).2.2=0:=by omega
  rw [←this])
 have hl:t.length=(numT s).1:=by rw [←e1,List.length_take]; omega
 refine ⟨?_,by omega⟩;rw [textW,hl]
 conv=>lhs; rw [hb]
 rw [←e1,←e2,List.append_assoc,List.take_append_drop]
theorem txtT_of (t r:List UInt8) (m:Nat) (hm:t.length≤m) (hl:t.length<9223372036854775808):txtT (textW t++r) m=(t,r,0):=by
 unfold txtT textW;rw [List.append_assoc,numT_of _ hl];simp only
 rw [if_neg (by simp),if_neg (by omega),if_neg (by simp)];simp
section
open Go.RowKit Go.Instr
attribute [local go_sem] ba_get ByteArray.mk_append_mk
theorem extract_drop (s:List UInt8) (c:Nat):(ByteArray.mk s.toArray).extract c (ByteArray.mk s.toArray).size=⟨(s.drop c).toArray⟩:=by
 apply ByteArray.ext
 rw [ByteArray.data_extract]
 show s.toArray.extract c s.toArray.size=_;rw [List.extract_toArray];simp [List.take_of_length_le]
theorem extract_take (s:List UInt8) (c:Nat):(ByteArray.mk s.toArray).extract 0 c=⟨(s.take c).toArray⟩:=by
 apply ByteArray.ext
 rw [ByteArray.data_extract]
 show s.toArray.extract 0 c=_;rw [List.extract_toArray];simp
theorem run_drop (s:List UInt8) (c:Nat) (h:c≤s.length) (w:World):(Instr.slice 9 (.string ⟨s.toArray⟩) (some (.int .i64 (c:Int))) none none).run Tryz.prog w= .ok (.string ⟨(s.drop c).toArray⟩) w:=by
 have:=run_slice_string_l (P:=Tryz.prog) (t:=9) (s:=⟨s.toArray⟩) (w:=w) Tryz.underlying9 .i64 (c:Int) (by omega) (by show (c:Int)≤(s.toArray.size:Nat); simp; omega)
 rwa [show ((c:Int)).toNat=c by omega,extract_drop] at this
theorem run_take (s:List UInt8) (c:Nat) (h:c≤s.length) (w:World):(Instr.slice 9 (.string ⟨s.toArray⟩) none (some (.int .i64 (c:Int))) none).run Tryz.prog w= .ok (.string ⟨(s.take c).toArray⟩) w:=by
 have:=run_slice_string_h (P:=Tryz.prog) (t:=9) (s:=⟨s.toArray⟩) (w:=w) Tryz.underlying9 .i64 (c:Int) (by omega) (by show (c:Int)≤(s.toArray.size:Nat); simp; omega)
 rwa [show ((c:Int)).toNat=c by omega,extract_take] at this
theorem run_tail (b:UInt8) (r:List UInt8) (w:World):(Instr.slice 9 (.string ⟨(b::r).toArray⟩) (some (.int .i64 1)) none none).run Tryz.prog w= .ok (.string ⟨r.toArray⟩) w:=run_drop (b::r) 1 (by simp) w
theorem extract_mid (s:List UInt8) (a n:Nat):(ByteArray.mk s.toArray).extract a (a+n)=⟨((s.drop a).take n).toArray⟩:=by
 apply ByteArray.ext
 rw [ByteArray.data_extract]
 show s.toArray.extract a (a+n)=_;rw [List.extract_toArray];simp
def RdB (w:World) (g:Nat) (all:List UInt8) (at_ code:Nat):Prop:=Blk w g 200 #[all,at_,code]
theorem RdB.cells {w:World} {g:Nat} {all:List UInt8} {a c:Nat} (h:RdB w g all a c):w.cell? ⟨g,0,none⟩=some (all:Value)∧w.cell? ⟨g,1,none⟩=some (.int .i64 (a:Int))∧w.cell? ⟨g,2,none⟩=some (.int .i64 (c:Int))∧w.frozen? ⟨g,1,none⟩=false∧w.frozen? ⟨g,2,none⟩=false:=
 ⟨Blk.cell h 0,Blk.cell h 1,Blk.cell h 2,Blk.frozen h 1,Blk.frozen h 2⟩
theorem code_Read (all:List UInt8) (w:World):
  Calls Tryz.prog 79 #[all] w fun e w'=>e= .returned (.pointer (some ⟨w.heap.size,0,none⟩))∧w'=w.alloc (.cells #[all,ζ,ζ] 200):=by
 go_enter Tryz.func79,Tryz.ntmps79
 go_wp2
 go_ret
 exact ⟨rfl,rfl⟩
def RdEnd (w:World) (g:Nat) (all:List UInt8) (v:Value) (at_ code:Nat) (e:Ending) (w':World):Prop:=e= .returned v∧RdB w' g all at_ code∧w.grownBy w' (some g)
theorem code_refused (w:World) (g:Nat) (all:List UInt8) (a c:Nat) (h:RdB w g all a c) (from_ e:Nat):
  Calls Tryz.prog 120 #[.pointer (some ⟨g,0,none⟩),from_,e] w (RdEnd w g all (.tuple #[]) (if c=0 then from_ else a) (if c=0 then e else c)):=by
 obtain ⟨c0,c1,c2,f1,f2⟩:=h.cells;have HH:=ι h;by_cases hc:c=0
 ·subst hc;rw [if_pos rfl,if_pos rfl];have HP:Hid (∀ w',RdB w' g all from_ e→w.grownBy w' (some g)→RdEnd w g all (.tuple #[]) from_ e (.returned (.tuple #[])) w'):=ι (fun w' a b=>⟨rfl,a,b⟩);generalize RdEnd w g all (.tuple #[]) from_ e=P at HP ⊢;clear h;go_enter Tryz.func120,Tryz.ntmps120
  go_wp2
  go_end0
  refine HP.out _ ?_ ?_
  ·exact (Blk.set_ (Blk.set_ HH.out 1 (.int .i64 (from_:Int))) 2 (.int .i64 (e:Int)))
  ·exact grown_set0 (grown_set0 (World.grownBy.refl _ _) _ _) _ _
 ·rw [if_neg hc,if_neg hc];have HP:Hid (∀ w',RdB w' g all a c→w.grownBy w' (some g)→RdEnd w g all (.tuple #[]) a c (.returned (.tuple #[])) w'):=ι (fun w' a b=>⟨rfl,a,b⟩);generalize RdEnd w g all (.tuple #[]) a c=P at HP ⊢;have hc1:((c:Int)==0)=false:=by simp; exact hc
  clear h hc;go_enter Tryz.func120,Tryz.ntmps120
  go_wp2
  go_end0
  exact HP.out _ HH.out (World.grownBy.refl _ _)
theorem code_Left (w:World) (g:Nat) (all:List UInt8) (a c:Nat) (h:RdB w g all a c) (hl:all.length≤1000000) (ha:a≤all.length):
  Calls Tryz.prog 121 #[.pointer (some ⟨g,0,none⟩)] w (RdEnd w g all (.int .i64 ((all.length - a:Nat):Int)) a c):=by
 obtain ⟨c0,c1,c2,f1,f2⟩:=h.cells;have HH:=ι h;have hv:IntKind.i64.wrap ((all.length:Int) - a)=((all.length - a:Nat):Int):=by rw [IntWalk.i64_in _ (by omega)]; omega
 have HP:Hid (∀ w',RdB w' g all a c→w.grownBy w' (some g)→RdEnd w g all (.int .i64 ((all.length - a:Nat):Int)) a c (.returned (.int .i64 ((all.length - a:Nat):Int))) w'):=ι (fun w' a b=>⟨rfl,a,b⟩);generalize RdEnd w g all (.int .i64 ((all.length - a:Nat):Int)) a c=P at HP ⊢;generalize ((all.length - a:Nat):Int)=d at *;clear h;go_enter Tryz.func121,Tryz.ntmps121
 go_wp2
 go_quiet (fail)
 go_wp2
 exact HP.out _ HH.out ⟨rfl,rfl,rfl,Nat.le_refl _,fun _ _ _=>rfl⟩
theorem code_take (w:World) (g:Nat) (all:List UInt8) (a c:Nat) (h:RdB w g all a c) (hl:all.length≤1000000) (ha:a≤all.length) (n:Nat) (hn:n<9223372036854775808):
  Calls Tryz.prog 155 #[.pointer (some ⟨g,0,none⟩),n] w (RdEnd w g all (.tuple #[.string ⟨(if n≤(all.drop a).length then (all.drop a).take n else []).toArray⟩,.bool (decide (n≤(all.drop a).length))]) (if n≤(all.drop a).length then a+n else a) c):=by
 obtain ⟨c0,c1,c2,f1,f2⟩:=h.cells;have HH:=ι h;have hv:IntKind.i64.wrap ((all.length:Int) - a)=(all.length:Int) - a:=IntWalk.i64_in _ (by omega);rw [List.length_drop];by_cases hle:n≤all.length - a
 ·rw [if_pos hle,if_pos hle,decide_eq_true hle];have HP:Hid (∀ w',RdB w' g all (a+n) c→w.grownBy w' (some g)→RdEnd w g all (.tuple #[.string ⟨((all.drop a).take n).toArray⟩,true]) (a+n) c (.returned (.tuple #[.string ⟨((all.drop a).take n).toArray⟩,true])) w'):=ι (fun w' a b=>⟨rfl,a,b⟩);generalize RdEnd w g all (.tuple #[.string ⟨((all.drop a).take n).toArray⟩,true]) (a+n) c=P at HP ⊢;have hgt:((all.length:Int) - a<n)=False:=by simp; omega
  have hv2:IntKind.i64.wrap ((a:Int)+n)=(a:Int)+n:=IntWalk.i64_in _ (by omega);have hr:∀ W,(Instr.slice 9 (.string ⟨all.toArray⟩) (some (.int .i64 (a:Int))) (some (.int .i64 ((a:Int)+n))) none).run Tryz.prog W= .ok (.string ⟨((all.drop a).take n).toArray⟩) W:=fun W=>by
   have:=run_slice_string_if (P:=Tryz.prog) (w:=W) 9 ⟨all.toArray⟩ .i64 .i64 (a:Int) ((a:Int)+n) Tryz.underlying9
   rw [if_pos ⟨by omega,by show (a:Int)+n≤(all.toArray.size:Nat); simp; omega⟩,if_pos ⟨by omega,by omega⟩] at this
   rwa [show ((a:Int)).toNat=a by omega,show ((a:Int)+n).toNat=a+n by omega,extract_mid] at this
  have hs0:(a:Int)+n≤1000000:=by omega
  clear h hle;generalize (all.drop a).take n=piece at *;go_enter Tryz.func155,Tryz.ntmps155
  go_wp2
  go_quiet (fail)
  go_wp2
  go_quiet (fail)
  go_wp2
  exact HP.out _ (Blk.set_ HH.out 1 (.int .i64 ((a:Int)+n))) (grown_set0 (only_drewN (World.grownBy.refl _ _) _) _ _)
 ·rw [if_neg hle,if_neg hle,decide_eq_false hle];have HP:Hid (∀ w',RdB w' g all a c→w.grownBy w' (some g)→RdEnd w g all (.tuple #[.string ⟨[].toArray⟩,false]) a c (.returned (.tuple #[ε,false])) w'):=ι (fun w' a b=>⟨rfl,a,b⟩);generalize RdEnd w g all (.tuple #[.string ⟨[].toArray⟩,false]) a c=P at HP ⊢;have hgt:((all.length:Int) - a<n)=True:=by simp; omega
  clear h hle;go_enter Tryz.func155,Tryz.ntmps155
  go_wp2
  go_quiet (fail)
  go_wp2
  exact HP.out _ HH.out ⟨rfl,rfl,rfl,Nat.le_refl _,fun _ _ _=>rfl⟩
theorem valBE_take (b:List UInt8) (i:Nat) (hi:i<b.length):valBE (b.take (i+1))=valBE (b.take i)*256+(b.getD i 0).toNat:=by
 rw [List.take_succ_eq_append_getElem hi,valBE_snoc,List.getD_eq_getElem?_getD,List.getElem?_eq_getElem hi];rfl
theorem valBE_mono (b:List UInt8):∀ i,valBE (b.take i)≤valBE b:=by
 induction b using snoc_ind with
 |h0=>intro i; simp
 |h1 c x ih=>
  intro i;rw [valBE_snoc];by_cases h:i≤c.length
  ·rw [List.take_append_of_le_length h]
   have:=ih i
   omega
  ·rw [List.take_of_length_le (by simp; omega),valBE_snoc];omega
theorem or_of' {x y:Nat} (k:Nat) (hy:y<2 ^ k):x*2 ^ k|||y=x*2 ^ k+y:=by
 rw [←Nat.shiftLeft_eq,Nat.shiftLeft_add_eq_or_of_lt hy]
theorem i64_or_byte (n:Nat) (b:Nat) (hb:b<256) (h:n*256+b<9223372036854775808):bits .or .i64 ((n:Int)*256) (b:Int)=((n*256+b:Nat):Int):=by
 have e1:(n:Int)*256=((n*256:Nat):Int):=by omega
 have h1:n*256<9223372036854775808:=by omega
 have h2:b<9223372036854775808:=by omega
 have e3:(2:Nat) ^ 8=256:=by decide
 have e2:=or_of' (x:=n) 8 (y:=b) (by rw [e3]; exact hb);rw [e3] at e2;rw [e1,i64_or_nat (n*256) b h1 h2,e2]
theorem run_byte (l : List UInt8) (i : Nat) (hi : i < l.length) (W : World) : (Instr.index 9 (.string ⟨l.toArray⟩) (.int .i64 (i : Int))).run Tryz.prog W = .ok (.int .u8 ((l.getD i 0).toNat : Int)) W := by
  have hsz : ((i : Int)).toNat < (ByteArray.mk l.toArray).size := by simpa [ByteArray.size] using hi
  rw [run_index_string W 9 ⟨l.toArray⟩ .i64 (i : Int) Tryz.underlying9]
  have e : (ByteArray.mk l.toArray)[((i : Int)).toNat]'hsz = l.getD i 0 := by
    rw [ba_get]
    simp [List.getD_eq_getElem?_getD, hi]
  rw [dif_pos ⟨by omega, by have e2 : (ByteArray.mk l.toArray).size = l.length := by simp [ByteArray.size]
                            omega⟩, e]
theorem number_loop (b:List UInt8) (hl:b.length≤8) (hv:valBE b<9223372036854775808) (w0:World)
  (Q:Exit→Act→World→Prop) (p0:Value)
  (hQ:∀ ⦃s1 s2 s3 s4 s5 s6 s8 s9 s0 s7 a0 a2 a3 a4 a5 a6 a7 a8 a9 b0 b1 b2 b3 b4 b5 b6 b7 b8 b9 c0 c1 c2 c3 c4 c5 c6 c7 c8 c9 d0 d1 d2 d3 d4 d5 d6 d7 d8 d9 e0 e1 e2 e3 e4 e5 e6 e7 e8 e9 f0 f1 f2 f3 f4 f5 f6 f7 f8:Value⦄,Q (.exit 0) {tmps:=#[p0,s1,s2,s3,s4,s5,s6,.int .i64 (valBE b:Int),s8,s9,s0,s7,a0,a2,a3,a4,a5,a6,a7,a8,a9,b0,b1,b2,b3,b4,b5,b6,b7,b8,b9,c0,c1,c2,c3,c4,c5,c6,c7,c8,c9,d0,d1,d2,d3,d4,d5,d6,d7,d8,d9,e0,e1,e2,e3,e4,e5,e6,e7,e8,e9,f0,f1,f2,f3,f4,f5,f6,f7,f8],defers:= []} w0)
  (s1 s2 s3 s4 s5 s8 s9 s0 s7 a0 a2 a3 a4 a5 a6 a7 a8 a9 b0 b1 b2 b3 b4 b5 b6 b7 b8 b9 c0 c1 c2 c3 c4 c5 c6 c7 c8 c9 d0 d1 d2 d3 d4 d5 d6 d7 d8 d9 e0 e1 e2 e3 e4 e5 e8 e9 f0 f1 f2 f3 f4 f5 f6 f7 f8:Value):
  Code.wp Tryz.prog (.loop (loopAt Tryz.f119 0)) Q {tmps:=#[p0,s1,s2,s3,s4,s5,.string ⟨b.toArray⟩,.int .i64 0,s8,s9,s0,s7,a0,a2,a3,a4,a5,a6,a7,a8,a9,b0,b1,b2,b3,b4,b5,b6,b7,b8,b9,c0,c1,c2,c3,c4,c5,c6,c7,c8,c9,d0,d1,d2,d3,d4,d5,d6,d7,d8,d9,e0,e1,e2,e3,e4,e5,.int .i64 b.length,.int .i64 0,e8,e9,f0,f1,f2,f3,f4,f5,f6,f7,f8],defers:= []} w0:=by
 have HQ:=ι hQ;clear hQ;refine wp_loop_ghost_k (fun k a wr=>∀ Φ:Act→Prop,(∀ ⦃s1 s2 s3 s4 s5 s8 s9 s0 s7 a0 a2 a3 a4 a5 a6 a7 a8 a9 b0 b1 b2 b3 b4 b5 b6 b7 b8 b9 c0 c1 c2 c3 c4 c5 c6 c7 c8 c9 d0 d1 d2 d3 d4 d5 d6 d7 d8 d9 e0 e1 e2 e3 e4 e5 e8 e9 f0 f1 f2 f3 f4 f5 f6 f7 f8:Value⦄ (i n:Nat),(i+k=b.length∧valBE (b.take i)=n∧wr=w0)→Φ {tmps:=#[p0,s1,s2,s3,s4,s5,.string ⟨b.toArray⟩,.int .i64 (n:Int),s8,s9,s0,s7,a0,a2,a3,a4,a5,a6,a7,a8,a9,b0,b1,b2,b3,b4,b5,b6,b7,b8,b9,c0,c1,c2,c3,c4,c5,c6,c7,c8,c9,d0,d1,d2,d3,d4,d5,d6,d7,d8,d9,e0,e1,e2,e3,e4,e5,.int .i64 b.length,.int .i64 (i:Int),e8,e9,f0,f1,f2,f3,f4,f5,f6,f7,f8],defers:= []})→Φ a) (b.length) ?_ ?_
 ·refine fun Φ hΦ=>hΦ (0) (0) ?_;exact ⟨by omega,by simp [valBE],rfl⟩
 ·intro k1 a1 wr1 hI1 J1 K1 hJ1 hK1;refine hI1 (fun a=>Code.wp _ _ _ a _) ?_;clear hI1 a1;iterate 65 (intro _)
  intro i n hrel
  show Code.wp _ _ _ _ _
  conv=>arg 2; whnf
  obtain ⟨h1,h2,rfl⟩:=hrel;by_cases hi:i<b.length
  ·have h3:=valBE_take b i hi;have h4:=valBE_mono b (i+1);have hx:=(b.getD i 0).toNat_lt;have HN:Hid (valBE (b.take (i+1))=n*256+(b.getD i 0).toNat):=ι (by rw [h3,h2]);have hsum:n*256+(b.getD i 0).toNat<9223372036854775808:=by rw [h2] at h3; omega
   have hor:=i64_or_byte n (b.getD i 0).toNat (by omega) hsum;have hix:=fun W=>run_byte b i hi W;have HI:=ι h1;have hi1:(i:Int)<b.length:=by omega
   have hi0:(0:Int)≤i:=by omega
   have hl8:(b.length:Int)≤8:=by omega
   have hn0:(0:Int)≤n:=by omega
   have hn1:(n:Int)≤36028797018963967:=by omega
   clear h1 h2 h3 h4;generalize b.getD i 0=x at *;go_wp2_with fail
   refine Handed.intro (b.length - (i+1)) ?_ (hJ1 _ _ _ (fun Φ hΦ=>hΦ (i+1) (n*256+x.toNat) ?_))
   ·have:=HI.out
    show b.length - (i+1)<k1;omega
   ·have:=HI.out
    exact ⟨by omega,HN.out,rfl⟩
  ·have e:b.take i=b:=List.take_of_length_le (by omega);rw [e] at h2;subst h2;have hi2:((i:Int)<b.length)=False:=by simp; omega
   clear h1 hi e;go_wp2_with fail
   apply HQ.out
def NumbEnd (w:World) (g:Nat) (all:List UInt8) (a:Nat) (r:Nat × List UInt8 × Nat) (e:Ending) (w':World):Prop:=
 ∃ a',e= .returned (.tuple #[r.1,r.2.2])∧RdB w' g all a' 0∧a'≤all.length∧(r.2.2=0→all.drop a'=r.2.1)∧w.grownBy w' (some g)
theorem z_1 {P:Prop} (h:P:=by
 go_enter Tryz.func119,Tryz.ntmps119
 go_wp2_with fail
 refine HT.out.mono ?_;rintro e w1 ⟨rfl,hb1,hg1⟩;have HG1:=ι (And.intro hb1 hg1);clear hb1 hg1;go_wp2_with fail
 refine (HT2.out _ HG1.out.1).mono ?_;rintro e w2 ⟨rfl,hb2,hg2⟩;have HG2:=ι (And.intro hb2 (HG1.out.2.trans hg2));clear hb2 hg2;go_wp2_with fail
 refine number_loop _ (by have h0:=hk8.out; have h1:=HBl.out; omega) (numT_lt HE3.out) w2 _ _ ?_ _ _ _ _ _ _ _ _ _ _ _ _ _ _ _ _ _ _ _ _ _ _ _ _ _ _ _ _ _ _ _ _ _ _ _ _ _ _ _ _ _ _ _ _ _ _ _ _ _ _ _ _ _ _ _ _ _ _ _ _ _ _ _ _ _;intro s1 s2 s3 s4 s5 s6 s8 s9 s10 s11 s12 s13 s14 s15 s16 s17 s18 s19 s20 s21 s22 s23 s24 s25 s26 s27 s28 s29 s30 s31 s32 s33 s34 s35 s36 s37 s38 s39 s40 s41 s42 s43 s44 s45 s46 s47 s48 s49 s50 s51 s52 s53 s54 s55 s56 s57 s58 s59 s60 s61 s62 s63 s64 s65 s66 s67 s68 s69;have HF:=ι (HP.out _ _ 0 _ _ HE3.out HG2.out.1 HLe.out.1 (fun _=>HLe.out.2) HG2.out.2);clear HE3;generalize valBE _=v at HF ⊢;go_wp2_with fail
 exact HF.out):P:=h
theorem z_2 {P:Prop} (h:P:=by
 go_enter Tryz.func119,Tryz.ntmps119
 go_wp2_with fail
 refine HT.out.mono ?_;rintro e w1 ⟨rfl,hb1,hg1⟩;have HG1:=ι (And.intro hb1 hg1);clear hb1 hg1;go_wp2_with fail
 refine (HT2.out _ HG1.out.1).mono ?_;rintro e w2 ⟨rfl,hb2,hg2⟩;have HG2:=ι (And.intro hb2 (HG1.out.2.trans hg2));clear hb2 hg2;go_wp2_with fail
 exact HP.out 0 [] 3 _ _ HE3.out HG2.out.1 HLe.out.1 (fun e=>by cases e) HG2.out.2):P:=h
theorem code_number (w:World) (g:Nat) (all:List UInt8) (a:Nat) (h:RdB w g all a 0) (hl:all.length≤1000000) (ha:a≤all.length):
  Calls Tryz.prog 119 #[.pointer (some ⟨g,0,none⟩)] w (NumbEnd w g all a (numT (all.drop a))):=by
 have HP:Hid (∀ (n:Nat) rest c a' w',numT (all.drop a)=(n,rest,c)→RdB w' g all a' 0→a'≤all.length→(c=0→all.drop a'=rest)→w.grownBy w' (some g)→NumbEnd w g all a (numT (all.drop a)) (.returned (.tuple #[n,c])) w'):=ι (fun n rest c a' w' e h1 h2 h3 h4=>by
  unfold NumbEnd;rw [e];exact ⟨a',rfl,h1,h2,h3,h4⟩)
 generalize NumbEnd w g all a (numT (all.drop a))=P at HP ⊢;obtain ⟨c0,c1,c2,f1,f2⟩:=h.cells;have T1:=code_take w g all a 0 h hl ha 1 (by omega);have HH:=ι h;have HL:=ι hl;have HA:=ι ha;clear h hl ha;cases hr:all.drop a with
 |nil=>
  rw [hr] at T1;have HE:Hid (numT (all.drop a)=(0,[],20)):=ι (by rw [hr]; rfl);simp only [List.length_nil,show ¬(1≤0) by omega,if_false,decide_false] at T1;have HT:=ι T1;clear T1 hr c1 f1;go_enter Tryz.func119,Tryz.ntmps119
  go_wp2_with fail
  refine HT.out.mono ?_;rintro e w1 ⟨rfl,hb1,hg1⟩;go_wp2_with fail
  exact HP.out 0 [] 20 a _ HE.out hb1 HA.out (fun e=>by cases e) hg1
 |cons k r=>
  have hlt:a<all.length:=by
   rcases Nat.lt_or_ge a all.length with h|h
   ·exact h
   ·rw [List.drop_of_length_le h] at hr; cases hr
  have hr1:all.drop (a+1)=r:=by
   have:=congrArg List.tail hr
   rwa [List.tail_drop,List.tail_cons] at this
  rw [hr] at T1;simp only [List.length_cons,show 1≤r.length+1 by omega,if_true,decide_true,List.take_succ_cons,List.take_zero] at T1;have HT:=ι T1;have hE:=numT_cons k r;rw [←hr] at hE;have hk256:=k.toNat_lt;have HE:=ι hE;have HR1:=ι hr1;have HLt:=ι hlt;have hix:=fun W=>run_byte [k] 0 (by simp) W;simp only [List.getD_cons_zero] at hix;clear T1 hr hr1 hE hlt c1 f1;by_cases h8:8<k.toNat
  ·have hE2:=HE.out;rw [if_pos h8] at hE2;have HE2:=ι hE2;have h8I:(8:Int)<(k.toNat:Int):=by omega
   clear hE2 HE h8;go_enter Tryz.func119,Tryz.ntmps119
   go_wp2_with fail
   refine HT.out.mono ?_;rintro e w1 ⟨rfl,hb1,hg1⟩;go_wp2_with fail
   exact HP.out 0 [] 3 (a+1) _ HE2.out hb1 HLt.out (fun e=>by cases e) hg1
  ·have h8I:((8:Int)<(k.toNat:Int))=False:=by simp; omega
   have HE1:Hid (numT (all.drop a)=if r.length<k.toNat then (0,[],20) else if (0<k.toNat∧r.getD 0 0=0)∨(k.toNat=8∧128≤(r.getD 0 0).toNat) then (0,[],3) else (valBE (r.take k.toNat),r.drop k.toNat,0)):=ι (by rw [HE.out,if_neg h8]);have HT2:Hid (∀ W,RdB W g all (a+1) 0→Calls Tryz.prog 155 #[.pointer (some ⟨g,0,none⟩),k.toNat] W (RdEnd W g all (.tuple #[.string ⟨(if k.toNat≤r.length then r.take k.toNat else []).toArray⟩,.bool (decide (k.toNat≤r.length))]) (if k.toNat≤r.length then a+1+k.toNat else a+1) 0)):=ι (fun W hW=>by
    have:=code_take W g all (a+1) 0 hW HL.out HLt.out k.toNat (by omega)
    rwa [HR1.out] at this)
   clear HE;have hk8:Hid (k.toNat≤8):=ι (by omega);clear h8;by_cases hle:k.toNat≤r.length
   ·rw [if_pos hle,if_pos hle,decide_eq_true hle] at HT2;have HE2:Hid (numT (all.drop a)=if (0<k.toNat∧r.getD 0 0=0)∨(k.toNat=8∧128≤(r.getD 0 0).toNat) then (0,[],3) else (valBE (r.take k.toNat),r.drop k.toNat,0)):=ι (by rw [HE1.out,if_neg (by omega)]);have HLe:Hid (a+1+k.toNat≤all.length∧all.drop (a+1+k.toNat)=r.drop k.toNat):=ι (by
     have h0:=HLt.out;have h1:=congrArg List.length HR1.out;rw [List.length_drop] at h1;exact ⟨by omega,by rw [←HR1.out,List.drop_drop]⟩)
    have hbl:(r.take k.toNat).length=k.toNat:=by rw [List.length_take]; omega
    have HBl:=ι hbl;clear HE1 hle hbl;generalize hbb:r.take k.toNat=b at *;clear hix;have HX:Hid (∀ x t,b=x::t→r.getD 0 0=x):=ι (fun x t e=>by
     rw [e] at hbb;cases r with
     |nil=>simp at hbb
     |cons y u=>
      have hk:k.toNat=t.length+1:=by have:=HBl.out; rw [e] at this; simpa using this.symm
      rw [hk,List.take_succ_cons] at hbb;injection hbb with h1 _)
    generalize r.drop k.toNat=rest at *;clear hbb;rcases Nat.eq_zero_or_pos b.length with hb0|hb0
    ·obtain rfl:b= []:=List.eq_nil_of_length_eq_zero hb0;have HE3:Hid (numT (all.drop a)=(valBE [],rest,0)):=ι (by
      have h0:=HBl.out;simp at h0
      rw [HE2.out,if_neg (by omega)])
     clear HE2 hb0;exact z_1
    ·obtain ⟨x,hx⟩:∃ x,b.getD 0 0=x:=⟨_,rfl⟩
     have hx0:r.getD 0 0=x:=by
      cases b with
      |nil=>simp at hb0
      |cons y u=>rw [HX.out y u rfl,←hx]; rfl
     rw [hx0] at HE2;have hjx:∀ W,(Instr.index 9 (.string ⟨b.toArray⟩) (.int .i64 0)).run Tryz.prog W= .ok (.int .u8 (x.toNat:Int)) W:=fun W=>by
      have:=run_byte b 0 hb0 W
      rwa [hx] at this
     have hx256:=x.toNat_lt;have hlp:(0:Int)<b.length:=by omega
     have HB0:=ι hb0;clear hx0 hx hb0;by_cases hz:x=0
     ·have HE3:Hid (numT (all.drop a)=(0,[],3)):=ι (by rw [HE2.out,if_pos (.inl ⟨by have h0:=HBl.out; have h1:=HB0.out; omega,hz⟩)]);have hz1:((x.toNat:Int)==0)=true:=by simp [hz]
      clear HE2 hz;exact z_2
     ·have hz0:x.toNat≠0:=fun e=>hz (UInt8.toNat_inj.1 e);have hz1:((x.toNat:Int)==0)=false:=by simp; exact hz0
      by_cases h88:b.length=8
      ·have h88I:((b.length:Int)==8)=true:=by rw [beq_iff_eq]; omega
       by_cases h128:128≤x.toNat
       ·have HE3:Hid (numT (all.drop a)=(0,[],3)):=ι (by rw [HE2.out,if_pos (.inr ⟨HBl.out.symm.trans h88,h128⟩)]);have h9:(128:Int)≤x.toNat:=by omega
        clear HE2 hz hz0 h88 h128;exact z_2
       ·have HE3:Hid (numT (all.drop a)=(valBE b,rest,0)):=ι (by
         rw [HE2.out,if_neg];rintro (⟨_,h⟩|⟨_,h⟩)
         ·exact hz h
         ·exact h128 h)
        have h9:((128:Int)≤x.toNat)=False:=by simp; omega
        clear HE2 hz hz0 h88 h128;exact z_1
      ·have h88I:((b.length:Int)==8)=false:=by
        rw [beq_eq_false_iff_ne]; intro e; apply h88; omega
       have HE3:Hid (numT (all.drop a)=(valBE b,rest,0)):=ι (by
        rw [HE2.out,if_neg];rintro (⟨_,h⟩|⟨h,_⟩)
        ·exact hz h
        ·exact h88 (HBl.out.trans h))
       clear HE2 hz hz0 h88;exact z_1
   ·rw [if_neg hle,if_neg hle,decide_eq_false hle] at HT2;have HE2:Hid (numT (all.drop a)=(0,[],20)):=ι (by rw [HE1.out,if_pos (by omega)]);clear HE1 hle;go_enter Tryz.func119,Tryz.ntmps119
    go_wp2_with fail
    refine HT.out.mono ?_;rintro e w1 ⟨rfl,hb1,hg1⟩;have HG1:=ι (And.intro hb1 hg1);clear hb1 hg1;go_wp2_with fail
    refine (HT2.out _ HG1.out.1).mono ?_;rintro e w2 ⟨rfl,hb2,hg2⟩;go_wp2_with fail
    exact HP.out 0 [] 20 (a+1) _ HE2.out hb2 HLt.out (fun e=>by cases e) (HG1.out.2.trans hg2)
end
end Go.Proofs.YtnelhjfjkkdoaaaGreatDoor