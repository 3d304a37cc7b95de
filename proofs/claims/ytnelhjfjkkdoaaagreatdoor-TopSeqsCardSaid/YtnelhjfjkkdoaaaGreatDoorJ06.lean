import Derived.Test.YtnelhjfjkkdoaaaGreatDoorJ05
set_option linter.unusedSimpArgs false
set_option linter.unusedVariables false
set_option maxHeartbeats 4000000
set_option maxRecDepth 100000
namespace Go.Proofs.YtnelhjfjkkdoaaaGreatDoor
section
open Go.RowKit
def η (_:Hd) (_:List Value):CC:=⟨⟩
instance (h:Hd) (t:List Value):CoeDep CC (η h t) (List Value):=⟨h.hgt::h.epo::h.vw::h.last::h.par::h.st::h.rc::h.tx::h.mem::h.nxt::t⟩
instance (h:Hd) (t:List Value):CoeDep CC (η h t) (Array Value):=⟨List.toArray (h.hgt::h.epo::h.vw::h.last::h.par::h.st::h.rc::h.tx::h.mem::h.nxt::t)⟩
end
section
open Go.RowKit Go.Instr
attribute [local go_sem] ba_get ByteArray.mk_append_mk
def NumbEnd (w:World) (g:Nat) (all:List UInt8) (a:Nat) (r:Nat × List UInt8 × Nat) (e:Ending) (w':World):Prop:=
 ∃ a',e= .returned (.tuple #[r.1,r.2.2])∧RdB w' g all a' 0∧a'≤all.length∧(r.2.2=0→all.drop a'=r.2.1)∧w.grownBy w' (some g)
theorem z_1 {P:Prop} (h:P:=by
 go_enter Tryz.func119,Tryz.ntmps119
 go_wp2_with fail
 refine HT.out.mono ?_;rintro e w1 ⟨rfl,hb1,hg1⟩;have HG1:=ι (And.intro hb1 hg1);clear hb1 hg1;go_wp2_with fail
 refine (HT2.out _ HG1.out.1).mono ?_;rintro e w2 ⟨rfl,hb2,hg2⟩;have HG2:=ι (And.intro hb2 (HG1.out.2.trans hg2));clear hb2 hg2;go_wp2_with fail
 refine number_loop _ (by have h0:=hk8.out; have h1:=HBl.out; omega) (numT_lt HE3.out) w2 _ _ ?_ _ _ _ _ _ _ _ _ _ _ _ _ _ _ _ _ _ _ _ _ _ _ _ _ _ _ _ _ _ _ _ _ _ _ _ _ _ _ _ _ _ _ _ _ _ _ _ _ _ _ _ _ _ _ _ _ _ _ _ _ _ _ _ _ _;intro s1 s2 s3 s4 s5 s6 s8 s9 s10 s11 s12 s13 s14 s15 s16 s17 s18 s19 s20 s21 s22 s23 s24 s25 s26 s27 s28 s29 s30 s31 s32 s33 s34 s35 s36 s37 s38 s39 s40 s41 s42 s43 s44 s45 s46 s47 s48 s49 s50 s51 s52 s53 s54 s55 s56 s57 s58 s59 s60 s61 s62 s63 s64 s65 s66 s67 s68 s69;have HF:=ι (HP.out _ _ 0 _ _ HE3.out HG2.out.1 HLe.out.1 (fun _=>HLe.out.2) HG2.out.2);clear HE3;generalize valBE _=v at HF ⊢;go_wp2_with fail
 exact HF.out):P:=h
theorem z_2 {P:Prop} (h:P:=by
 go_enter Tryz.func119,Tryz.ntmps119
 go_wp2_with fail
 refine HT.out.mono ?_;rintro e w1 ⟨rfl,hb1,hg1⟩;have HG1:=ι (And.intro hb1 hg1);clear hb1 hg1;go_wp2_with fail
 refine (HT2.out _ HG1.out.1).mono ?_;rintro e w2 ⟨rfl,hb2,hg2⟩;have HG2:=ι (And.intro hb2 (HG1.out.2.trans hg2));clear hb2 hg2;go_wp2_with fail
 exact HP.out 0 [] 3 _ _ HE3.out HG2.out.1 HLe.out.1 (fun e=>by cases e) HG2.out.2):P:=h
theorem code_number (w:World) (g:Nat) (all:List UInt8) (a:Nat) (h:RdB w g all a 0) (hl:all.length≤1000000) (ha:a≤all.length):
  Calls Tryz.prog 119 #[.pointer (some ⟨g,0,none⟩)] w (NumbEnd w g all a (numT (all.drop a))):=by
 have HP:Hid (∀ (n:Nat) rest c a' w',numT (all.drop a)=(n,rest,c)→RdB w' g all a' 0→a'≤all.length→(c=0→all.drop a'=rest)→w.grownBy w' (some g)→NumbEnd w g all a (numT (all.drop a)) (.returned (.tuple #[n,c])) w'):=ι (fun n rest c a' w' e h1 h2 h3 h4=>by
  unfold NumbEnd;rw [e];exact ⟨a',rfl,h1,h2,h3,h4⟩)
 generalize NumbEnd w g all a (numT (all.drop a))=P at HP ⊢;obtain ⟨c0,c1,c2,f1,f2⟩:=h.cells;have T1:=code_take w g all a 0 h hl ha 1 (by omega);have HH:=ι h;have HL:=ι hl;have HA:=ι ha;clear h hl ha;cases hr:all.drop a with
 |nil=>
  rw [hr] at T1;have HE:Hid (numT (all.drop a)=(0,[],20)):=ι (by rw [hr]; rfl);simp only [List.length_nil,show ¬(1≤0) by omega,if_false,decide_false] at T1;have HT:=ι T1;clear T1 hr c1 f1;go_enter Tryz.func119,Tryz.ntmps119
  go_wp2_with fail
  refine HT.out.mono ?_;rintro e w1 ⟨rfl,hb1,hg1⟩;go_wp2_with fail
  exact HP.out 0 [] 20 a _ HE.out hb1 HA.out (fun e=>by cases e) hg1
 |cons k r=>
  have hlt:a<all.length:=by
   rcases Nat.lt_or_ge a all.length with h|h
   ·exact h
   ·rw [List.drop_of_length_le h] at hr; cases hr
  have hr1:all.drop (a+1)=r:=by
   have:=congrArg List.tail hr
   rwa [List.tail_drop,List.tail_cons] at this
  rw [hr] at T1;simp only [List.length_cons,show 1≤r.length+1 by omega,if_true,decide_true,List.take_succ_cons,List.take_zero] at T1;have HT:=ι T1;have hE:=numT_cons k r;rw [←hr] at hE;have hk256:=k.toNat_lt;have HE:=ι hE;have HR1:=ι hr1;have HLt:=ι hlt;have hix:=fun W=>run_byte [k] 0 (by simp) W;simp only [List.getD_cons_zero] at hix;clear T1 hr hr1 hE hlt c1 f1;by_cases h8:8<k.toNat
  ·have hE2:=HE.out;rw [if_pos h8] at hE2;have HE2:=ι hE2;have h8I:(8:Int)<(k.toNat:Int):=by omega
   clear hE2 HE h8;go_enter Tryz.func119,Tryz.ntmps119
   go_wp2_with fail
   refine HT.out.mono ?_;rintro e w1 ⟨rfl,hb1,hg1⟩;go_wp2_with fail
   exact HP.out 0 [] 3 (a+1) _ HE2.out hb1 HLt.out (fun e=>by cases e) hg1
  ·have h8I:((8:Int)<(k.toNat:Int))=False:=by simp; omega
   have HE1:Hid (numT (all.drop a)=if r.length<k.toNat then (0,[],20) else if (0<k.toNat∧r.getD 0 0=0)∨(k.toNat=8∧128≤(r.getD 0 0).toNat) then (0,[],3) else (valBE (r.take k.toNat),r.drop k.toNat,0)):=ι (by rw [HE.out,if_neg h8]);have HT2:Hid (∀ W,RdB W g all (a+1) 0→Calls Tryz.prog 155 #[.pointer (some ⟨g,0,none⟩),k.toNat] W (RdEnd W g all (.tuple #[.string ⟨(if k.toNat≤r.length then r.take k.toNat else []).toArray⟩,.bool (decide (k.toNat≤r.length))]) (if k.toNat≤r.length then a+1+k.toNat else a+1) 0)):=ι (fun W hW=>by
    have:=code_take W g all (a+1) 0 hW HL.out HLt.out k.toNat (by omega)
    rwa [HR1.out] at this)
   clear HE;have hk8:Hid (k.toNat≤8):=ι (by omega);clear h8;by_cases hle:k.toNat≤r.length
   ·rw [if_pos hle,if_pos hle,decide_eq_true hle] at HT2;have HE2:Hid (numT (all.drop a)=if (0<k.toNat∧r.getD 0 0=0)∨(k.toNat=8∧128≤(r.getD 0 0).toNat) then (0,[],3) else (valBE (r.take k.toNat),r.drop k.toNat,0)):=ι (by rw [HE1.out,if_neg (by omega)]);have HLe:Hid (a+1+k.toNat≤all.length∧all.drop (a+1+k.toNat)=r.drop k.toNat):=ι (by
     have h0:=HLt.out;have h1:=congrArg List.length HR1.out;rw [List.length_drop] at h1;exact ⟨by omega,by rw [←HR1.out,List.drop_drop]⟩)
    have hbl:(r.take k.toNat).length=k.toNat:=by rw [List.length_take]; omega
    have HBl:=ι hbl;clear HE1 hle hbl;generalize hbb:r.take k.toNat=b at *;clear hix;have HX:Hid (∀ x t,b=x::t→r.getD 0 0=x):=ι (fun x t e=>by
     rw [e] at hbb;cases r with
     |nil=>simp at hbb
     |cons y u=>
      have hk:k.toNat=t.length+1:=by have:=HBl.out; rw [e] at this; simpa using this.symm
      rw [hk,List.take_succ_cons] at hbb;injection hbb with h1 _)
    generalize r.drop k.toNat=rest at *;clear hbb;rcases Nat.eq_zero_or_pos b.length with hb0|hb0
    ·obtain rfl:b= []:=List.eq_nil_of_length_eq_zero hb0;have HE3:Hid (numT (all.drop a)=(valBE [],rest,0)):=ι (by
      have h0:=HBl.out;simp at h0
      rw [HE2.out,if_neg (by omega)])
     clear HE2 hb0;exact z_1
    ·obtain ⟨x,hx⟩:∃ x,b.getD 0 0=x:=⟨_,rfl⟩
     have hx0:r.getD 0 0=x:=by
      cases b with
      |nil=>simp at hb0
      |cons y u=>rw [HX.out y u rfl,←hx]; rfl
     rw [hx0] at HE2;have hjx:∀ W,(Instr.index 9 (.string ⟨b.toArray⟩) (.int .i64 0)).run Tryz.prog W= .ok (.int .u8 (x.toNat:Int)) W:=fun W=>by
      have:=run_byte b 0 hb0 W
      rwa [hx] at this
     have hx256:=x.toNat_lt;have hlp:(0:Int)<b.length:=by omega
     have HB0:=ι hb0;clear hx0 hx hb0;by_cases hz:x=0
     ·have HE3:Hid (numT (all.drop a)=(0,[],3)):=ι (by rw [HE2.out,if_pos (.inl ⟨by have h0:=HBl.out; have h1:=HB0.out; omega,hz⟩)]);have hz1:((x.toNat:Int)==0)=true:=by simp [hz]
      clear HE2 hz;exact z_2
     ·have hz0:x.toNat≠0:=fun e=>hz (UInt8.toNat_inj.1 e);have hz1:((x.toNat:Int)==0)=false:=by simp; exact hz0
      by_cases h88:b.length=8
      ·have h88I:((b.length:Int)==8)=true:=by rw [beq_iff_eq]; omega
       by_cases h128:128≤x.toNat
       ·have HE3:Hid (numT (all.drop a)=(0,[],3)):=ι (by rw [HE2.out,if_pos (.inr ⟨HBl.out.symm.trans h88,h128⟩)]);have h9:(128:Int)≤x.toNat:=by omega
        clear HE2 hz hz0 h88 h128;exact z_2
       ·have HE3:Hid (numT (all.drop a)=(valBE b,rest,0)):=ι (by
         rw [HE2.out,if_neg];rintro (⟨_,h⟩|⟨_,h⟩)
         ·exact hz h
         ·exact h128 h)
        have h9:((128:Int)≤x.toNat)=False:=by simp; omega
        clear HE2 hz hz0 h88 h128;exact z_1
      ·have h88I:((b.length:Int)==8)=false:=by
        rw [beq_eq_false_iff_ne]; intro e; apply h88; omega
       have HE3:Hid (numT (all.drop a)=(valBE b,rest,0)):=ι (by
        rw [HE2.out,if_neg];rintro (⟨_,h⟩|⟨h,_⟩)
        ·exact hz h
        ·exact h88 (HBl.out.trans h))
       clear HE2 hz hz0 h88;exact z_1
   ·rw [if_neg hle,if_neg hle,decide_eq_false hle] at HT2;have HE2:Hid (numT (all.drop a)=(0,[],20)):=ι (by rw [HE1.out,if_pos (by omega)]);clear HE1 hle;go_enter Tryz.func119,Tryz.ntmps119
    go_wp2_with fail
    refine HT.out.mono ?_;rintro e w1 ⟨rfl,hb1,hg1⟩;have HG1:=ι (And.intro hb1 hg1);clear hb1 hg1;go_wp2_with fail
    refine (HT2.out _ HG1.out.1).mono ?_;rintro e w2 ⟨rfl,hb2,hg2⟩;go_wp2_with fail
    exact HP.out 0 [] 20 (a+1) _ HE2.out hb2 HLt.out (fun e=>by cases e) (HG1.out.2.trans hg2)
def Rdr (w:World) (g:Nat) (s:List UInt8 × Nat):Prop:=∃ all a,RdB w g all a s.2∧a≤all.length∧all.length≤1000000∧all.drop a=s.1
theorem Rdr.lt {w:World} {g:Nat} {s:List UInt8 × Nat} (h:Rdr w g s):g<w.heap.size:=by
 obtain ⟨all,a,h1,_⟩:=h;exact Blk.lt h1
theorem Rdr.drew {w:World} {g:Nat} {s:List UInt8 × Nat} (h:Rdr w g s):Rdr w.drew g s:=h
def RdrEnd (w:World) (g:Nat) (v:Value) (s:List UInt8 × Nat) (e:Ending) (w':World):Prop:=e= .returned v∧Rdr w' g s∧w.grownBy w' (some g)
def numS (s:List UInt8 × Nat):Nat × (List UInt8 × Nat):=if s.2≠0 then (0,s) else if (numT s.1).2.2=0 then ((numT s.1).1,((numT s.1).2.1,0)) else (0,(s.1,(numT s.1).2.2))
def txtS (s:List UInt8 × Nat) (most:Nat):List UInt8 × (List UInt8 × Nat):=if s.2≠0 then ([],s) else if (txtT s.1 most).2.2=0 then ((txtT s.1 most).1,((txtT s.1 most).2.1,0)) else ([],(s.1,(txtT s.1 most).2.2))
def endS (s:List UInt8 × Nat):Nat:=if s.2=0∧s.1≠ [] then 3 else s.2
theorem code_number_no (w:World) (g:Nat) (all:List UInt8) (a c:Nat) (h:RdB w g all a c) (hc:c≠0):
  Calls Tryz.prog 119 #[.pointer (some ⟨g,0,none⟩)] w (RdEnd w g all (.tuple #[ζ,c]) a c):=by
 obtain ⟨c0,c1,c2,f1,f2⟩:=h.cells;have HH:=ι h;have HP:Hid (∀ w',RdB w' g all a c→w.grownBy w' (some g)→RdEnd w g all (.tuple #[ζ,c]) a c (.returned (.tuple #[ζ,c])) w'):=ι (fun w' a b=>⟨rfl,a,b⟩);generalize RdEnd w g all (.tuple #[ζ,c]) a c=P at HP ⊢;have hc1:((c:Int) !=0)=true:=by simp; exact hc
 clear h hc;go_enter Tryz.func119,Tryz.ntmps119
 go_wp2
 go_quiet (fail)
 go_wp2
 exact HP.out _ HH.out (only_drewN (World.grownBy.refl _ _) _)
theorem code_RNum (w:World) (g:Nat) (s:List UInt8 × Nat) (h:Rdr w g s):
  Calls Tryz.prog 80 #[.pointer (some ⟨g,0,none⟩)] w (RdrEnd w g (.int .i64 ((numS s).1:Int)) (numS s).2):=by
 obtain ⟨rest,c⟩:=s;obtain ⟨all,a,hB,ha,hl,hr⟩:=h;simp only at hB hr;subst hr;have HP:Hid (∀ (n:Nat) s' w',numS (all.drop a,c)=(n,s')→Rdr w' g s'→w.grownBy w' (some g)→RdrEnd w g (.int .i64 ((numS (all.drop a,c)).1:Int)) (numS (all.drop a,c)).2 (.returned (.int .i64 (n:Int))) w'):=ι (fun n s' w' e h1 h2=>by rw [e]; exact ⟨rfl,h1,h2⟩);generalize RdrEnd w g (.int .i64 ((numS (all.drop a,c)).1:Int)) (numS (all.drop a,c)).2=P at HP ⊢;obtain ⟨c0,c1,c2,f1,f2⟩:=hB.cells;have HB:=ι hB;have HL:=ι (And.intro ha hl);by_cases hc:c=0
 ·subst hc;have HN:=ι (code_number w g all a hB hl ha);clear hB ha hl;cases he:(numT (all.drop a)).2.2 with
  |zero=>
   have HS:Hid (numS (all.drop a,0)=((numT (all.drop a)).1,((numT (all.drop a)).2.1,0))):=ι (by simp [numS,he]);unfold NumbEnd at HN;rw [he] at HN;clear he;generalize (numT (all.drop a)).1=n at *;generalize (numT (all.drop a)).2.1=r at *;go_enter Tryz.func80,Tryz.ntmps80
   go_wp2_with fail
   refine HN.out.mono ?_;rintro e w1 ⟨a',rfl,h1,h2,h3,h4⟩;have HF:=ι (HP.out n (r,0) w1 HS.out ⟨all,a',h1,h2,HL.out.2,h3 (by first|exact trivial|rfl)⟩ h4);clear h1 h2 h3 h4;go_wp2_with fail
   exact HF.out
  |succ m=>
   have HS:Hid (numS (all.drop a,0)=(0,(all.drop a,m+1))):=ι (by simp [numS,he]);unfold NumbEnd at HN;rw [he] at HN;have hm1:(((m+1:Nat):Int) !=0)=true:=by simp; omega
   clear he;generalize (numT (all.drop a)).1=n at *;generalize (numT (all.drop a)).2.1=r at *;generalize m+1=c' at *;go_enter Tryz.func80,Tryz.ntmps80
   go_wp2_with fail
   refine HN.out.mono ?_;rintro e w1 ⟨a',rfl,h1,h2,h3,h4⟩;have HR:=ι (code_refused w1 g all a' 0 h1 a c');rw [if_pos rfl,if_pos rfl] at HR;have HG:=ι h4;clear h1 h2 h3 h4;go_wp2_with fail
   refine HR.out.mono ?_;rintro e w2 ⟨rfl,h5,h6⟩;have HF:=ι (HP.out 0 (all.drop a,c') w2 HS.out ⟨all,a,h5,HL.out.1,HL.out.2,rfl⟩ (HG.out.trans h6));clear h5 h6;go_wp2_with fail
   exact HF.out
 ·have HN:=ι (code_number_no w g all a c hB hc);have HS:Hid (numS (all.drop a,c)=(0,(all.drop a,c))):=ι (by simp [numS,hc]);have HC:=ι hc;have hm1:((c:Int) !=0)=true:=by simp; exact hc
  clear hB ha hl hc;go_enter Tryz.func80,Tryz.ntmps80
  go_wp2_with fail
  refine HN.out.mono ?_;rintro e w1 ⟨rfl,h1,h4⟩;have HR:=ι (code_refused w1 g all a c h1 a c);rw [if_neg HC.out,if_neg HC.out] at HR;have HG:=ι h4;clear h1 h4;go_wp2_with fail
  refine HR.out.mono ?_;rintro e w2 ⟨rfl,h5,h6⟩;have HF:=ι (HP.out 0 (all.drop a,c) w2 HS.out ⟨all,a,h5,HL.out.1,HL.out.2,rfl⟩ (HG.out.trans h6));clear h5 h6;go_wp2_with fail
  exact HF.out
theorem code_REnd (w:World) (g:Nat) (s:List UInt8 × Nat) (h:Rdr w g s):
  Calls Tryz.prog 81 #[.pointer (some ⟨g,0,none⟩)] w (RdrEnd w g (.int .i64 (endS s:Int)) (s.1,endS s)):=by
 obtain ⟨rest,c⟩:=s;obtain ⟨all,a,hB,ha,hl,hr⟩:=h;simp only at hB hr;subst hr;have HP:Hid (∀ (c':Nat) w',endS (all.drop a,c)=c'→RdB w' g all a c'→w.grownBy w' (some g)→RdrEnd w g (.int .i64 (endS (all.drop a,c):Int)) (all.drop a,endS (all.drop a,c)) (.returned (.int .i64 (c':Int))) w'):=ι (fun c' w' e h1 h2=>by rw [e]; exact ⟨rfl,⟨all,a,h1,ha,hl,rfl⟩,h2⟩);generalize RdrEnd w g (.int .i64 (endS (all.drop a,c):Int)) (all.drop a,endS (all.drop a,c))=P at HP ⊢;obtain ⟨c0,c1,c2,f1,f2⟩:=hB.cells;have HB:=ι hB;have HLf:=ι (code_Left w g all a c hB hl ha);by_cases hz:all.length - a=0
 ·have hd:all.drop a= []:=List.drop_of_length_le (by omega);have HS:Hid (endS (all.drop a,c)=c):=ι (by simp [endS,hd]);rw [hz] at HLf;clear hB ha hl hd hz;go_enter Tryz.func81,Tryz.ntmps81
  go_wp2_with fail
  refine HLf.out.mono ?_;rintro e w1 ⟨rfl,h1,h4⟩;obtain ⟨d0,d1,d2,_,_⟩:=h1.cells;have HF:=ι (HP.out c w1 HS.out h1 h4);clear h1 h4;go_wp2_with fail
  exact HF.out
 ·have hd:all.drop a≠ []:=fun e=>by have:=congrArg List.length e; rw [List.length_drop] at this; exact hz this
  have HS:Hid (endS (all.drop a,c)=if c=0 then 3 else c):=ι (by simp [endS,hd]);have hzI:(0:Int)<((all.length - a:Nat):Int):=by omega
  clear hB ha hl hd hz;generalize ((all.length - a:Nat):Int)=d at *;go_enter Tryz.func81,Tryz.ntmps81
  go_wp2_with fail
  refine HLf.out.mono ?_;rintro e w1 ⟨rfl,h1,h4⟩;obtain ⟨d0,d1,d2,_,_⟩:=h1.cells;have HR:=ι (code_refused w1 g all a c h1 a 3);have HG:=ι h4;clear h1 h4;go_wp2_with fail
  refine HR.out.mono ?_;rintro e w2 ⟨rfl,h5,h6⟩;rw [ite_self] at h5;obtain ⟨k0,k1,k2,_,_⟩:=h5.cells;have HF:=ι (HP.out _ w2 HS.out h5 (HG.out.trans h6));clear h5 h6 HS HP HR;generalize (if c=0 then 3 else c)=c' at *;go_wp2_with fail
  exact HF.out
end
section
open Go.RowKit
attribute [local go_sem] ba_get ByteArray.mk_append_mk
theorem nib_Of (s:List UInt8) (w:World) (hs:s.length≤1048576):
  Calls Tryz.prog 54 #[s] w fun e w'=>e= .returned (.string ⟨(Nib.of s).toArray⟩)∧Below w.heap.size w w':=by
 go_enter Tryz.func54,Tryz.ntmps54
 obtain ⟨i0,hi0,hz0,hz1,hz2⟩:=info_parts info_byte;go_wp2_with (at_make; refine wpList_make_own _ rfl _ _ 118 rfl w.heap.size 5 i0 _ 1 Tryz.underlying118 hi0 hz0 hz1 .i64 .i64 _ (2*s.length) rfl rfl (by omega) (by rw [hz2]; omega) (by simp only [maxLen]; omega) (Nat.le_refl _) ?_; intro w1 hown1 hg1)
 have hb1:Below w.heap.size w w1:=(Below.refl _ _).grown hg1 (Nat.le_refl _) (by simp);refine wp_loop_ghost_k (fun k a wr=>∀ Φ:Act→Prop,(∀ ⦃s1 s2 s4 s5 s6 s7 s8 s9 s0 s3 a0 a2 a3 a4 a5 a6 a7 a8 a9 b0 b1 b2 b3 b4:Value⦄ (i:Nat) (v:Value) (t:List UInt8),(i+k=s.length∧t.length=2*i∧t=Nib.of (s.take i)∧wr.ownsRow w.heap.size 5 1 v (2*i) (bvals t)∧Below w.heap.size w wr)→Φ {tmps:=#[.string ⟨s.toArray⟩,s1,s2,v,s4,s5,s6,s7,s8,s9,.int .i64 s.length,.int .i64 i,s0,s3,a0,a2,a3,a4,a5,a6,a7,a8,a9,b0,b1,b2,b3,b4],defers:= []})→Φ a) (s.length) ?_ ?_
 ·refine fun Φ hΦ=>hΦ (0) (_) ([]) ?_;exact ⟨by omega,rfl,rfl,hown1,hb1⟩
 ·intro k1 a1 wr1 hI1 J1 K1 hJ1 hK1;refine hI1 (fun a=>Code.wp _ _ _ a _) ?_;clear hI1 a1;iterate 24 (intro _)
  intro i v t hrel
  show Code.wp _ _ _ _ _;obtain ⟨h1,h2,h3,hown,hb⟩:=hrel;have H3:=ι h3;clear h3;by_cases hi:i<s.length
  ·have hlt:=s[i].toNat_lt;have hq:IntKind.u8.wrap ((s[i].toNat:Int) / 16)=(s[i].toNat:Int) / 16:=IntWalk.u8_in _ (by omega);have HE:Hid (t++ [s[i] / 16,s[i] % 16]=Nib.of (s.take (i+1))):=ι (by
    rw [List.take_succ_eq_append_getElem hi,Nib.of_snoc,H3.out])
   have hand:=u8_and15 s[i];clear H3;go_wp2
   go_region_law (refine step_append_new wr1 5 [.int .u8 ((s[i].toNat:Int) / 16),.int .u8 ((s[i].toNat:Int) % 16)] rfl _ _ 118 rfl w.heap.size 1 1 _ info_byte Tryz.underlying118 rfl (by decide) v _ _ rfl hown 2 2 rfl rfl (by simp [Value.oneCell']) (by simp only [maxLen]; omega) (by omega) w.heap.size w hb (Nat.le_refl _) hb.size ?_; intro v1 w1 hown1 hb1 _ _ _)
   all_goals go_wp2
   all_goals (refine Handed.intro (s.length - (i+1)) ?_ (hJ1 _ _ _ (fun Φ hΦ=>hΦ (i+1) (v1) (t++ [s[i] / 16,s[i] % 16]) ?_)))
   any_goals omega
   all_goals exact ⟨by omega,by simp; omega,HE.out,by simpa [bvals,UInt8.toNat_div,UInt8.toNat_mod,Nat.mul_add] using hown1,hb1⟩
  ·obtain ⟨A,c,rfl,hr, -, -⟩:=own_form hown;have hconv:=conv_reads _ _ _ _ c t hr;have E2:Hid (t=Nib.of s):=ι (by rw [H3.out,List.take_of_length_le (by omega)]);clear H3;go_wp2
   go_ret
   exact ⟨ret_string (by rw [E2.out]),hb⟩
theorem nib_Fit (s:List UInt8) (w:World) (hs:s.length≤1048576):
  Calls Tryz.prog 204 #[s] w fun e w'=>e= .returned (.bool (Nib.fit s))∧w=w':=by
 go_enter Tryz.func204,Tryz.ntmps204
 go_wp2
 refine wp_loop_ghost_k (fun k a wr=>∀ Φ:Act→Prop,(∀ ⦃s1 s2 s3 s4 s7 s8 s9 s0 s5 s6 a0:Value⦄ (i:Nat),(i+k=s.length∧Nib.fit (s.take i)=true∧wr=w)→Φ {tmps:=#[.string ⟨s.toArray⟩,s1,s2,s3,s4,.int .i64 s.length,.int .i64 i,s7,s8,s9,s0,s5,s6,a0],defers:= []})→Φ a) (s.length) ?_ ?_
 ·refine fun Φ hΦ=>hΦ (0) ?_;exact ⟨by omega,rfl,rfl⟩
 ·intro k1 a1 wr1 hI1 J1 K1 hJ1 hK1;refine hI1 (fun a=>Code.wp _ _ _ a _) ?_;clear hI1 a1;iterate 11 (intro _)
  intro i hrel
  show Code.wp _ _ _ _ _;obtain ⟨h1,h2,rfl⟩:=hrel;have H2:=ι h2;clear h2;by_cases hi:i<s.length
  ·have hlt:=s[i].toNat_lt;by_cases hc:s[i]≤15
   ·have hq:(s[i].toNat:Int)≤15:=by rw [UInt8.le_iff_toNat_le] at hc; simp at hc; omega
    have HE:Hid (Nib.fit (s.take (i+1))=true):=ι (by rw [Nib.fit_take _ _ hi,H2.out]; simpa using hc);clear hc H2;go_wp2
    refine Handed.intro (s.length - (i+1)) ?_ (hJ1 _ _ _ (fun Φ hΦ=>hΦ (i+1) ?_))
    ·omega
    ·exact ⟨by omega,HE.out,rfl⟩
   ·have hq:15<(s[i].toNat:Int):=by rw [UInt8.le_iff_toNat_le] at hc; simp at hc; omega
    have HE:Hid (Nib.fit s=false):=ι (Nib.fit_false hi hc);clear hc H2;go_wp2
    go_ret
    exact ⟨by rw [HE.out]; rfl,rfl⟩
  ·have HE:Hid (Nib.fit s=true):=ι (by have:=H2.out; rwa [List.take_of_length_le (by omega)] at this);clear H2;go_wp2
   go_ret
   exact ⟨by rw [HE.out]; rfl,rfl⟩
theorem nib_Common (x y:List UInt8) (w:World) (hx:x.length≤4194304) (hy:y.length≤4194304):
  Calls Tryz.prog 97 #[x,y] w fun e w'=>e= .returned (.int .i64 (Nib.common x y))∧Below w.heap.size w w':=by
 go_enter Tryz.func97,Tryz.ntmps97
 go_wp2
 refine wp_loop_ghost_k (fun k a wr=>∀ Φ:Act→Prop,(∀ ⦃s2 s3 s4 s6 s7 s8 s9 s0 s1 s5 a0 a2 a3 a4 a5 a6 a7 a8 a9 b0 b1 b2 b3 b4 b5:Value⦄ (i:Nat),(i+k=x.length∧i≤Nib.common x y∧Below w.heap.size w wr)→Φ {tmps:=#[.string ⟨x.toArray⟩,.string ⟨y.toArray⟩,s2,s3,s4,.int .i64 i,s6,s7,s8,s9,s0,s1,s5,a0,a2,a3,a4,a5,a6,a7,a8,a9,b0,b1,b2,b3,b4,b5],defers:= []})→Φ a) (x.length) ?_ ?_
 ·refine fun Φ hΦ=>hΦ (0) ?_;exact ⟨by omega,by omega,Below.refl _ _⟩
 ·intro k1 a1 wr1 hI1 J1 K1 hJ1 hK1;refine hI1 (fun a=>Code.wp _ _ _ a _) ?_;clear hI1 a1;iterate 25 (intro _)
  intro i hrel
  show Code.wp _ _ _ _ _;obtain ⟨h1,h2,hb⟩:=hrel;have hcl:=Nib.common_le x y;have fin:∀ j,j=i→¬(i+1≤Nib.common x y)→Ending.returned (.int .i64 ((j:Nat):Int))= .returned (.int .i64 ((Nib.common x y:Nat):Int)):=fun j e h=>ret_int (by omega);have Fin:=ι fin;clear fin;by_cases hi:i<x.length
  ·by_cases hj:i<y.length
   ·have hst:=Nib.common_step h2 hi hj;by_cases hc:x[i]=y[i]
    ·have hq:((x[i].toNat:Int)==(y[i].toNat:Int))=true:=by rw [hc]; simp
     have h3:=hst.2 hc;clear hst hc;go_wp2
     go_quiet (fail)
     go_wp2
     refine Handed.intro (x.length - (i+1)) ?_ (hJ1 _ _ _ (fun Φ hΦ=>hΦ (i+1) ?_))
     ·omega
     ·exact ⟨by omega,h3,below_drewN hb _⟩
    ·have hq:((x[i].toNat:Int)==(y[i].toNat:Int))=false:=by
      rw [beq_eq_false_iff_ne]; intro e; exact hc (UInt8.toNat_inj.1 (by omega))
     have h3:=mt hst.1 hc;have F:=ι (Fin.out i rfl h3);clear hst hc h3 Fin;go_wp2
     go_quiet (fail)
     go_wp2
     go_ret
     exact ⟨F.out,below_drewN hb _⟩
   ·have F:=ι (Fin.out i rfl (by omega));have hq:decide ((i:Int)<(y.length:Int))=false:=by simp; omega
    clear Fin;go_wp2
    go_quiet (fail)
    go_wp2
    go_ret
    exact ⟨F.out,below_drewN hb _⟩
  ·have F:=ι (Fin.out i rfl (by omega));have hq:decide ((i:Int)<(x.length:Int))=false:=by simp; omega
   clear Fin;go_wp2
   go_quiet (fail)
   go_wp2
   go_ret
   exact ⟨F.out,below_drewN hb _⟩
theorem nib_joined (s:List UInt8) (w:World) (hs:s.length≤1048576) (hf:Nib.fit s=true):
  Calls Tryz.prog 206 #[s] w fun e w'=>e= .returned (.string ⟨(Nib.joined s).toArray⟩)∧Below w.heap.size w w':=by
 obtain ⟨i0,hi0,hz0,hz1,hz2⟩:=info_parts info_byte;have hfit:∀ i,(h:i<s.length)→s[i]≤15:=fun i h=>by
  unfold Nib.fit at hf; rw [List.all_eq_true] at hf; simpa using hf s[i] (List.getElem_mem h)
 have HF:=ι hfit;clear hfit hf;go_enter Tryz.func206,Tryz.ntmps206
 go_wp2_with (at_make; refine wpList_make_own _ rfl _ _ 118 rfl w.heap.size 5 i0 _ 1 Tryz.underlying118 hi0 hz0 hz1 .i64 .i64 _ (s.length / 2) rfl rfl (by omega) (by rw [hz2]; omega) (by simp only [maxLen]; omega) (Nat.le_refl _) ?_; intro w1 hown1 hg1)
 have hb1:Below w.heap.size w w1:=(Below.refl _ _).grown hg1 (Nat.le_refl _) (by simp);refine wp_loop_ghost_k (fun k a wr=>∀ Φ:Act→Prop,(∀ ⦃s1 s2 s4 s5 s6 s7 s8 s9 s0 s3 a0 a2 a3 a4 a5 a6 a7 a8 a9 b0 b1 b2 b3 b4 b5 b6 b7 b8:Value⦄ (i:Nat) (v:Value) (t:List UInt8),(i+k=s.length / 2∧t.length=i∧t=Nib.joined (s.take (2*i))∧wr.ownsRow w.heap.size 5 1 v i (bvals t)∧Below w.heap.size w wr)→Φ {tmps:=#[.string ⟨s.toArray⟩,s1,s2,v,s4,s5,s6,s7,s8,s9,s0,.int .i64 (s.length / 2:Nat),.int .i64 i,s3,a0,a2,a3,a4,a5,a6,a7,a8,a9,b0,b1,b2,b3,b4,b5,b6,b7,b8],defers:= []})→Φ a) (s.length / 2) ?_ ?_
 ·refine fun Φ hΦ=>hΦ (0) (_) ([]) ?_;exact ⟨by omega,rfl,rfl,hown1,hb1⟩
 ·intro k1 a1 wr1 hI1 J1 K1 hJ1 hK1;refine hI1 (fun a=>Code.wp _ _ _ a _) ?_;clear hI1 a1;iterate 28 (intro _)
  intro i v t hrel
  show Code.wp _ _ _ _ _;obtain ⟨h1,h2,h3,hown,hb⟩:=hrel;have H3:=ι h3;clear h3;by_cases hi:i<s.length / 2
  ·have h4:2*i+1<s.length:=by omega
   obtain ⟨bb,hbb⟩:∃ bb,bb=s[2*i]*16+s[2*i+1]:=⟨_,rfl⟩
   have q9:=u8_pack s[2*i] s[2*i+1] (HF.out _ _) (HF.out _ _);rw [←hbb] at q9;have HE:Hid (t++ [bb]=Nib.joined (s.take (2*(i+1)))):=ι (by have:=Nib.joined_take s i h4; rw [←H3.out,←hbb] at this; exact this.symm);clear hbb;clear H3;go_wp2
   have q1:IntKind.i64.wrap (2*(i:Int))=2*(i:Int):=IntWalk.i64_in _ (by omega);have q2:IntKind.i64.wrap (2*(i:Int)+1)=2*(i:Int)+1:=IntWalk.i64_in _ (by omega);have q3:(2*(i:Int)).toNat=2*i:=by omega
   have q4:(2*(i:Int)+1).toNat=2*i+1:=by omega
   have q5:2*(i:Int)<(s.length:Int):=by omega
   have q6:2*(i:Int)+1<(s.length:Int):=by omega
   have q7:0≤2*(i:Int):=by omega
   have q8:0≤2*(i:Int)+1:=by omega
   go_region_law (refine step_append_new wr1 5 [.int .u8 (bb.toNat:Int)] rfl _ _ 118 rfl w.heap.size 1 1 _ info_byte Tryz.underlying118 rfl (by decide) v _ _ rfl hown 1 1 rfl rfl (by simp [Value.oneCell']) (by simp only [maxLen]; omega) (by omega) w.heap.size w hb (Nat.le_refl _) hb.size ?_; intro v1 w1 hown1 hb1 _ _ _)
   all_goals go_wp2
   all_goals (refine Handed.intro (s.length / 2 - (i+1)) ?_ (hJ1 _ _ _ (fun Φ hΦ=>hΦ (i+1) (v1) (t++ [bb]) ?_)))
   any_goals omega
   all_goals exact ⟨by omega,by simp; omega,HE.out,by simpa [bvals] using hown1,hb1⟩
  ·obtain ⟨A,c,rfl,hr, -, -⟩:=own_form hown;have hconv:=conv_reads _ _ _ _ c t hr;have E2:Hid (t=Nib.joined s):=ι (by
    rw [H3.out];have e:i=s.length / 2:=by omega
    rw [e]; exact Nib.joined_half s)
   clear H3;go_wp2
   go_ret
   exact ⟨ret_string (by rw [E2.out]),hb⟩
end
section
open Go.RowKit
attribute [local go_sem] ba_get ByteArray.mk_append_mk ByteArray.extract_mk
theorem nib_Pack_bad (s:List UInt8) (leaf:Bool) (w:World) (hs:s.length≤1048576) (hf:Nib.fit s=false):
  Calls Tryz.prog 195 #[s,leaf] w fun e w'=>e= .returned (.tuple #[ε,.int .i64 3])∧Below w.heap.size w w':=by
 have HF:=ι hf;clear hf;go_enter Tryz.func195,Tryz.ntmps195
 go_wp2_with fail
 refine (nib_Fit s _ hs).mono ?_;rintro e w1 ⟨rfl,rfl⟩;rw [HF.out];go_wp2
 go_ret2
 exact ⟨rfl,Below.refl _ _⟩
theorem z_3 {P:Prop} (h:P:=by
 go_wp2_with fail
 go_region_with (go_at_call 206; refine (nib_joined s _ hs HF.out).mono ?_; rintro e w1 ⟨rfl,hb⟩; try simp only [World.size_drew,World.size_alloc] at hb; have hbw:Below w.heap.size w w1:=(by first|exact hb|exact hb.start|exact ((Below.refl _ _).alloc (Nat.le_refl _) _).drew.trans (hb.mono (by simp))); have hsz1:=hbw.size)
 all_goals go_wp2
 all_goals go_ret2
 all_goals exact ⟨rfl,by go_grown⟩):P:=h
theorem nib_Pack_even (s:List UInt8) (leaf:Bool) (w:World) (hs:s.length≤1048576) (hf:Nib.fit s=true) (hp:s.length % 2=0):
  Calls Tryz.prog 195 #[s,leaf] w fun e w'=>e= .returned (.tuple #[.string ⟨((if leaf then 32 else 0)::Nib.joined s).toArray⟩,ζ])∧Below w.heap.size w w':=by
 have HF:=ι hf;clear hf;have hq:(((s.length:Nat):Int) % 2==1)=false:=by rw [beq_eq_false_iff_ne]; omega
 have hjl:=Nib.joined_length s;have HJ:(Nib.joined s).length≤1048576:=by omega
 clear hjl;cases leaf
 ·go_enter Tryz.func195,Tryz.ntmps195
  go_wp2_with fail
  refine (nib_Fit s _ hs).mono ?_;rintro e w1 ⟨rfl,rfl⟩;rw [HF.out];have hc1:=fun W=>conv1 W 0 (by omega) (by omega);have hc2:=fun W=>conv1d W 0 (by omega) (by omega);have hc3:=fun w1=>conv1_below w w1 0 (by omega) (by omega);exact z_3
 ·go_enter Tryz.func195,Tryz.ntmps195
  go_wp2_with fail
  refine (nib_Fit s _ hs).mono ?_;rintro e w1 ⟨rfl,rfl⟩;rw [HF.out];have hc1:=fun W=>conv1 W 32 (by omega) (by omega);have hc2:=fun W=>conv1d W 32 (by omega) (by omega);have hc3:=fun w1=>conv1_below w w1 32 (by omega) (by omega);exact z_3
theorem nib_Pack_odd (a:UInt8) (s:List UInt8) (leaf:Bool) (w:World) (hs:s.length≤1048575) (hf:Nib.fit (a::s)=true) (hp:(a::s).length % 2=1):
  Calls Tryz.prog 195 #[.string ⟨(a::s).toArray⟩,leaf] w fun e w'=>e= .returned (.tuple #[.string ⟨((if leaf then 48+a else 16+a)::Nib.joined s).toArray⟩,ζ])∧Below w.heap.size w w':=by
 have ha:a≤15:=by unfold Nib.fit at hf; simp at hf; exact hf.1
 have hf2:Nib.fit s=true:=by unfold Nib.fit at hf ⊢; simp at hf ⊢; exact hf.2
 have HF:=ι hf;have HF2:=ι hf2;clear hf hf2;have hp':(s.length+1) % 2=1:=by simpa using hp
 have hq:((((s.length:Nat):Int)+1) % 2==1)=true:=by rw [beq_iff_eq]; omega
 have hjl:=Nib.joined_length s;have HJ:(Nib.joined s).length≤1048576:=by omega
 obtain ⟨o1,o2,o3⟩:=u8_or16 a ha;have ha':a.toNat≤15:=by rw [UInt8.le_iff_toNat_le] at ha; simpa using ha
 have HS:(a::s).length≤1048576:=by simp; omega
 have e16:UInt8.ofNat (16+a.toNat)=16+a:=by simp
 have e48:UInt8.ofNat (48+a.toNat)=48+a:=by simp
 have E:=ι (And.intro e16 e48);clear hjl hp hp' ha e16 e48;generalize hb16:(16+a.toNat:Nat)=b16 at o1 o2 o3;generalize hb48:(48+a.toNat:Nat)=b48 at o3;have h16:b16<256:=by omega
 have h48:b48<256:=by omega
 have B:=ι (And.intro hb16 hb48);clear hb16 hb48;cases leaf
 ·go_enter Tryz.func195,Tryz.ntmps195
  go_wp2_with fail
  refine (nib_Fit (a::s) _ HS).mono ?_;rintro e w1 ⟨rfl,rfl⟩;rw [HF.out];have hc1:=fun W=>conv1 W (b16:Int) (by omega) (by omega);have hc2:=fun W=>conv1d W (b16:Int) (by omega) (by omega);have hc3:=fun w1=>conv1_below w w1 (b16:Int) (by omega) (by omega);go_wp2_with fail
  go_region_with (go_at_call 206; refine (nib_joined s _ (by omega) HF2.out).mono ?_; rintro e w1 ⟨rfl,hb⟩; try simp only [World.size_drew,World.size_alloc] at hb; have hbw:Below w.heap.size w w1:=(by first|exact hb|exact hb.start|exact ((Below.refl _ _).alloc (Nat.le_refl _) _).drew.trans (hb.mono (by simp))); have hsz1:=hbw.size)
  all_goals go_wp2
  all_goals go_ret2
  all_goals have e1:UInt8.ofNat b16=16+a:=by rw [←B.out.1]; exact E.out.1
  all_goals exact ⟨by rw [e1]; rfl,by go_grown⟩
 ·go_enter Tryz.func195,Tryz.ntmps195
  go_wp2_with fail
  refine (nib_Fit (a::s) _ HS).mono ?_;rintro e w1 ⟨rfl,rfl⟩;rw [HF.out];have hc1:=fun W=>conv1 W (b48:Int) (by omega) (by omega);have hc2:=fun W=>conv1d W (b48:Int) (by omega) (by omega);have hc3:=fun w1=>conv1_below w w1 (b48:Int) (by omega) (by omega);go_wp2_with fail
  go_region_with (go_at_call 206; refine (nib_joined s _ (by omega) HF2.out).mono ?_; rintro e w1 ⟨rfl,hb⟩; try simp only [World.size_drew,World.size_alloc] at hb; have hbw:Below w.heap.size w w1:=(by first|exact hb|exact hb.start|exact ((Below.refl _ _).alloc (Nat.le_refl _) _).drew.trans (hb.mono (by simp))); have hsz1:=hbw.size)
  all_goals go_wp2
  all_goals go_ret2
  all_goals have e1:UInt8.ofNat b48=48+a:=by rw [←B.out.2]; exact E.out.2
  all_goals exact ⟨by rw [e1]; rfl,by go_grown⟩
theorem nib_Pack (s:List UInt8) (leaf:Bool) (w:World) (hs:s.length≤1048575):
  Calls Tryz.prog 195 #[s,leaf] w fun e w'=>e= .returned (.tuple #[.string ⟨(Nib.pack s leaf).1.toArray⟩,.int .i64 (Nib.pack s leaf).2])∧Below w.heap.size w w':=by
 by_cases hf:Nib.fit s=true
 ·by_cases hp:s.length % 2=1
  ·obtain ⟨a,r,rfl⟩:∃ a r,s=a::r:=by
    cases s with
    |nil=>simp at hp
    |cons a r=>exact ⟨a,r,rfl⟩
   have e:Nib.pack (a::r) leaf=((if leaf then 48+a else 16+a)::Nib.joined r,0):=by
    unfold Nib.pack; rw [if_pos hf,Nib.packed_odd hp]
   rw [e];exact nib_Pack_odd a r leaf w (by simp at hs; omega) hf hp
  ·have e:Nib.pack s leaf=((if leaf then 32 else 0)::Nib.joined s,0):=by
    unfold Nib.pack; rw [if_pos hf,Nib.packed_even (by omega)]
   rw [e];exact nib_Pack_even s leaf w (by omega) hf (by omega)
 ·have e:Nib.pack s leaf=([],3):=by unfold Nib.pack; rw [if_neg hf]
  rw [e];exact nib_Pack_bad s leaf w (by omega) (by simpa using hf)
theorem nib_Unpack_nil (w:World):
  Calls Tryz.prog 182 #[ε] w fun e w'=>e= .returned (.tuple #[ε,false,.int .i64 3])∧Below w.heap.size w w':=by
 go_enter Tryz.func182,Tryz.ntmps182
 go_wp2
 go_ret3
 exact ⟨rfl,Below.refl _ _⟩
theorem nib_Unpack_cons (b:UInt8) (r:List UInt8) (w:World) (hs:r.length≤2000):
  Calls Tryz.prog 182 #[.string ⟨(b::r).toArray⟩] w fun e w'=>e= .returned (.tuple #[.string ⟨(Nib.unpack (b::r)).1.toArray⟩,.bool (Nib.unpack (b::r)).2.1,.int .i64 (Nib.unpack (b::r)).2.2])∧Below w.heap.size w w':=by
 have hlt:=b.toNat_lt;have h15:=u8_and15 b;obtain ⟨a1,a2⟩:=u8_and12 b;have hq:IntKind.u8.wrap ((b.toNat:Int) / 16)=(b.toNat:Int) / 16:=IntWalk.u8_in _ (by omega);have hol:=Nib.of_length r;have HO:(Nib.of r).length≤4000:=by omega
 have hc:=fun W=>conv1 W ((b.toNat:Int) % 16) (by omega) (by omega);clear hol;obtain ⟨m1,hm1⟩:∃ m1,m1=b.toNat / 16 % 2:=⟨_,rfl⟩
 obtain ⟨m2,hm2⟩:∃ m2,m2=b.toNat / 16 / 2 % 2*2:=⟨_,rfl⟩
 rw [←hm1] at a1;rw [←hm2] at a2;rw [Nib.unpack_cons];by_cases h1:3<b.toNat / 16
 ·have hk:3<(b.toNat:Int) / 16:=by omega
  rw [if_pos (.inl h1)];clear h1 hm1 hm2;go_enter Tryz.func182,Tryz.ntmps182
  go_wp2
  go_quiet (fail)
  go_wp2
  go_ret3
  exact ⟨rfl,below_drewN (Below.refl _ _) _⟩
 ·have hk:¬3<(b.toNat:Int) / 16:=by omega
  have ho2:(((m2:Nat):Int) !=0)=decide (2≤b.toNat / 16):=by
   by_cases h:2≤b.toNat / 16
   ·rw [decide_eq_true h,bne_iff_ne]; omega
   ·rw [decide_eq_false h]; simp; omega
  by_cases h2:b.toNat / 16 % 2=1
  ·rw [if_neg (by omega),if_pos h2];have ho1:(((m1:Nat):Int) !=0)=true:=by rw [bne_iff_ne]; omega
   have O2:=ι ho2;clear h1 h2 hm1 hm2 ho2;go_enter Tryz.func182,Tryz.ntmps182
   go_wp2
   go_quiet (fail)
   go_wp2_with fail
   refine (nib_Of r _ (by omega)).mono ?_;rintro e w1 ⟨rfl,hb⟩;go_wp2
   go_ret3
   rw [←O2.out];exact ⟨rfl,((hb.trans ((Below.refl _ _).alloc hb.size _)).start_drewN)⟩
  ·have ho1:(((m1:Nat):Int) !=0)=false:=by simp; omega
   have O2:=ι ho2;by_cases h3:b.toNat % 16=0
   ·rw [if_neg (by omega),if_neg h2];have hz:(((b.toNat:Int) % 16) !=0)=false:=by simp; omega
    clear h1 h2 hm1 hm2 ho2 h3;go_enter Tryz.func182,Tryz.ntmps182
    go_wp2
    go_quiet (fail)
    go_wp2_with fail
    refine (nib_Of r _ (by omega)).mono ?_;rintro e w1 ⟨rfl,hb⟩;go_wp2
    go_ret3
    rw [←O2.out];exact ⟨rfl,hb.start_drewN⟩
   ·rw [if_pos (.inr ⟨by omega,h3⟩)];have hz:(((b.toNat:Int) % 16) !=0)=true:=by rw [bne_iff_ne]; omega
    clear h1 h2 hm1 hm2 ho2 h3;go_enter Tryz.func182,Tryz.ntmps182
    go_wp2
    go_quiet (fail)
    go_wp2
    go_ret3
    exact ⟨rfl,below_drewN (Below.refl _ _) _⟩
theorem nib_Unpack (s:List UInt8) (w:World) (hs:s.length≤2001):
  Calls Tryz.prog 182 #[s] w fun e w'=>e= .returned (.tuple #[.string ⟨(Nib.unpack s).1.toArray⟩,.bool (Nib.unpack s).2.1,.int .i64 (Nib.unpack s).2.2])∧Below w.heap.size w w':=by
 cases s with
 |nil=>exact nib_Unpack_nil w
 |cons b r=>exact nib_Unpack_cons b r w (by simp at hs; omega)
end
section
open Go.RowKit Go.Instr
attribute [local go_sem] ba_get ByteArray.mk_append_mk
def pathOk (p:List UInt8) (least:Nat):Bool:=Nib.fit p && decide (least≤p.length∧p.length≤16)
theorem node_path (p:List UInt8) (least:Nat) (hl:least≤1) (hp:p.length≤1048576) (w:World):
  Calls Tryz.prog 183 #[p,least] w fun e w'=>e= .returned (.bool (pathOk p least))∧w=w':=by
 have HF:=nib_Fit p w hp;have HP:Hid (∀ b w',pathOk p least=b→w=w'→(fun e w'=>e=Ending.returned (.bool (pathOk p least))∧w=w') (Ending.returned (.bool b)) w'):=ι (fun b w' e hb=>⟨by rw [e],hb⟩);generalize (fun e w'=>e=Ending.returned (.bool (pathOk p least))∧w=w')=P at HP ⊢;unfold pathOk at HP;cases hf:Nib.fit p with
 |false=>
  rw [hf] at HF HP;go_enter Tryz.func183,Tryz.ntmps183
  go_wp2_with fail
  refine HF.mono ?_;rintro e w1 ⟨rfl,rfl⟩;go_wp2
  exact HP.out _ _ (by simp) rfl
 |true=>
  rw [hf] at HF HP;by_cases h1:least≤p.length
  ·have h1':(least:Int)≤p.length:=by omega
   by_cases h2:p.length≤16
   ·have h2':(p.length:Int)≤16:=by omega
    go_enter Tryz.func183,Tryz.ntmps183
    go_wp2_with fail
    refine HF.mono ?_;rintro e w1 ⟨rfl,rfl⟩;go_wp2
    exact HP.out _ _ (by simp [h1,h2]) rfl
   ·have h2':((p.length:Int)≤16)=False:=by simp; omega
    go_enter Tryz.func183,Tryz.ntmps183
    go_wp2_with fail
    refine HF.mono ?_;rintro e w1 ⟨rfl,rfl⟩;go_wp2
    exact HP.out _ _ (by simp [h2]) rfl
  ·have h1':((least:Int)≤p.length)=False:=by simp; omega
   go_enter Tryz.func183,Tryz.ntmps183
   go_wp2_with fail
   refine HF.mono ?_;rintro e w1 ⟨rfl,rfl⟩;go_wp2
   exact HP.out _ _ (by simp [h1]) rfl
def strv (l:List (List UInt8)):List Value:=l.map fun s=> .string ⟨s.toArray⟩
theorem strv_length (l:List (List UInt8)):(strv l).length=l.length:=by simp [strv]
theorem strv_at {l:List (List UInt8)} {i:Nat} (h:i<l.length):(strv l)[i]?=some (.string ⟨l[i].toArray⟩):=by
 simp [strv,h]
def sumsOk (l:List (List UInt8)):Bool:=l.all fun s=>decide (s.length=32)
theorem node_sums (l:List (List UInt8)) (hl:l.length≤1000) (w:World) (A:Option Addr) (c:Nat) (HR:Reads w w.heap.size 1 A l.length (strv l)):
  Calls Tryz.prog 184 #[.slice A l.length c] w fun e w'=>e= .returned (.bool (sumsOk l))∧w=w':=by
 go_enter Tryz.func184,Tryz.ntmps184
 go_wp2
 refine wp_loop_ghost_k (fun k a wr=>∀ Φ:Act→Prop,(∀ ⦃s0 s1 s2 s3 s4 s8 s9 s5 s6 s7 a0 a2:Value⦄ (i:Nat),(i+k=l.length∧sumsOk (l.take i)=true∧wr=w)→Φ {tmps:=#[s0,s1,s2,s3,s4,.slice A l.length c,.int .i64 l.length,.int .i64 i,s8,s9,s5,s6,s7,a0,a2],defers:= []})→Φ a) (l.length) ?_ ?_
 ·refine fun Φ hΦ=>hΦ (0) ?_;exact ⟨by omega,rfl,rfl⟩
 ·intro k1 a1 wr1 hI1 J1 K1 hJ1 hK1;refine hI1 (fun a=>Code.wp _ _ _ a _) ?_;clear hI1 a1;iterate 12 (intro _)
  intro i hrel
  show Code.wp _ _ _ _ _;obtain ⟨h1,h2,rfl⟩:=hrel;by_cases hi:i<l.length
  ·obtain ⟨ad,rfl,hbl,hcell⟩:=HR.2 (by omega);have q0:=hcell i _ (strv_at hi);have hi1:(i:Int)<l.length:=by omega
   have hs:sumsOk (l.take (i+1))=decide (l[i].length=32):=by
    rw [List.take_succ_eq_append_getElem hi];unfold sumsOk at *;rw [List.all_append,h2];simp
   have hf:decide (l[i].length=32)=false→sumsOk l=false:=fun h=>by
    rw [Bool.eq_false_iff];intro hc;unfold sumsOk at hc;rw [List.all_eq_true] at hc
    have:=hc _ (List.getElem_mem hi)
    rw [h] at this;cases this
   clear hcell HR;generalize l[i]=s at *;by_cases h32:s.length=32
   ·have e32:((s.length:Int)=32)=True:=by simp; omega
    have T:=ι (show sumsOk (l.take (i+1))=true from hs.trans (by simp [h32]));clear hs hf;go_wp2
    refine Handed.intro (l.length - (i+1)) ?_ (hJ1 _ _ _ (fun Φ hΦ=>hΦ (i+1) ?_))
    ·omega
    ·exact ⟨by omega,T.out,rfl⟩
   ·have e32:((s.length:Int)=32)=False:=by simp; omega
    have T:=ι (hf (by simp [h32]));clear hs hf;go_wp2
    go_ret
    exact ⟨ret_bool T.out.symm,rfl⟩
  ·have e:l.take i=l:=List.take_of_length_le (by omega);have hi2:((i:Int)<l.length)=False:=by simp; omega
   rw [e] at h2;have E2:=ι h2;clear h2 e;go_wp2
   go_ret
   exact ⟨ret_bool E2.out.symm,rfl⟩
end
end Go.Proofs.YtnelhjfjkkdoaaaGreatDoor