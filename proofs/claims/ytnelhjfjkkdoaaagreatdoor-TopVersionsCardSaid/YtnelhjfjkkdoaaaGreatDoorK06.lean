import Derived.Test.YtnelhjfjkkdoaaaGreatDoorK05
set_option linter.unusedSimpArgs false
set_option linter.unusedVariables false
set_option maxHeartbeats 4000000
set_option maxRecDepth 100000
namespace Go.Proofs.YtnelhjfjkkdoaaaGreatDoor
section
open Go.RowKit Go.Instr
attribute [local go_sem] ba_get ByteArray.mk_append_mk
def Rdr (w:World) (g:Nat) (s:List UInt8 × Nat):Prop:=∃ all a,RdB w g all a s.2∧a≤all.length∧all.length≤1000000∧all.drop a=s.1
theorem Rdr.lt {w:World} {g:Nat} {s:List UInt8 × Nat} (h:Rdr w g s):g<w.heap.size:=by
 obtain ⟨all,a,h1,_⟩:=h;exact Blk.lt h1
theorem Rdr.drew {w:World} {g:Nat} {s:List UInt8 × Nat} (h:Rdr w g s):Rdr w.drew g s:=h
def RdrEnd (w:World) (g:Nat) (v:Value) (s:List UInt8 × Nat) (e:Ending) (w':World):Prop:=e= .returned v∧Rdr w' g s∧w.grownBy w' (some g)
def numS (s:List UInt8 × Nat):Nat × (List UInt8 × Nat):=if s.2≠0 then (0,s) else if (numT s.1).2.2=0 then ((numT s.1).1,((numT s.1).2.1,0)) else (0,(s.1,(numT s.1).2.2))
def txtS (s:List UInt8 × Nat) (most:Nat):List UInt8 × (List UInt8 × Nat):=if s.2≠0 then ([],s) else if (txtT s.1 most).2.2=0 then ((txtT s.1 most).1,((txtT s.1 most).2.1,0)) else ([],(s.1,(txtT s.1 most).2.2))
def endS (s:List UInt8 × Nat):Nat:=if s.2=0∧s.1≠ [] then 3 else s.2
theorem code_number_no (w:World) (g:Nat) (all:List UInt8) (a c:Nat) (h:RdB w g all a c) (hc:c≠0):
  Calls Tryz.prog 119 #[.pointer (some ⟨g,0,none⟩)] w (RdEnd w g all (.tuple #[ζ,c]) a c):=by
 obtain ⟨c0,c1,c2,f1,f2⟩:=h.cells;have HH:=ι h;have HP:Hid (∀ w',RdB w' g all a c→w.grownBy w' (some g)→RdEnd w g all (.tuple #[ζ,c]) a c (.returned (.tuple #[ζ,c])) w'):=ι (fun w' a b=>⟨rfl,a,b⟩);generalize RdEnd w g all (.tuple #[ζ,c]) a c=P at HP ⊢;have hc1:((c:Int) !=0)=true:=by simp; exact hc
 clear h hc;go_enter Tryz.func119,Tryz.ntmps119
 go_wp2
 go_quiet (fail)
 go_wp2
 exact HP.out _ HH.out (only_drewN (World.grownBy.refl _ _) _)
theorem code_REnd (w:World) (g:Nat) (s:List UInt8 × Nat) (h:Rdr w g s):
  Calls Tryz.prog 81 #[.pointer (some ⟨g,0,none⟩)] w (RdrEnd w g (.int .i64 (endS s:Int)) (s.1,endS s)):=by
 obtain ⟨rest,c⟩:=s;obtain ⟨all,a,hB,ha,hl,hr⟩:=h;simp only at hB hr;subst hr;have HP:Hid (∀ (c':Nat) w',endS (all.drop a,c)=c'→RdB w' g all a c'→w.grownBy w' (some g)→RdrEnd w g (.int .i64 (endS (all.drop a,c):Int)) (all.drop a,endS (all.drop a,c)) (.returned (.int .i64 (c':Int))) w'):=ι (fun c' w' e h1 h2=>by rw [e]; exact ⟨rfl,⟨all,a,h1,ha,hl,rfl⟩,h2⟩);generalize RdrEnd w g (.int .i64 (endS (all.drop a,c):Int)) (all.drop a,endS (all.drop a,c))=P at HP ⊢;obtain ⟨c0,c1,c2,f1,f2⟩:=hB.cells;have HB:=ι hB;have HLf:=ι (code_Left w g all a c hB hl ha);by_cases hz:all.length - a=0
 ·have hd:all.drop a= []:=List.drop_of_length_le (by omega);have HS:Hid (endS (all.drop a,c)=c):=ι (by simp [endS,hd]);rw [hz] at HLf;clear hB ha hl hd hz;go_enter Tryz.func81,Tryz.ntmps81
  go_wp2_with fail
  refine HLf.out.mono ?_;rintro e w1 ⟨rfl,h1,h4⟩;obtain ⟨d0,d1,d2,_,_⟩:=h1.cells;have HF:=ι (HP.out c w1 HS.out h1 h4);clear h1 h4;go_wp2_with fail
  exact HF.out
 ·have hd:all.drop a≠ []:=fun e=>by have:=congrArg List.length e; rw [List.length_drop] at this; exact hz this
  have HS:Hid (endS (all.drop a,c)=if c=0 then 3 else c):=ι (by simp [endS,hd]);have hzI:(0:Int)<((all.length - a:Nat):Int):=by omega
  clear hB ha hl hd hz;generalize ((all.length - a:Nat):Int)=d at *;go_enter Tryz.func81,Tryz.ntmps81
  go_wp2_with fail
  refine HLf.out.mono ?_;rintro e w1 ⟨rfl,h1,h4⟩;obtain ⟨d0,d1,d2,_,_⟩:=h1.cells;have HR:=ι (code_refused w1 g all a c h1 a 3);have HG:=ι h4;clear h1 h4;go_wp2_with fail
  refine HR.out.mono ?_;rintro e w2 ⟨rfl,h5,h6⟩;rw [ite_self] at h5;obtain ⟨k0,k1,k2,_,_⟩:=h5.cells;have HF:=ι (HP.out _ w2 HS.out h5 (HG.out.trans h6));clear h5 h6 HS HP HR;generalize (if c=0 then 3 else c)=c' at *;go_wp2_with fail
  exact HF.out
def TextREnd (w:World) (g:Nat) (all:List UInt8) (r:List UInt8 × List UInt8 × Nat) (e:Ending) (w':World):Prop:=
 ∃ a',e= .returned (.tuple #[r.1,r.2.2])∧RdB w' g all a' 0∧a'≤all.length∧(r.2.2=0→all.drop a'=r.2.1)∧w.grownBy w' (some g)
theorem code_text (w:World) (g:Nat) (all:List UInt8) (a:Nat) (h:RdB w g all a 0) (hl:all.length≤1000000) (ha:a≤all.length) (most:Nat) (hm:most≤1000000):
  Calls Tryz.prog 154 #[.pointer (some ⟨g,0,none⟩),most] w (TextREnd w g all (txtT (all.drop a) most)):=by
 have HP:Hid (∀ (t:List UInt8) rest c a' w',txtT (all.drop a) most=(t,rest,c)→RdB w' g all a' 0→a'≤all.length→(c=0→all.drop a'=rest)→w.grownBy w' (some g)→TextREnd w g all (txtT (all.drop a) most) (.returned (.tuple #[t,c])) w'):=ι (fun t rest c a' w' e h1 h2 h3 h4=>by
  unfold TextREnd;rw [e];exact ⟨a',rfl,h1,h2,h3,h4⟩)
 generalize TextREnd w g all (txtT (all.drop a) most)=P at HP ⊢;have HN:=ι (code_number w g all a h hl ha);have HL:=ι hl;have HX:Hid (txtT (all.drop a) most=if (numT (all.drop a)).2.2≠0 then ([],[],(numT (all.drop a)).2.2) else if most<(numT (all.drop a)).1 then ([],[],2) else if (numT (all.drop a)).2.1.length<(numT (all.drop a)).1 then ([],[],20)
  else ((numT (all.drop a)).2.1.take (numT (all.drop a)).1,(numT (all.drop a)).2.1.drop (numT (all.drop a)).1,0)):=ι rfl
 clear h hl ha;cases he:(numT (all.drop a)).2.2 with
 |zero=>
  have hlt:=numT_lt (s:=all.drop a) (r:=(numT (all.drop a)).2.1) (n:=(numT (all.drop a)).1) (by rw [←he]);unfold NumbEnd at HN;rw [he] at HN HX;simp only [ne_eq,not_true_eq_false,if_false] at HX;clear he;generalize (numT (all.drop a)).1=n at *;generalize (numT (all.drop a)).2.1=r at *;by_cases hmn:most<n
  ·have HX1:Hid (txtT (all.drop a) most=([],[],2)):=ι (by rw [HX.out,if_pos hmn]);have hI:(most:Int)<n:=by omega
   clear HX hmn;go_enter Tryz.func154,Tryz.ntmps154
   go_wp2_with fail
   refine HN.out.mono ?_;rintro e w1 ⟨a',rfl,h1,h2,h3,h4⟩;have HF:=ι (HP.out [] [] 2 a' w1 HX1.out h1 h2 (fun e=>by cases e) h4);clear h1 h2 h3 h4;go_wp2_with fail
   exact HF.out
  ·have hI:((most:Int)<n)=False:=by simp; omega
   by_cases hrn:r.length<n
   ·have HX1:Hid (txtT (all.drop a) most=([],[],20)):=ι (by rw [HX.out,if_neg hmn,if_pos hrn]);have HRn:Hid (¬n≤r.length):=ι (by omega);clear HX hmn hrn;go_enter Tryz.func154,Tryz.ntmps154
    go_wp2_with fail
    refine HN.out.mono ?_;rintro e w1 ⟨a',rfl,h1,h2,h3,h4⟩;have HT:=ι (code_take w1 g all a' 0 h1 HL.out h2 n hlt);rw [h3 (by first|exact trivial|rfl),if_neg HRn.out,if_neg HRn.out,decide_eq_false HRn.out] at HT;have HG:=ι (And.intro h2 h4);clear h1 h2 h3 h4;go_wp2_with fail
    refine HT.out.mono ?_;rintro e w2 ⟨rfl,h5,h6⟩;have HF:=ι (HP.out [] [] 20 a' w2 HX1.out h5 HG.out.1 (fun e=>by cases e) (HG.out.2.trans h6));clear h5 h6;go_wp2_with fail
    exact HF.out
   ·have HX1:Hid (txtT (all.drop a) most=(r.take n,r.drop n,0)):=ι (by rw [HX.out,if_neg hmn,if_neg hrn]);have HRn:Hid (n≤r.length):=ι (by omega);clear HX hmn hrn;go_enter Tryz.func154,Tryz.ntmps154
    go_wp2_with fail
    refine HN.out.mono ?_;rintro e w1 ⟨a',rfl,h1,h2,h3,h4⟩;have HD:=ι (h3 (by first|exact trivial|rfl));have HT:=ι (code_take w1 g all a' 0 h1 HL.out h2 n hlt);rw [HD.out,if_pos HRn.out,if_pos HRn.out,decide_eq_true HRn.out] at HT;have HG:=ι (And.intro h2 h4);clear h1 h2 h3 h4;go_wp2_with fail
    refine HT.out.mono ?_;rintro e w2 ⟨rfl,h5,h6⟩;have HF:=ι (HP.out (r.take n) (r.drop n) 0 (a'+n) w2 HX1.out h5 (by
     have h0:=congrArg List.length HD.out;rw [List.length_drop] at h0;have h1:=HRn.out;have h2:=HG.out.1;omega) (fun _=>by rw [←HD.out,List.drop_drop]) (HG.out.2.trans h6))
    clear h5 h6 HX1 HP;generalize r.take n=piece at *;go_wp2_with fail
    exact HF.out
 |succ m=>
  have HX1:Hid (txtT (all.drop a) most=([],[],m+1)):=ι (by rw [HX.out,he,if_pos (by omega)]);unfold NumbEnd at HN;rw [he] at HN;have hm1:(((m+1:Nat):Int) !=0)=true:=by simp; omega
  have HNz:Hid (m+1≠0):=ι (by omega);clear he HX;generalize (numT (all.drop a)).1=n at *;generalize (numT (all.drop a)).2.1=r at *;generalize m+1=c' at *;go_enter Tryz.func154,Tryz.ntmps154
  go_wp2_with fail
  refine HN.out.mono ?_;rintro e w1 ⟨a',rfl,h1,h2,h3,h4⟩;have HF:=ι (HP.out [] [] c' a' w1 HX1.out h1 h2 (fun e=>absurd e HNz.out) h4);clear h1 h2 h3 h4;go_wp2_with fail
  exact HF.out
theorem code_text_no (w:World) (g:Nat) (all:List UInt8) (a c:Nat) (h:RdB w g all a c) (hc:c≠0) (most:Nat):
  Calls Tryz.prog 154 #[.pointer (some ⟨g,0,none⟩),most] w (RdEnd w g all (.tuple #[ε,c]) a c):=by
 have HN:=ι (code_number_no w g all a c h hc);have HP:Hid (∀ w',RdB w' g all a c→w.grownBy w' (some g)→RdEnd w g all (.tuple #[ε,c]) a c (.returned (.tuple #[ε,c])) w'):=ι (fun w' a b=>⟨rfl,a,b⟩);generalize RdEnd w g all (.tuple #[ε,c]) a c=P at HP ⊢;have hc1:((c:Int) !=0)=true:=by simp; exact hc
 clear h hc;go_enter Tryz.func154,Tryz.ntmps154
 go_wp2_with fail
 refine HN.out.mono ?_;rintro e w1 ⟨rfl,h1,h4⟩;have HF:=ι (HP.out w1 h1 h4);clear h1 h4;go_wp2_with fail
 exact HF.out
theorem code_RText (w:World) (g:Nat) (s:List UInt8 × Nat) (h:Rdr w g s) (most:Nat) (hm:most≤1000000):
  Calls Tryz.prog 118 #[.pointer (some ⟨g,0,none⟩),most] w (RdrEnd w g (.string ⟨(txtS s most).1.toArray⟩) (txtS s most).2):=by
 obtain ⟨rest,c⟩:=s;obtain ⟨all,a,hB,ha,hl,hr⟩:=h;simp only at hB hr;subst hr;have HP:Hid (∀ (t:List UInt8) s' w',txtS (all.drop a,c) most=(t,s')→Rdr w' g s'→w.grownBy w' (some g)→RdrEnd w g (.string ⟨(txtS (all.drop a,c) most).1.toArray⟩) (txtS (all.drop a,c) most).2 (.returned (t:Value)) w'):=ι (fun n s' w' e h1 h2=>by rw [e]; exact ⟨rfl,h1,h2⟩);generalize RdrEnd w g (.string ⟨(txtS (all.drop a,c) most).1.toArray⟩) (txtS (all.drop a,c) most).2=P at HP ⊢;obtain ⟨c0,c1,c2,f1,f2⟩:=hB.cells;have HB:=ι hB;have HL:=ι (And.intro ha hl);by_cases hc:c=0
 ·subst hc;have HN:=ι (code_text w g all a hB hl ha most hm);clear hB ha hl;cases he:(txtT (all.drop a) most).2.2 with
  |zero=>
   have HS:Hid (txtS (all.drop a,0) most=((txtT (all.drop a) most).1,((txtT (all.drop a) most).2.1,0))):=ι (by simp [txtS,he]);unfold TextREnd at HN;rw [he] at HN;clear he;generalize (txtT (all.drop a) most).1=t at *;generalize (txtT (all.drop a) most).2.1=r at *;go_enter Tryz.func118,Tryz.ntmps118
   go_wp2_with fail
   refine HN.out.mono ?_;rintro e w1 ⟨a',rfl,h1,h2,h3,h4⟩;have HF:=ι (HP.out t (r,0) w1 HS.out ⟨all,a',h1,h2,HL.out.2,h3 (by first|exact trivial|rfl)⟩ h4);clear h1 h2 h3 h4;go_wp2_with fail
   exact HF.out
  |succ m=>
   have HS:Hid (txtS (all.drop a,0) most=([],(all.drop a,m+1))):=ι (by simp [txtS,he]);unfold TextREnd at HN;rw [he] at HN;have hm1:(((m+1:Nat):Int) !=0)=true:=by simp; omega
   clear he;generalize (txtT (all.drop a) most).1=t at *;generalize (txtT (all.drop a) most).2.1=r at *;generalize m+1=c' at *;go_enter Tryz.func118,Tryz.ntmps118
   go_wp2_with fail
   refine HN.out.mono ?_;rintro e w1 ⟨a',rfl,h1,h2,h3,h4⟩;have HR:=ι (code_refused w1 g all a' 0 h1 a c');rw [if_pos rfl,if_pos rfl] at HR;have HG:=ι h4;clear h1 h2 h3 h4;go_wp2_with fail
   refine HR.out.mono ?_;rintro e w2 ⟨rfl,h5,h6⟩;have HF:=ι (HP.out [] (all.drop a,c') w2 HS.out ⟨all,a,h5,HL.out.1,HL.out.2,rfl⟩ (HG.out.trans h6));clear h5 h6;go_wp2_with fail
   exact HF.out
 ·have HN:=ι (code_text_no w g all a c hB hc most);have HS:Hid (txtS (all.drop a,c) most=([],(all.drop a,c))):=ι (by simp [txtS,hc]);have HC:=ι hc;have hm1:((c:Int) !=0)=true:=by simp; exact hc
  clear hB ha hl hc;go_enter Tryz.func118,Tryz.ntmps118
  go_wp2_with fail
  refine HN.out.mono ?_;rintro e w1 ⟨rfl,h1,h4⟩;have HR:=ι (code_refused w1 g all a c h1 a c);rw [if_neg HC.out,if_neg HC.out] at HR;have HG:=ι h4;clear h1 h4;go_wp2_with fail
  refine HR.out.mono ?_;rintro e w2 ⟨rfl,h5,h6⟩;have HF:=ι (HP.out [] (all.drop a,c) w2 HS.out ⟨all,a,h5,HL.out.1,HL.out.2,rfl⟩ (HG.out.trans h6));clear h5 h6;go_wp2_with fail
  exact HF.out
end
section
open Go.RowKit
attribute [local go_sem] ba_get ByteArray.mk_append_mk
theorem nib_Of (s:List UInt8) (w:World) (hs:s.length≤1048576):
  Calls Tryz.prog 54 #[s] w fun e w'=>e= .returned (.string ⟨(Nib.of s).toArray⟩)∧Below w.heap.size w w':=by
 go_enter Tryz.func54,Tryz.ntmps54
 obtain ⟨i0,hi0,hz0,hz1,hz2⟩:=info_parts info_byte;go_wp2_with (at_make; refine wpList_make_own _ rfl _ _ 118 rfl w.heap.size 5 i0 _ 1 Tryz.underlying118 hi0 hz0 hz1 .i64 .i64 _ (2*s.length) rfl rfl (by omega) (by rw [hz2]; omega) (by simp only [maxLen]; omega) (Nat.le_refl _) ?_; intro w1 hown1 hg1)
 have hb1:Below w.heap.size w w1:=(Below.refl _ _).grown hg1 (Nat.le_refl _) (by simp);refine wp_loop_ghost_k (fun k a wr=>∀ Φ:Act→Prop,(∀ ⦃s1 s2 s4 s5 s6 s7 s8 s9 s0 s3 a0 a2 a3 a4 a5 a6 a7 a8 a9 b0 b1 b2 b3 b4:Value⦄ (i:Nat) (v:Value) (t:List UInt8),(i+k=s.length∧t.length=2*i∧t=Nib.of (s.take i)∧wr.ownsRow w.heap.size 5 1 v (2*i) (bvals t)∧Below w.heap.size w wr)→Φ {tmps:=#[.string ⟨s.toArray⟩,s1,s2,v,s4,s5,s6,s7,s8,s9,.int .i64 s.length,.int .i64 i,s0,s3,a0,a2,a3,a4,a5,a6,a7,a8,a9,b0,b1,b2,b3,b4],defers:= []})→Φ a) (s.length) ?_ ?_
 ·refine fun Φ hΦ=>hΦ (0) (_) ([]) ?_;exact ⟨by omega,rfl,rfl,hown1,hb1⟩
 ·intro k1 a1 wr1 hI1 J1 K1 hJ1 hK1;refine hI1 (fun a=>Code.wp _ _ _ a _) ?_;clear hI1 a1;iterate 24 (intro _)
  intro i v t hrel
  show Code.wp _ _ _ _ _;obtain ⟨h1,h2,h3,hown,hb⟩:=hrel;have H3:=ι h3;clear h3;by_cases hi:i<s.length
  ·have hlt:=s[i].toNat_lt;have hq:IntKind.u8.wrap ((s[i].toNat:Int) / 16)=(s[i].toNat:Int) / 16:=IntWalk.u8_in _ (by omega);have HE:Hid (t++ [s[i] / 16,s[i] % 16]=Nib.of (s.take (i+1))):=ι (by
    rw [List.take_succ_eq_append_getElem hi,Nib.of_snoc,H3.out])
   have hand:=u8_and15 s[i];clear H3;go_wp2
   go_region_law (refine step_append_new wr1 5 [.int .u8 ((s[i].toNat:Int) / 16),.int .u8 ((s[i].toNat:Int) % 16)] rfl _ _ 118 rfl w.heap.size 1 1 _ info_byte Tryz.underlying118 rfl (by decide) v _ _ rfl hown 2 2 rfl rfl (by simp [Value.oneCell']) (by simp only [maxLen]; omega) (by omega) w.heap.size w hb (Nat.le_refl _) hb.size ?_; intro v1 w1 hown1 hb1 _ _ _)
   all_goals go_wp2
   all_goals (refine Handed.intro (s.length - (i+1)) ?_ (hJ1 _ _ _ (fun Φ hΦ=>hΦ (i+1) (v1) (t++ [s[i] / 16,s[i] % 16]) ?_)))
   any_goals omega
   all_goals exact ⟨by omega,by simp; omega,HE.out,by simpa [bvals,UInt8.toNat_div,UInt8.toNat_mod,Nat.mul_add] using hown1,hb1⟩
  ·obtain ⟨A,c,rfl,hr, -, -⟩:=own_form hown;have hconv:=conv_reads _ _ _ _ c t hr;have E2:Hid (t=Nib.of s):=ι (by rw [H3.out,List.take_of_length_le (by omega)]);clear H3;go_wp2
   go_ret
   exact ⟨ret_string (by rw [E2.out]),hb⟩
theorem nib_Fit (s:List UInt8) (w:World) (hs:s.length≤1048576):
  Calls Tryz.prog 204 #[s] w fun e w'=>e= .returned (.bool (Nib.fit s))∧w=w':=by
 go_enter Tryz.func204,Tryz.ntmps204
 go_wp2
 refine wp_loop_ghost_k (fun k a wr=>∀ Φ:Act→Prop,(∀ ⦃s1 s2 s3 s4 s7 s8 s9 s0 s5 s6 a0:Value⦄ (i:Nat),(i+k=s.length∧Nib.fit (s.take i)=true∧wr=w)→Φ {tmps:=#[.string ⟨s.toArray⟩,s1,s2,s3,s4,.int .i64 s.length,.int .i64 i,s7,s8,s9,s0,s5,s6,a0],defers:= []})→Φ a) (s.length) ?_ ?_
 ·refine fun Φ hΦ=>hΦ (0) ?_;exact ⟨by omega,rfl,rfl⟩
 ·intro k1 a1 wr1 hI1 J1 K1 hJ1 hK1;refine hI1 (fun a=>Code.wp _ _ _ a _) ?_;clear hI1 a1;iterate 11 (intro _)
  intro i hrel
  show Code.wp _ _ _ _ _;obtain ⟨h1,h2,rfl⟩:=hrel;have H2:=ι h2;clear h2;by_cases hi:i<s.length
  ·have hlt:=s[i].toNat_lt;by_cases hc:s[i]≤15
   ·have hq:(s[i].toNat:Int)≤15:=by rw [UInt8.le_iff_toNat_le] at hc; simp at hc; omega
    have HE:Hid (Nib.fit (s.take (i+1))=true):=ι (by rw [Nib.fit_take _ _ hi,H2.out]; simpa using hc);clear hc H2;go_wp2
    refine Handed.intro (s.length - (i+1)) ?_ (hJ1 _ _ _ (fun Φ hΦ=>hΦ (i+1) ?_))
    ·omega
    ·exact ⟨by omega,HE.out,rfl⟩
   ·have hq:15<(s[i].toNat:Int):=by rw [UInt8.le_iff_toNat_le] at hc; simp at hc; omega
    have HE:Hid (Nib.fit s=false):=ι (Nib.fit_false hi hc);clear hc H2;go_wp2
    go_ret
    exact ⟨by rw [HE.out]; rfl,rfl⟩
  ·have HE:Hid (Nib.fit s=true):=ι (by have:=H2.out; rwa [List.take_of_length_le (by omega)] at this);clear H2;go_wp2
   go_ret
   exact ⟨by rw [HE.out]; rfl,rfl⟩
theorem nib_Common (x y:List UInt8) (w:World) (hx:x.length≤4194304) (hy:y.length≤4194304):
  Calls Tryz.prog 97 #[x,y] w fun e w'=>e= .returned (.int .i64 (Nib.common x y))∧Below w.heap.size w w':=by
 go_enter Tryz.func97,Tryz.ntmps97
 go_wp2
 refine wp_loop_ghost_k (fun k a wr=>∀ Φ:Act→Prop,(∀ ⦃s2 s3 s4 s6 s7 s8 s9 s0 s1 s5 a0 a2 a3 a4 a5 a6 a7 a8 a9 b0 b1 b2 b3 b4 b5:Value⦄ (i:Nat),(i+k=x.length∧i≤Nib.common x y∧Below w.heap.size w wr)→Φ {tmps:=#[.string ⟨x.toArray⟩,.string ⟨y.toArray⟩,s2,s3,s4,.int .i64 i,s6,s7,s8,s9,s0,s1,s5,a0,a2,a3,a4,a5,a6,a7,a8,a9,b0,b1,b2,b3,b4,b5],defers:= []})→Φ a) (x.length) ?_ ?_
 ·refine fun Φ hΦ=>hΦ (0) ?_;exact ⟨by omega,by omega,Below.refl _ _⟩
 ·intro k1 a1 wr1 hI1 J1 K1 hJ1 hK1;refine hI1 (fun a=>Code.wp _ _ _ a _) ?_;clear hI1 a1;iterate 25 (intro _)
  intro i hrel
  show Code.wp _ _ _ _ _;obtain ⟨h1,h2,hb⟩:=hrel;have hcl:=Nib.common_le x y;have fin:∀ j,j=i→¬(i+1≤Nib.common x y)→Ending.returned (.int .i64 ((j:Nat):Int))= .returned (.int .i64 ((Nib.common x y:Nat):Int)):=fun j e h=>ret_int (by omega);have Fin:=ι fin;clear fin;by_cases hi:i<x.length
  ·by_cases hj:i<y.length
   ·have hst:=Nib.common_step h2 hi hj;by_cases hc:x[i]=y[i]
    ·have hq:((x[i].toNat:Int)==(y[i].toNat:Int))=true:=by rw [hc]; simp
     have h3:=hst.2 hc;clear hst hc;go_wp2
     go_quiet (fail)
     go_wp2
     refine Handed.intro (x.length - (i+1)) ?_ (hJ1 _ _ _ (fun Φ hΦ=>hΦ (i+1) ?_))
     ·omega
     ·exact ⟨by omega,h3,below_drewN hb _⟩
    ·have hq:((x[i].toNat:Int)==(y[i].toNat:Int))=false:=by
      rw [beq_eq_false_iff_ne]; intro e; exact hc (UInt8.toNat_inj.1 (by omega))
     have h3:=mt hst.1 hc;have F:=ι (Fin.out i rfl h3);clear hst hc h3 Fin;go_wp2
     go_quiet (fail)
     go_wp2
     go_ret
     exact ⟨F.out,below_drewN hb _⟩
   ·have F:=ι (Fin.out i rfl (by omega));have hq:decide ((i:Int)<(y.length:Int))=false:=by simp; omega
    clear Fin;go_wp2
    go_quiet (fail)
    go_wp2
    go_ret
    exact ⟨F.out,below_drewN hb _⟩
  ·have F:=ι (Fin.out i rfl (by omega));have hq:decide ((i:Int)<(x.length:Int))=false:=by simp; omega
   clear Fin;go_wp2
   go_quiet (fail)
   go_wp2
   go_ret
   exact ⟨F.out,below_drewN hb _⟩
theorem nib_joined (s:List UInt8) (w:World) (hs:s.length≤1048576) (hf:Nib.fit s=true):
  Calls Tryz.prog 206 #[s] w fun e w'=>e= .returned (.string ⟨(Nib.joined s).toArray⟩)∧Below w.heap.size w w':=by
 obtain ⟨i0,hi0,hz0,hz1,hz2⟩:=info_parts info_byte;have hfit:∀ i,(h:i<s.length)→s[i]≤15:=fun i h=>by
  unfold Nib.fit at hf; rw [List.all_eq_true] at hf; simpa using hf s[i] (List.getElem_mem h)
 have HF:=ι hfit;clear hfit hf;go_enter Tryz.func206,Tryz.ntmps206
 go_wp2_with (at_make; refine wpList_make_own _ rfl _ _ 118 rfl w.heap.size 5 i0 _ 1 Tryz.underlying118 hi0 hz0 hz1 .i64 .i64 _ (s.length / 2) rfl rfl (by omega) (by rw [hz2]; omega) (by simp only [maxLen]; omega) (Nat.le_refl _) ?_; intro w1 hown1 hg1)
 have hb1:Below w.heap.size w w1:=(Below.refl _ _).grown hg1 (Nat.le_refl _) (by simp);refine wp_loop_ghost_k (fun k a wr=>∀ Φ:Act→Prop,(∀ ⦃s1 s2 s4 s5 s6 s7 s8 s9 s0 s3 a0 a2 a3 a4 a5 a6 a7 a8 a9 b0 b1 b2 b3 b4 b5 b6 b7 b8:Value⦄ (i:Nat) (v:Value) (t:List UInt8),(i+k=s.length / 2∧t.length=i∧t=Nib.joined (s.take (2*i))∧wr.ownsRow w.heap.size 5 1 v i (bvals t)∧Below w.heap.size w wr)→Φ {tmps:=#[.string ⟨s.toArray⟩,s1,s2,v,s4,s5,s6,s7,s8,s9,s0,.int .i64 (s.length / 2:Nat),.int .i64 i,s3,a0,a2,a3,a4,a5,a6,a7,a8,a9,b0,b1,b2,b3,b4,b5,b6,b7,b8],defers:= []})→Φ a) (s.length / 2) ?_ ?_
 ·refine fun Φ hΦ=>hΦ (0) (_) ([]) ?_;exact ⟨by omega,rfl,rfl,hown1,hb1⟩
 ·intro k1 a1 wr1 hI1 J1 K1 hJ1 hK1;refine hI1 (fun a=>Code.wp _ _ _ a _) ?_;clear hI1 a1;iterate 28 (intro _)
  intro i v t hrel
  show Code.wp _ _ _ _ _;obtain ⟨h1,h2,h3,hown,hb⟩:=hrel;have H3:=ι h3;clear h3;by_cases hi:i<s.length / 2
  ·have h4:2*i+1<s.length:=by omega
   obtain ⟨bb,hbb⟩:∃ bb,bb=s[2*i]*16+s[2*i+1]:=⟨_,rfl⟩
   have q9:=u8_pack s[2*i] s[2*i+1] (HF.out _ _) (HF.out _ _);rw [←hbb] at q9;have HE:Hid (t++ [bb]=Nib.joined (s.take (2*(i+1)))):=ι (by have:=Nib.joined_take s i h4; rw [←H3.out,←hbb] at this; exact this.symm);clear hbb;clear H3;go_wp2
   have q1:IntKind.i64.wrap (2*(i:Int))=2*(i:Int):=IntWalk.i64_in _ (by omega);have q2:IntKind.i64.wrap (2*(i:Int)+1)=2*(i:Int)+1:=IntWalk.i64_in _ (by omega);have q3:(2*(i:Int)).toNat=2*i:=by omega
   have q4:(2*(i:Int)+1).toNat=2*i+1:=by omega
   have q5:2*(i:Int)<(s.length:Int):=by omega
   have q6:2*(i:Int)+1<(s.length:Int):=by omega
   have q7:0≤2*(i:Int):=by omega
   have q8:0≤2*(i:Int)+1:=by omega
   go_region_law (refine step_append_new wr1 5 [.int .u8 (bb.toNat:Int)] rfl _ _ 118 rfl w.heap.size 1 1 _ info_byte Tryz.underlying118 rfl (by decide) v _ _ rfl hown 1 1 rfl rfl (by simp [Value.oneCell']) (by simp only [maxLen]; omega) (by omega) w.heap.size w hb (Nat.le_refl _) hb.size ?_; intro v1 w1 hown1 hb1 _ _ _)
   all_goals go_wp2
   all_goals (refine Handed.intro (s.length / 2 - (i+1)) ?_ (hJ1 _ _ _ (fun Φ hΦ=>hΦ (i+1) (v1) (t++ [bb]) ?_)))
   any_goals omega
   all_goals exact ⟨by omega,by simp; omega,HE.out,by simpa [bvals] using hown1,hb1⟩
  ·obtain ⟨A,c,rfl,hr, -, -⟩:=own_form hown;have hconv:=conv_reads _ _ _ _ c t hr;have E2:Hid (t=Nib.joined s):=ι (by
    rw [H3.out];have e:i=s.length / 2:=by omega
    rw [e]; exact Nib.joined_half s)
   clear H3;go_wp2
   go_ret
   exact ⟨ret_string (by rw [E2.out]),hb⟩
end
section
open Go.RowKit
attribute [local go_sem] ba_get ByteArray.mk_append_mk ByteArray.extract_mk
theorem nib_Pack_bad (s:List UInt8) (leaf:Bool) (w:World) (hs:s.length≤1048576) (hf:Nib.fit s=false):
  Calls Tryz.prog 195 #[s,leaf] w fun e w'=>e= .returned (.tuple #[ε,.int .i64 3])∧Below w.heap.size w w':=by
 have HF:=ι hf;clear hf;go_enter Tryz.func195,Tryz.ntmps195
 go_wp2_with fail
 refine (nib_Fit s _ hs).mono ?_;rintro e w1 ⟨rfl,rfl⟩;rw [HF.out];go_wp2
 go_ret2
 exact ⟨rfl,Below.refl _ _⟩
theorem z_3 {P:Prop} (h:P:=by
 go_wp2_with fail
 go_region_with (go_at_call 206; refine (nib_joined s _ hs HF.out).mono ?_; rintro e w1 ⟨rfl,hb⟩; try simp only [World.size_drew,World.size_alloc] at hb; have hbw:Below w.heap.size w w1:=(by first|exact hb|exact hb.start|exact ((Below.refl _ _).alloc (Nat.le_refl _) _).drew.trans (hb.mono (by simp))); have hsz1:=hbw.size)
 all_goals go_wp2
 all_goals go_ret2
 all_goals exact ⟨rfl,by go_grown⟩):P:=h
theorem nib_Pack_even (s:List UInt8) (leaf:Bool) (w:World) (hs:s.length≤1048576) (hf:Nib.fit s=true) (hp:s.length % 2=0):
  Calls Tryz.prog 195 #[s,leaf] w fun e w'=>e= .returned (.tuple #[.string ⟨((if leaf then 32 else 0)::Nib.joined s).toArray⟩,ζ])∧Below w.heap.size w w':=by
 have HF:=ι hf;clear hf;have hq:(((s.length:Nat):Int) % 2==1)=false:=by rw [beq_eq_false_iff_ne]; omega
 have hjl:=Nib.joined_length s;have HJ:(Nib.joined s).length≤1048576:=by omega
 clear hjl;cases leaf
 ·go_enter Tryz.func195,Tryz.ntmps195
  go_wp2_with fail
  refine (nib_Fit s _ hs).mono ?_;rintro e w1 ⟨rfl,rfl⟩;rw [HF.out];have hc1:=fun W=>conv1 W 0 (by omega) (by omega);have hc2:=fun W=>conv1d W 0 (by omega) (by omega);have hc3:=fun w1=>conv1_below w w1 0 (by omega) (by omega);exact z_3
 ·go_enter Tryz.func195,Tryz.ntmps195
  go_wp2_with fail
  refine (nib_Fit s _ hs).mono ?_;rintro e w1 ⟨rfl,rfl⟩;rw [HF.out];have hc1:=fun W=>conv1 W 32 (by omega) (by omega);have hc2:=fun W=>conv1d W 32 (by omega) (by omega);have hc3:=fun w1=>conv1_below w w1 32 (by omega) (by omega);exact z_3
theorem nib_Pack_odd (a:UInt8) (s:List UInt8) (leaf:Bool) (w:World) (hs:s.length≤1048575) (hf:Nib.fit (a::s)=true) (hp:(a::s).length % 2=1):
  Calls Tryz.prog 195 #[.string ⟨(a::s).toArray⟩,leaf] w fun e w'=>e= .returned (.tuple #[.string ⟨((if leaf then 48+a else 16+a)::Nib.joined s).toArray⟩,ζ])∧Below w.heap.size w w':=by
 have ha:a≤15:=by unfold Nib.fit at hf; simp at hf; exact hf.1
 have hf2:Nib.fit s=true:=by unfold Nib.fit at hf ⊢; simp at hf ⊢; exact hf.2
 have HF:=ι hf;have HF2:=ι hf2;clear hf hf2;have hp':(s.length+1) % 2=1:=by simpa using hp
 have hq:((((s.length:Nat):Int)+1) % 2==1)=true:=by rw [beq_iff_eq]; omega
 have hjl:=Nib.joined_length s;have HJ:(Nib.joined s).length≤1048576:=by omega
 obtain ⟨o1,o2,o3⟩:=u8_or16 a ha;have ha':a.toNat≤15:=by rw [UInt8.le_iff_toNat_le] at ha; simpa using ha
 have HS:(a::s).length≤1048576:=by simp; omega
 have e16:UInt8.ofNat (16+a.toNat)=16+a:=by simp
 have e48:UInt8.ofNat (48+a.toNat)=48+a:=by simp
 have E:=ι (And.intro e16 e48);clear hjl hp hp' ha e16 e48;generalize hb16:(16+a.toNat:Nat)=b16 at o1 o2 o3;generalize hb48:(48+a.toNat:Nat)=b48 at o3;have h16:b16<256:=by omega
 have h48:b48<256:=by omega
 have B:=ι (And.intro hb16 hb48);clear hb16 hb48;cases leaf
 ·go_enter Tryz.func195,Tryz.ntmps195
  go_wp2_with fail
  refine (nib_Fit (a::s) _ HS).mono ?_;rintro e w1 ⟨rfl,rfl⟩;rw [HF.out];have hc1:=fun W=>conv1 W (b16:Int) (by omega) (by omega);have hc2:=fun W=>conv1d W (b16:Int) (by omega) (by omega);have hc3:=fun w1=>conv1_below w w1 (b16:Int) (by omega) (by omega);go_wp2_with fail
  go_region_with (go_at_call 206; refine (nib_joined s _ (by omega) HF2.out).mono ?_; rintro e w1 ⟨rfl,hb⟩; try simp only [World.size_drew,World.size_alloc] at hb; have hbw:Below w.heap.size w w1:=(by first|exact hb|exact hb.start|exact ((Below.refl _ _).alloc (Nat.le_refl _) _).drew.trans (hb.mono (by simp))); have hsz1:=hbw.size)
  all_goals go_wp2
  all_goals go_ret2
  all_goals have e1:UInt8.ofNat b16=16+a:=by rw [←B.out.1]; exact E.out.1
  all_goals exact ⟨by rw [e1]; rfl,by go_grown⟩
 ·go_enter Tryz.func195,Tryz.ntmps195
  go_wp2_with fail
  refine (nib_Fit (a::s) _ HS).mono ?_;rintro e w1 ⟨rfl,rfl⟩;rw [HF.out];have hc1:=fun W=>conv1 W (b48:Int) (by omega) (by omega);have hc2:=fun W=>conv1d W (b48:Int) (by omega) (by omega);have hc3:=fun w1=>conv1_below w w1 (b48:Int) (by omega) (by omega);go_wp2_with fail
  go_region_with (go_at_call 206; refine (nib_joined s _ (by omega) HF2.out).mono ?_; rintro e w1 ⟨rfl,hb⟩; try simp only [World.size_drew,World.size_alloc] at hb; have hbw:Below w.heap.size w w1:=(by first|exact hb|exact hb.start|exact ((Below.refl _ _).alloc (Nat.le_refl _) _).drew.trans (hb.mono (by simp))); have hsz1:=hbw.size)
  all_goals go_wp2
  all_goals go_ret2
  all_goals have e1:UInt8.ofNat b48=48+a:=by rw [←B.out.2]; exact E.out.2
  all_goals exact ⟨by rw [e1]; rfl,by go_grown⟩
theorem nib_Pack (s:List UInt8) (leaf:Bool) (w:World) (hs:s.length≤1048575):
  Calls Tryz.prog 195 #[s,leaf] w fun e w'=>e= .returned (.tuple #[.string ⟨(Nib.pack s leaf).1.toArray⟩,.int .i64 (Nib.pack s leaf).2])∧Below w.heap.size w w':=by
 by_cases hf:Nib.fit s=true
 ·by_cases hp:s.length % 2=1
  ·obtain ⟨a,r,rfl⟩:∃ a r,s=a::r:=by
    cases s with
    |nil=>simp at hp
    |cons a r=>exact ⟨a,r,rfl⟩
   have e:Nib.pack (a::r) leaf=((if leaf then 48+a else 16+a)::Nib.joined r,0):=by
    unfold Nib.pack; rw [if_pos hf,Nib.packed_odd hp]
   rw [e];exact nib_Pack_odd a r leaf w (by simp at hs; omega) hf hp
  ·have e:Nib.pack s leaf=((if leaf then 32 else 0)::Nib.joined s,0):=by
    unfold Nib.pack; rw [if_pos hf,Nib.packed_even (by omega)]
   rw [e];exact nib_Pack_even s leaf w (by omega) hf (by omega)
 ·have e:Nib.pack s leaf=([],3):=by unfold Nib.pack; rw [if_neg hf]
  rw [e];exact nib_Pack_bad s leaf w (by omega) (by simpa using hf)
theorem nib_Unpack_nil (w:World):
  Calls Tryz.prog 182 #[ε] w fun e w'=>e= .returned (.tuple #[ε,false,.int .i64 3])∧Below w.heap.size w w':=by
 go_enter Tryz.func182,Tryz.ntmps182
 go_wp2
 go_ret3
 exact ⟨rfl,Below.refl _ _⟩
theorem nib_Unpack_cons (b:UInt8) (r:List UInt8) (w:World) (hs:r.length≤2000):
  Calls Tryz.prog 182 #[.string ⟨(b::r).toArray⟩] w fun e w'=>e= .returned (.tuple #[.string ⟨(Nib.unpack (b::r)).1.toArray⟩,.bool (Nib.unpack (b::r)).2.1,.int .i64 (Nib.unpack (b::r)).2.2])∧Below w.heap.size w w':=by
 have hlt:=b.toNat_lt;have h15:=u8_and15 b;obtain ⟨a1,a2⟩:=u8_and12 b;have hq:IntKind.u8.wrap ((b.toNat:Int) / 16)=(b.toNat:Int) / 16:=IntWalk.u8_in _ (by omega);have hol:=Nib.of_length r;have HO:(Nib.of r).length≤4000:=by omega
 have hc:=fun W=>conv1 W ((b.toNat:Int) % 16) (by omega) (by omega);clear hol;obtain ⟨m1,hm1⟩:∃ m1,m1=b.toNat / 16 % 2:=⟨_,rfl⟩
 obtain ⟨m2,hm2⟩:∃ m2,m2=b.toNat / 16 / 2 % 2*2:=⟨_,rfl⟩
 rw [←hm1] at a1;rw [←hm2] at a2;rw [Nib.unpack_cons];by_cases h1:3<b.toNat / 16
 ·have hk:3<(b.toNat:Int) / 16:=by omega
  rw [if_pos (.inl h1)];clear h1 hm1 hm2;go_enter Tryz.func182,Tryz.ntmps182
  go_wp2
  go_quiet (fail)
  go_wp2
  go_ret3
  exact ⟨rfl,below_drewN (Below.refl _ _) _⟩
 ·have hk:¬3<(b.toNat:Int) / 16:=by omega
  have ho2:(((m2:Nat):Int) !=0)=decide (2≤b.toNat / 16):=by
   by_cases h:2≤b.toNat / 16
   ·rw [decide_eq_true h,bne_iff_ne]; omega
   ·rw [decide_eq_false h]; simp; omega
  by_cases h2:b.toNat / 16 % 2=1
  ·rw [if_neg (by omega),if_pos h2];have ho1:(((m1:Nat):Int) !=0)=true:=by rw [bne_iff_ne]; omega
   have O2:=ι ho2;clear h1 h2 hm1 hm2 ho2;go_enter Tryz.func182,Tryz.ntmps182
   go_wp2
   go_quiet (fail)
   go_wp2_with fail
   refine (nib_Of r _ (by omega)).mono ?_;rintro e w1 ⟨rfl,hb⟩;go_wp2
   go_ret3
   rw [←O2.out];exact ⟨rfl,((hb.trans ((Below.refl _ _).alloc hb.size _)).start_drewN)⟩
  ·have ho1:(((m1:Nat):Int) !=0)=false:=by simp; omega
   have O2:=ι ho2;by_cases h3:b.toNat % 16=0
   ·rw [if_neg (by omega),if_neg h2];have hz:(((b.toNat:Int) % 16) !=0)=false:=by simp; omega
    clear h1 h2 hm1 hm2 ho2 h3;go_enter Tryz.func182,Tryz.ntmps182
    go_wp2
    go_quiet (fail)
    go_wp2_with fail
    refine (nib_Of r _ (by omega)).mono ?_;rintro e w1 ⟨rfl,hb⟩;go_wp2
    go_ret3
    rw [←O2.out];exact ⟨rfl,hb.start_drewN⟩
   ·rw [if_pos (.inr ⟨by omega,h3⟩)];have hz:(((b.toNat:Int) % 16) !=0)=true:=by rw [bne_iff_ne]; omega
    clear h1 h2 hm1 hm2 ho2 h3;go_enter Tryz.func182,Tryz.ntmps182
    go_wp2
    go_quiet (fail)
    go_wp2
    go_ret3
    exact ⟨rfl,below_drewN (Below.refl _ _) _⟩
theorem nib_Unpack (s:List UInt8) (w:World) (hs:s.length≤2001):
  Calls Tryz.prog 182 #[s] w fun e w'=>e= .returned (.tuple #[.string ⟨(Nib.unpack s).1.toArray⟩,.bool (Nib.unpack s).2.1,.int .i64 (Nib.unpack s).2.2])∧Below w.heap.size w w':=by
 cases s with
 |nil=>exact nib_Unpack_nil w
 |cons b r=>exact nib_Unpack_cons b r w (by simp at hs; omega)
end
section
open Go.RowKit Go.Instr
attribute [local go_sem] ba_get ByteArray.mk_append_mk
def pathOk (p:List UInt8) (least:Nat):Bool:=Nib.fit p && decide (least≤p.length∧p.length≤16)
theorem node_path (p:List UInt8) (least:Nat) (hl:least≤1) (hp:p.length≤1048576) (w:World):
  Calls Tryz.prog 183 #[p,least] w fun e w'=>e= .returned (.bool (pathOk p least))∧w=w':=by
 have HF:=nib_Fit p w hp;have HP:Hid (∀ b w',pathOk p least=b→w=w'→(fun e w'=>e=Ending.returned (.bool (pathOk p least))∧w=w') (Ending.returned (.bool b)) w'):=ι (fun b w' e hb=>⟨by rw [e],hb⟩);generalize (fun e w'=>e=Ending.returned (.bool (pathOk p least))∧w=w')=P at HP ⊢;unfold pathOk at HP;cases hf:Nib.fit p with
 |false=>
  rw [hf] at HF HP;go_enter Tryz.func183,Tryz.ntmps183
  go_wp2_with fail
  refine HF.mono ?_;rintro e w1 ⟨rfl,rfl⟩;go_wp2
  exact HP.out _ _ (by simp) rfl
 |true=>
  rw [hf] at HF HP;by_cases h1:least≤p.length
  ·have h1':(least:Int)≤p.length:=by omega
   by_cases h2:p.length≤16
   ·have h2':(p.length:Int)≤16:=by omega
    go_enter Tryz.func183,Tryz.ntmps183
    go_wp2_with fail
    refine HF.mono ?_;rintro e w1 ⟨rfl,rfl⟩;go_wp2
    exact HP.out _ _ (by simp [h1,h2]) rfl
   ·have h2':((p.length:Int)≤16)=False:=by simp; omega
    go_enter Tryz.func183,Tryz.ntmps183
    go_wp2_with fail
    refine HF.mono ?_;rintro e w1 ⟨rfl,rfl⟩;go_wp2
    exact HP.out _ _ (by simp [h2]) rfl
  ·have h1':((least:Int)≤p.length)=False:=by simp; omega
   go_enter Tryz.func183,Tryz.ntmps183
   go_wp2_with fail
   refine HF.mono ?_;rintro e w1 ⟨rfl,rfl⟩;go_wp2
   exact HP.out _ _ (by simp [h1]) rfl
def strv (l:List (List UInt8)):List Value:=l.map fun s=> .string ⟨s.toArray⟩
theorem strv_length (l:List (List UInt8)):(strv l).length=l.length:=by simp [strv]
theorem strv_at {l:List (List UInt8)} {i:Nat} (h:i<l.length):(strv l)[i]?=some (.string ⟨l[i].toArray⟩):=by
 simp [strv,h]
def sumsOk (l:List (List UInt8)):Bool:=l.all fun s=>decide (s.length=32)
theorem node_sums (l:List (List UInt8)) (hl:l.length≤1000) (w:World) (A:Option Addr) (c:Nat) (HR:Reads w w.heap.size 1 A l.length (strv l)):
  Calls Tryz.prog 184 #[.slice A l.length c] w fun e w'=>e= .returned (.bool (sumsOk l))∧w=w':=by
 go_enter Tryz.func184,Tryz.ntmps184
 go_wp2
 refine wp_loop_ghost_k (fun k a wr=>∀ Φ:Act→Prop,(∀ ⦃s0 s1 s2 s3 s4 s8 s9 s5 s6 s7 a0 a2:Value⦄ (i:Nat),(i+k=l.length∧sumsOk (l.take i)=true∧wr=w)→Φ {tmps:=#[s0,s1,s2,s3,s4,.slice A l.length c,.int .i64 l.length,.int .i64 i,s8,s9,s5,s6,s7,a0,a2],defers:= []})→Φ a) (l.length) ?_ ?_
 ·refine fun Φ hΦ=>hΦ (0) ?_;exact ⟨by omega,rfl,rfl⟩
 ·intro k1 a1 wr1 hI1 J1 K1 hJ1 hK1;refine hI1 (fun a=>Code.wp _ _ _ a _) ?_;clear hI1 a1;iterate 12 (intro _)
  intro i hrel
  show Code.wp _ _ _ _ _;obtain ⟨h1,h2,rfl⟩:=hrel;by_cases hi:i<l.length
  ·obtain ⟨ad,rfl,hbl,hcell⟩:=HR.2 (by omega);have q0:=hcell i _ (strv_at hi);have hi1:(i:Int)<l.length:=by omega
   have hs:sumsOk (l.take (i+1))=decide (l[i].length=32):=by
    rw [List.take_succ_eq_append_getElem hi];unfold sumsOk at *;rw [List.all_append,h2];simp
   have hf:decide (l[i].length=32)=false→sumsOk l=false:=fun h=>by
    rw [Bool.eq_false_iff];intro hc;unfold sumsOk at hc;rw [List.all_eq_true] at hc
    have:=hc _ (List.getElem_mem hi)
    rw [h] at this;cases this
   clear hcell HR;generalize l[i]=s at *;by_cases h32:s.length=32
   ·have e32:((s.length:Int)=32)=True:=by simp; omega
    have T:=ι (show sumsOk (l.take (i+1))=true from hs.trans (by simp [h32]));clear hs hf;go_wp2
    refine Handed.intro (l.length - (i+1)) ?_ (hJ1 _ _ _ (fun Φ hΦ=>hΦ (i+1) ?_))
    ·omega
    ·exact ⟨by omega,T.out,rfl⟩
   ·have e32:((s.length:Int)=32)=False:=by simp; omega
    have T:=ι (hf (by simp [h32]));clear hs hf;go_wp2
    go_ret
    exact ⟨ret_bool T.out.symm,rfl⟩
  ·have e:l.take i=l:=List.take_of_length_le (by omega);have hi2:((i:Int)<l.length)=False:=by simp; omega
   rw [e] at h2;have E2:=ι h2;clear h2 e;go_wp2
   go_ret
   exact ⟨ret_bool E2.out.symm,rfl⟩
def kidsW (K:List (List UInt8)):List (List UInt8):=K.filter fun s=> !s.isEmpty
theorem kidsW_snoc (K:List (List UInt8)) (i:Nat) (h:i<K.length):kidsW (K.take (i+1))=kidsW (K.take i)++(if K[i].isEmpty then [] else [K[i]]):=by
 rw [List.take_succ_eq_append_getElem h];unfold kidsW;rw [List.filter_append];cases h2:K[i].isEmpty<;>simp [h2]
theorem info_str:(Tryz.prog.info? 9).map (fun i=>(i.zero,i.size,i.bytes))=some (some (.string ⟨#[]⟩),1,16):=by kernel_rfl
theorem size_arr:(Tryz.prog.info? 131).map (·.size)=some 16:=by kernel_rfl
theorem strv_one (l:List (List UInt8)):∀ u∈strv l,u.oneCell'=true:=by
 intro u hu;simp only [strv,List.mem_map] at hu;obtain ⟨x,_,rfl⟩:=hu;rfl
theorem run_index_k (K:List (List UInt8)) (hK:K.length=16) (i:Nat) (hi:i<16) (w:World):(Instr.index 131 (.agg (strv K).toArray) (.int .i64 (i:Int))).run Tryz.prog w= .ok (.string ⟨(K.getD i []).toArray⟩) w:=by
 have a0:=Tryz.isAgg9;have z0:=Tryz.sizeOf9;have e:(strv K)[i]?=some (.string ⟨(K.getD i []).toArray⟩):=by
  rw [strv_at (show i<K.length by omega),List.getD_eq_getElem?_getD,List.getElem?_eq_getElem (show i<K.length by omega)];rfl
 simp [Instr.index,asIntOf,run_underlying Tryz.underlying131,part,a0,z0,hi,e]
theorem kids_loop (w w0:World) (K:List (List UInt8)) (hK:K.length=16) (hb:Below w.heap.size w w0)
  (Q:Exit→Act→World→Prop)
  (hQ:∀ ⦃s0 s1 s2 s4 s5 s6 s7 s8 s9 s3 a0 a2 a3 a4 a5 a6 a7 a8:Value⦄ (A:Option Addr) (c n:Nat) (w2:World),n=(kidsW K).length→w2.ownsRow w.heap.size 9 1 (.slice A n c) n (strv (kidsW K))→Below w.heap.size w w2→Q (.exit 0) {tmps:=#[s0,s1,s2,.slice A n c,s4,s5,s6,s7,s8,s9,s3,a0,a2,a3,a4,a5,a6,a7,a8],defers:= []} w2)
  (s0 s1 s2 s4 s5 s6 s9 s3 a0 a2 a3 a4 a5 a6 a7 a8:Value):
  Code.wp Tryz.prog (.loop (loopAt Tryz.f138 0)) Q {tmps:=#[s0,s1,s2,.slice none 0 0,s4,s5,s6,.agg (strv K).toArray,.int .i64 0,s9,s3,a0,a2,a3,a4,a5,a6,a7,a8],defers:= []} w0:=by
 have HQ:=ι hQ;clear hQ;refine wp_loop_ghost_k (fun k a wr=>∀ Φ:Act→Prop,(∀ ⦃s0 s1 s2 s4 s5 s6 s9 s3 a0 a2 a3 a4 a5 a6 a7 a8:Value⦄ (i n c:Nat) (A:Option Addr),(i+k=16∧n=(kidsW (K.take i)).length∧n≤i∧wr.ownsRow w.heap.size 9 1 (.slice A n c) n (strv (kidsW (K.take i)))∧Below w.heap.size w wr)→Φ {tmps:=#[s0,s1,s2,.slice A n c,s4,s5,s6,.agg (strv K).toArray,.int .i64 i,s9,s3,a0,a2,a3,a4,a5,a6,a7,a8],defers:= []})→Φ a) (16) ?_ ?_
 ·refine fun Φ hΦ=>hΦ (0) (0) (0) (none) ?_;exact ⟨by omega,by simp [kidsW],by omega,by simpa [kidsW,strv] using World.ownsRow_nil _ _ _ _,hb⟩
 ·intro k1 a1 wr1 hI1 J1 K1 hJ1 hK1;refine hI1 (fun a=>Code.wp _ _ _ a _) ?_;clear hI1 a1;iterate 16 (intro _)
  intro i n c A hrel
  show Code.wp _ _ _ _ _
  conv=>arg 2; whnf
  obtain ⟨h1,h2,h3,own,hb⟩:=hrel;by_cases hi:i<16
  ·have hi1:(i:Int)<16:=by omega
   have HX:=fun w=>run_index_k K hK i hi w;have hks:=kidsW_snoc K i (by omega);have hg:K.getD i []=K[i]'(by omega):=by rw [List.getD_eq_getElem?_getD,List.getElem?_eq_getElem (show i<K.length by omega)]; rfl
   rw [←hg] at hks;generalize K.getD i []=s at *;clear hg;have HI:=ι (And.intro h1 (And.intro h2 (And.intro h3 hb)));have HK:=ι hks;have hn16:n≤16:=by omega
   generalize kidsW (K.take i)=D at *;cases s with
   |nil=>
    have O:=ι own;clear own h1 h2 h3 hb hks;go_wp2
    refine Handed.intro (16 - (i+1)) ?_ (hJ1 _ _ _ (fun Φ hΦ=>hΦ (i+1) (n) (c) (A) ?_))
    ·have:=HI.out.1
     omega
    ·rw [HK.out];simp only [List.isEmpty_nil,if_true,List.append_nil];exact ⟨by have:=HI.out.1; omega,HI.out.2.1,by have:=HI.out.2.2.1; omega,O.out,HI.out.2.2.2⟩
   |cons a t=>
    have ne1:((a::t).toArray=#[])=False:=by simp
    have hone:∀ u∈ [Value.string ⟨(a::t).toArray⟩],u.oneCell'=true:=by intro u hu; rw [List.mem_singleton] at hu; subst hu; rfl
    clear h1 h2 h3 hks;have se:(a::t).isEmpty=false:=rfl;generalize hs:(a::t)=s at *;go_wp2_with (at_builtin; refine wpList_append_new wr1 9 [s] rfl _ _ 26 rfl w.heap.size 1 16 _ info_str Tryz.underlying26 rfl (by decide) (.slice A n c) n (strv D) rfl own 1 1 rfl rfl hone (by simp only [maxLen]; omega) (by omega) w.heap.size w hb (Nat.le_refl _) hb.size ?_; intro v3 w3 own3 hb3 _ _ _; obtain ⟨A3,c3,rfl,_,_,_⟩:=own_form own3; have O3:=ι own3; clear own3)
    refine Handed.intro (16 - (i+1)) ?_ (hJ1 _ _ _ (fun Φ hΦ=>hΦ (i+1) (n+1) (c3) (A3) ?_))
    ·have:=HI.out.1
     omega
    ·rw [HK.out,se];simp only [Bool.false_eq_true,if_false];refine ⟨by have:=HI.out.1; omega,by rw [List.length_append,←HI.out.2.1]; rfl,by have:=HI.out.2.2.1; omega,?_,hb3⟩;rw [show strv (D++ [s])=strv D++ [.string ⟨s.toArray⟩] by simp [strv]];exact O3.out
  ·have e16:i=16:=by omega
   subst e16;rw [List.take_of_length_le (by omega)] at h2 own;have O:=ι (And.intro own hb);clear own hb;go_wp2
   exact HQ.out _ _ _ _ h2 O.out.1 O.out.2
def KidsEnd (w:World) (K:List (List UInt8)) (e:Ending) (w':World):Prop:=
 ∃ A c n,e= .returned (.slice A n c)∧n=(kidsW K).length∧w'.ownsRow w.heap.size 9 1 (.slice A n c) n (strv (kidsW K))∧Below w.heap.size w w'
theorem node_Kids (w:World) (nk np nv:Value) (h1:nk.oneCell'=true) (h2:np.oneCell'=true) (h3:nv.oneCell'=true) (K:List (List UInt8)) (hK:K.length=16):
  Calls Tryz.prog 138 #[.agg (nk::np::nv::strv K).toArray] w (KidsEnd w K):=by
 have HP:Hid (∀ A c n w',n=(kidsW K).length→w'.ownsRow w.heap.size 9 1 (.slice A n c) n (strv (kidsW K))→Below w.heap.size w w'→KidsEnd w K (.returned (.slice A n c)) w'):=ι (fun A c n w' g1 g2 g3=>⟨A,c,n,rfl,g1,g2,g3⟩);have hsz:(strv K).length=16:=by rw [strv_length,hK]
 generalize KidsEnd w K=P at HP ⊢;go_enter Tryz.func138,Tryz.ntmps138
 have SZ:(Tryz.prog.info? 131).map (·.size)=some (strv K).length:=by rw [hsz]; exact size_arr
 have RNG:(w.alloc (.cells (nk::np::nv::strv K).toArray 133)).rangeAt w.heap.size 3 (strv K):=fun j v hv=>by
  rw [World.cell?_alloc_at _ _ _ _ rfl];rw [show 3+j=j+1+1+1 by omega];simpa using hv
 go_upto_region 2 with fail
 go_upto_region 3 with (refine wpList_load_mid rfl 131 _ rfl w.heap.size 3 rfl (strv K) _ RNG Tryz.underlying131 rfl SZ ?_)
 refine kids_loop w (w.alloc (.cells (nk::np::nv::strv K).toArray 133)) K hK (by go_grown) _ ?_ _ _ _ _ _ _ _ _ _ _ _ _ _ _ _ _;intro s0 s1 s2 s4 s5 s6 s7 s8 s9 s10 s11 s12 s13 s14 s15 s16 s17 s18 A c n w2 g1 g2 g3;go_wp2
 exact HP.out _ _ _ _ g1 g2 g3
end
end Go.Proofs.YtnelhjfjkkdoaaaGreatDoor