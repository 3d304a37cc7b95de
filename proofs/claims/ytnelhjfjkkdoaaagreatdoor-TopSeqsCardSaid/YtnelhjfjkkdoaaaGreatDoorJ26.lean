import Derived.Test.YtnelhjfjkkdoaaaGreatDoorJ24
import Derived.Test.YtnelhjfjkkdoaaaGreatDoorJ25
set_option linter.unusedSimpArgs false
set_option linter.unusedVariables false
set_option maxHeartbeats 4000000
set_option maxRecDepth 100000
namespace Go.Proofs.YtnelhjfjkkdoaaaGreatDoor
section
open Go.RowKit Go.Instr
attribute [local go_sem] ba_get ByteArray.mk_append_mk
attribute [local go_sem ↓] Go.wp_at_zero Go.wp_at_succ
theorem grown_of {w W W':World} {wb:Nat} (hb:Below w.heap.size w W) (hg:W.grownBy W' (some wb)):w.grownBy W' (some wb):=(only_of_below hb (some wb)).trans hg
theorem run_add64 (a b:Nat) (h:a+b≤9000000000000):IntKind.i64.wrap ((a:Int)+(b:Int))=((a+b:Nat):Int):=by
 rw [show (a:Int)+(b:Int)=((a+b:Nat):Int) by omega];exact IntWalk.i64_in _ (by omega)
theorem z_27 {P:Prop} (h:P:=by
 refine rd1 11 rfl (fun K hK=> ?_);have e0:=(F3.out.blk 0 rfl).d0;have e1:=(F3.out.blk 0 rfl).d1;have e2:=(F3.out.blk 0 rfl).d2;have z0:=F3.out.frozen 0 0 rfl;have z1:=F3.out.frozen 0 1 rfl;have z2:=F3.out.frozen 0 2 rfl;have FE:Hid (Live w (((W3.setCell ⟨tb,0,none⟩ (.string ⟨dt.toArray⟩)).setCell ⟨tb,1,none⟩ (.int .i64 (a1:Int))).setCell ⟨tb,2,none⟩ (.int .i64 (a2:Int))) [(tb,62,#[dt,a1,a2]),(xb,80,#[kd,fr,sq,dt,am,ky,vl,.slice A mm.length c]),(ab,62,#[fr,f1,f2])]):=ι (((F3.out.set 0 0 _ rfl).set 0 1 _ rfl).set 0 2 _ rfl);go_simp
 refine hK.out _ _ ⟨(FE.out.b.cell (p:=⟨wb,0,none⟩) HNe.out).trans KW.out,FE.out.cell 1 3 rfl rfl⟩ (fun hHeld=> ?_);clear hK e0 e1 e2 z0 z1 z2;try go_frame
 refine tk 12 7 rfl ?_;try go_frame
 refine wpAnyH_done (by kernel_rfl) ?_ _;refine NoPanic.normal ?_;generalize ((W3.setCell ⟨tb,0,none⟩ _).setCell ⟨tb,1,none⟩ _).setCell ⟨tb,2,none⟩ _=WE at FE ⊢;go_wp2_with fail
 go_meet
 exact ⟨tb,rfl,FE.out⟩):P:=h
theorem work_move (w:World) (wb:Nat) (t:Trie.T) (h:WorkP w wb t 0) (hn:Trie.count t<1024) (hT:Tbl w) (fr dt:List UInt8) (f tt:Nat × Nat) (hf:f.1≤Ex.maxA∧f.2≤Ex.maxA) (hd:Ex.nameW dt=true) (htt:Ex.acc t dt=some tt)
  (kd sq:Int) (am:Nat) (h1:1≤am) (h2:am≤Ex.maxA) (ky vl:List UInt8) (mm:List Pw.Mem) (A:Option Addr) (c:Nat) (hk:kd=1):
  Calls Tryz.prog 191 #[.pointer (some ⟨wb,0,none⟩),.agg #[fr,f.1,f.2],.agg #[kd,fr,sq,dt,am,ky,vl,.slice A mm.length c]] w
   (WkEnd w wb (Ex.kindW t ⟨kd,fr,sq,dt,(am:Int),ky,vl,mm⟩ f tt).1 (Ex.kindW t ⟨kd,fr,sq,dt,(am:Int),ky,vl,mm⟩ f tt).2.1):=by
 have hX:Ex.kindW t ⟨kd,fr,sq,dt,(am:Int),ky,vl,mm⟩ f tt=if (f.1:Int)<(am:Int) then (t,161,0)
  else if dt=fr then (t,0,f.1)
  else if (1099511627776:Int) - (am:Int)<tt.1 then (t,1,0)
  else (Trie.put t (Nib.of (Ex.aKey dt)) (Ex.writA (tt.1+am,tt.2)),0,f.1 - am):=by
  rw [Ex.kindW_1 (by exact hk)];simp only [Int.toNat_natCast]
 have HP:Hid (∀ t' (c' z:Nat) w',Ex.kindW t ⟨kd,fr,sq,dt,(am:Int),ky,vl,mm⟩ f tt=(t',c',z)→WorkP w' wb t' c'→w.grownBy w' (some wb)→WkEnd w wb (Ex.kindW t ⟨kd,fr,sq,dt,(am:Int),ky,vl,mm⟩ f tt).1 (Ex.kindW t ⟨kd,fr,sq,dt,(am:Int),ky,vl,mm⟩ f tt).2.1 (.returned (.tuple #[])) w'):=ι (fun t' c' z w' e a b=>by rw [e]; exact ⟨rfl,a,b⟩);generalize WkEnd w wb (Ex.kindW t ⟨kd,fr,sq,dt,(am:Int),ky,vl,mm⟩ f tt).1 (Ex.kindW t ⟨kd,fr,sq,dt,(am:Int),ky,vl,mm⟩ f tt).2.1=P at HP ⊢;generalize Ex.kindW t ⟨kd,fr,sq,dt,(am:Int),ky,vl,mm⟩ f tt=X at *;have HX:=ι hX;have hdl:=Ex.nameW_len hd;have hle:=Ex.acc_le htt;have HAc:=ι (fun W v (hW:TrieP W t v)=>exec_Account W t v hW dt (by omega));unfold accW at HAc;rw [hd,htt,if_pos rfl] at HAc;have HW0:=ι h;have HSv:=ι (fun W (hW:Below w.heap.size w W) (k1:tt.1+am≤2000000000000)=>work_save_ok W wb t (h.next hW) hn (hT.next hW) dt hdl.2 (tt.1+am) tt.2 k1 (by unfold Ex.maxA at hle; omega));obtain ⟨f1,f2⟩:=f;obtain ⟨a1,a2⟩:=tt;simp only at hX HX hf hle HSv HAc ⊢;unfold Ex.maxA at hf hle h2;have HLe:=ι (And.intro hf (And.intro hle (And.intro h1 h2)));clear hX hdl hd htt h hn hT hk;go_enter Tryz.func191,Tryz.ntmps191
 go_upto_region 1 with fail
 obtain ⟨ab,hab⟩:∃ ab,w.heap.size=ab:=⟨_,rfl⟩
 obtain ⟨xb,hxb⟩:∃ xb,w.heap.size+1=xb:=⟨_,rfl⟩
 have F0:=Live.ha (Live.ha (ι (Live.start w)) #[fr,f1,f2] 62) #[kd,fr,sq,dt,am,ky,vl,.slice A mm.length c] 80;rw [show (w.alloc (.cells #[fr,f1,f2] 62)).heap.size=w.heap.size+1 from by show (w.heap.push _).size=_; exact Array.size_push _] at F0;rw [hxb,hab] at F0 ⊢;generalize (w.alloc (.cells #[fr,f1,f2] 62)).alloc (.cells #[kd,fr,sq,dt,am,ky,vl,.slice A mm.length c] 80)=W0 at F0 ⊢;have HNe:Hid (wb<w.heap.size):=ι HW0.out.lt;clear hab hxb;have k1:=(F0.out.blk 1 rfl).c3;have k0:=(F0.out.blk 0 rfl).c8;by_cases g1:(f1:Int)<(am:Int)
 ·have hz:X=(t,161,0):=by rw [HX.out,if_pos g1]
  have HZ:=ι hz;obtain ⟨v,hB,hK⟩:=HW0.out.next F0.out.b;have HB:=ι (And.intro hB hK);have b1:W0.frozen? ⟨wb,1,none⟩=false:=hB.frozen 1;have k1:W0.cell? ⟨wb,1,none⟩=some (.int .i64 0):=hB.cell 1;clear hB hK hz HX HSv HAc;go_wp2_with fail
  go_end0
  exact HP.out t 161 0 _ HZ.out (WorkP.set1 HB.out.1 HB.out.2) (grown_of F0.out.b (grown_cell (World.grownBy.refl W0 _) 1 _))
 have g1':((f1:Int)<(am:Int))=False:=by simp; omega
 have HX:=ι (HX.out.trans (if_neg g1));by_cases g2:dt=fr
 ·have hz:X=(t,0,f1):=by rw [HX.out,if_pos g2]
  have HZ:=ι hz;have g2b:(dt==fr)=true:=by simp [g2]
  clear hz HX HSv HAc g1;go_wp2_with fail
  go_end0
  exact HP.out t 0 f1 _ HZ.out (HW0.out.next F0.out.b) (only_of_below F0.out.b (some wb))
 have g2b:(dt==fr)=false:=by rw [beq_eq_false_iff_ne]; exact g2
 have HX:=ι (HX.out.trans (if_neg g2));clear g1 g2;obtain ⟨v,hB,hK⟩:=id HW0.out;have HKk:=ι hK;have KW:=ι (show w.cell? ⟨wb,0,none⟩=some v from hB.cell 0);obtain ⟨_,vb,vx,rfl,_⟩:=id hK;clear hB hK;go_upto_region 4 with fail
 clear k0 k1;go_cut [6] (fun s6 wx=>∃ tb,s6= .pointer (some ⟨tb,0,none⟩)∧Live w wx [(tb,62,#[dt,a1,a2]),(xb,80,#[kd,fr,sq,dt,am,ky,vl,.slice A mm.length c]),(ab,62,#[fr,f1,f2])])
 case first=>
  clear HX HSv HLe g1' g2b;refine wp_region_noPanic ?_;have FQ:Hid (Live w W0.drew [(xb,80,#[kd,fr,sq,dt,am,ky,vl,.slice A mm.length c]),(ab,62,#[fr,f1,f2])]):=ι (Live.drew F0.out 1);refine wp_region_held_drew (S:=fun w'=>w'.cell? ⟨wb,0,none⟩=some (.pointer (some ⟨vb,0,none⟩))∧w'.cell? ⟨xb,3,none⟩=some (dt:Value)) (by kernel_rfl) ⟨(FQ.out.b.cell (p:=⟨wb,0,none⟩) HNe.out).trans KW.out,FQ.out.cell 0 3 rfl rfl⟩ (fun hHeld=> ?_);generalize W0.drew=W1 at FQ hHeld ⊢;clear F0;refine tk 0 22 rfl ?_;try go_frame
  refine tk 1 23 rfl ?_;try go_frame
  refine tk 2 24 rfl ?_;try go_frame
  refine tk 3 25 rfl ?_;try go_frame
  refine tk 4 26 rfl ?_;try go_frame
  refine tk 5 27 rfl ?_;try go_frame
  refine rd2 6 10 rfl rfl (fun K hK=> ?_) (fun K hK=> ?_)
  ·skip
   go_simp
   refine (HAc.out _ _ (HKk.out.next FQ.out.b)).mono ?_;rintro e W2 ⟨rfl,hb⟩;have F2:=Live.hb FQ hb;clear hb;refine hK.out _ _ ⟨(F2.out.b.cell (p:=⟨wb,0,none⟩) HNe.out).trans KW.out,F2.out.cell 0 3 rfl rfl⟩ (fun hHeld=> ?_);clear hK;try go_frame
   refine tk 7 21 rfl ?_;try go_frame
   refine tk 8 29 rfl ?_;try go_frame
   refine tk 9 30 rfl ?_;try go_frame
   refine rd1 10 rfl (fun K hK=> ?_);go_simp
   have F3:=Live.ha F2 #[ε,ζ,ζ] 62;refine hK.out _ _ ⟨(F3.out.b.cell (p:=⟨wb,0,none⟩) HNe.out).trans KW.out,F3.out.cell 1 3 rfl rfl⟩ (fun hHeld=> ?_);clear hK;try go_frame
   generalize World.alloc W2 _=W3 at F3 hHeld ⊢;generalize W2.heap.size=tb at F3 ⊢;exact z_27
  ·skip
   go_simp
   have F2:=Live.ha FQ #[ε,ζ,ζ] 62;refine hK.out _ _ ⟨(F2.out.b.cell (p:=⟨wb,0,none⟩) HNe.out).trans KW.out,F2.out.cell 1 3 rfl rfl⟩ (fun hHeld=> ?_);clear hK;try go_frame
   generalize World.alloc W1 _=W2 at F2 hHeld ⊢;generalize W1.heap.size=tb at F2 ⊢;refine rd1 6 rfl (fun K hK=> ?_);go_simp
   refine (HAc.out _ _ (HKk.out.next F2.out.b)).mono ?_;rintro e W3 ⟨rfl,hb⟩;have F3:=Live.hb F2 hb;clear hb;refine hK.out _ _ ⟨(F3.out.b.cell (p:=⟨wb,0,none⟩) HNe.out).trans KW.out,F3.out.cell 1 3 rfl rfl⟩ (fun hHeld=> ?_);clear hK;try go_frame
   refine tk 7 21 rfl ?_;try go_frame
   refine tk 8 29 rfl ?_;try go_frame
   refine tk 9 30 rfl ?_;try go_frame
   exact z_27
 case rest=>
 obtain ⟨tb,h6,h4⟩:=hcut;subst h6;rename World=>w4;have F4:=ι h4;clear h4 F0 HAc;obtain ⟨hf,hle,h1,h2⟩:=HLe.out;have hw:IntKind.i64.wrap (1099511627776 - (am:Int))=1099511627776 - (am:Int):=IntWalk.i64_in _ (by omega);have k0:=(F4.out.blk 0 rfl).c3;have k1:=(F4.out.blk 1 rfl).c8;by_cases g3:(1099511627776:Int) - (am:Int)<(a1:Int)
 ·have hz:X=(t,1,0):=by rw [HX.out,if_pos g3]
  have HZ:=ι hz;obtain ⟨v,hB,hK⟩:=HW0.out.next F4.out.b;have HB:=ι (And.intro hB hK);have b1:w4.frozen? ⟨wb,1,none⟩=false:=hB.frozen 1;have k1:w4.cell? ⟨wb,1,none⟩=some (.int .i64 0):=hB.cell 1;clear hB hK hz HX HSv HLe;go_wp2_with fail
  go_end0
  exact HP.out t 1 0 _ HZ.out (WorkP.set1 HB.out.1 HB.out.2) (grown_of F4.out.b (grown_cell (World.grownBy.refl w4 _) 1 _))
 have g3':((1099511627776:Int) - (am:Int)<(a1:Int))=False:=by simp; omega
 have hz:X=(Trie.put t (Nib.of (Ex.aKey dt)) (Ex.writA (a1+am,a2)),0,f1 - am):=by rw [HX.out,if_neg g3]
 have HZ:=ι hz;have hsum:=run_add64 a1 am (by omega);have HSm:=ι (show a1+am≤2000000000000 by omega);have b1:=F4.out.frozen 0 1 rfl;clear g3 hz HX HLe hf hle h1 h2;go_upto_region 8 with fail
 have F5:=Live.hs F4 0 1 (.int .i64 ((a1:Int)+(am:Int))) rfl;simp only [List.set_cons_zero,List.setIfInBounds_toArray,List.set_cons_succ] at F5;generalize w4.setCell ⟨tb,1,none⟩ _=w5 at F5 ⊢;rw [show (a1:Int)+(am:Int)=((a1+am:Nat):Int) by omega] at F5;clear F4 k0 k1 b1;have k0:=(F5.out.blk 0 rfl).c3;go_wp2_with fail
 refine (HSv.out _ F5.out.b HSm.out).mono ?_;rintro e w6 ⟨rfl,hk6,hg6⟩;have K6:=ι (And.intro hk6 hg6);clear hk6 hg6;go_wp2_with fail
 go_end0
 exact HP.out _ 0 _ _ HZ.out K6.out.1 (grown_of F5.out.b K6.out.2)
def OddEnd (w:World) (b:Bool) (e:Ending) (w':World):Prop:=(∃ i:Int,e= .returned (.int .i64 i)∧(b=true→i<0)∧(b=false→0≤i))∧w=w'
theorem idx_odd (w:World) (A:Option Addr) (c:Nat) (l:List (List UInt8)) (hl:l.length≤9223372036854775807) (hs:∀ s∈l,s.length≤9223372036854775807) (HR:Reads w w.heap.size 1 A l.length (strv l)):
  Calls Tryz.prog 160 #[.slice A l.length c,.func (.func 128) #[] #[]] w (OddEnd w (l.all Hd.sumB)):=by
 have HP:Hid (∀ (i:Int),(l.all Hd.sumB=true→i<0)→(l.all Hd.sumB=false→0≤i)→OddEnd w (l.all Hd.sumB) (.returned (.int .i64 i)) w):=ι (fun i h1 h2=>⟨⟨i,rfl,h1,h2⟩,rfl⟩);generalize OddEnd w (l.all Hd.sumB)=P at HP ⊢;obtain ⟨X,hX⟩:∃ X,l.all Hd.sumB=X:=⟨_,rfl⟩
 rw [hX] at HP;have HX:=ι hX;have HRR:=ι HR;have HS:=ι hs;have HL:=ι hl;clear HR hX hs hl;go_enter Tryz.func160,Tryz.ntmps160
 go_wp2_with fail
 refine wp_loop_ghost_k (fun k a wr=>∀ Φ:Act→Prop,(∀ ⦃s2 s3 s4 s5 s9 s0 s1 s6 s7 s8 a0 a2 a3 a4:Value⦄ (i:Nat),(i+k=l.length∧(l.take i).all Hd.sumB=true∧w=wr)→Φ {tmps:=#[.slice A l.length c,.func (.func 128) #[] #[],s2,s3,s4,s5,.slice A l.length c,.int .i64 l.length,.int .i64 (i:Int),s9,s0,s1,s6,s7,s8,a0,a2,a3,a4],defers:= []})→Φ a) (l.length) ?_ ?_
 ·refine fun Φ hΦ=>hΦ (0) ?_;exact ⟨by omega,rfl,rfl⟩
 ·intro k1 a1 wr1 hI1 J1 K1 hJ1 hK1;refine hI1 (fun a=>Code.wp _ _ _ a _) ?_;clear hI1 a1;iterate 14 (intro _)
  intro i hrel
  show Code.wp _ _ _ _ _;obtain ⟨h1,h2,rfl⟩:=hrel;by_cases hi:i<l.length
  ·obtain ⟨ad,off,rfl,hbl,hcell⟩:=few_cell HRR.out hi;have r0:=hcell _ (Below.refl _ _);have hi1:(i:Int)<l.length:=by omega
   have hi0:(0:Int)≤i:=by omega
   have hw:IntKind.i64.wrap ((i:Int)+1)=(i:Int)+1:=IntWalk.i64_in _ (by have:=HL.out; omega);have HO:=ι (fun W=>hd_odd l[i] (HS.out _ (List.getElem_mem hi)) W);have HN:Hid (Hd.sumB l[i]=false→X=false):=ι (fun e=>by
    rw [←HX.out,List.all_eq_false];exact ⟨_,List.getElem_mem hi,by rw [e]; decide⟩)
   have HY:Hid (Hd.sumB l[i]=true→(l.take (i+1)).all Hd.sumB=true):=ι (fun e=>by
    rw [List.take_succ_eq_append_getElem hi,List.all_append,h2];simp [e])
   have HI:=ι h1;clear h1 h2 hcell hbl;generalize l[i]=s at *;generalize Hd.sumB s=b at *;cases b with
   |false=>
    have HN2:=ι (HN.out rfl);clear HN HY;go_wp2_with fail
    refine (HO.out _).mono ?_;rintro e w1 ⟨rfl,rfl⟩;go_wp2_with fail
    exact HP.out _ (fun e=>by rw [HN2.out] at e; cases e) (fun _=>by omega)
   |true=>
    have HY2:=ι (HY.out rfl);clear HN HY;go_wp2_with fail
    refine (HO.out _).mono ?_;rintro e w1 ⟨rfl,rfl⟩;go_wp2_with fail
    refine Handed.intro (l.length - (i+1)) ?_ (hJ1 _ _ _ (fun Φ hΦ=>hΦ (i+1) ?_))
    ·have:=HI.out; omega
    exact ⟨by have:=HI.out; omega,HY2.out,rfl⟩
  ·have hi1:((i:Int)<l.length)=False:=by simp; omega
   have HE:Hid (X=true):=ι (by rw [←HX.out,←h2,List.take_of_length_le (by omega)]);clear h1 h2 hi;go_wp2_with fail
   exact HP.out _ (fun _=>by decide) (fun e=>by rw [HE.out] at e; cases e)
theorem has_odd (w:World) (A:Option Addr) (c:Nat) (l:List (List UInt8)) (hl:l.length≤9223372036854775807) (hs:∀ s∈l,s.length≤9223372036854775807) (HR:Reads w w.heap.size 1 A l.length (strv l)):
  Calls Tryz.prog 129 #[.slice A l.length c,.func (.func 128) #[] #[]] w fun e w'=>e= .returned (.bool (!l.all Hd.sumB))∧w=w':=by
 have HI:=ι (idx_odd w A c l hl hs HR);generalize l.all Hd.sumB=b at *;clear HR hs;go_enter Tryz.func129,Tryz.ntmps129
 go_wp2_with fail
 refine HI.out.mono ?_;rintro e w1 ⟨⟨i,rfl,h1,h2⟩,rfl⟩;have hb:decide (0≤i)= !b:=by
  cases b with
  |false=>exact decide_eq_true (h2 rfl)
  |true=>exact decide_eq_false (by have:=h1 rfl; omega)
 have HB:=ι hb;clear h1 h2 hb;go_wp2_with fail
 go_ret
 exact ⟨ret_bool HB.out,rfl⟩
theorem z_33 {P:Prop} (h:P:=by
 go_wp2_with fail
 refine (H5.out _).mono ?_;rintro e w1 ⟨rfl,rfl⟩;go_wp2_with fail
 refine (H6.out _).mono ?_;rintro e w1 ⟨rfl,rfl⟩;go_wp2_with fail
 refine (H7.out _).mono ?_;rintro e w1 ⟨rfl,rfl⟩;cases b7 with
 |false=>
  go_wp2_with fail
  exact HP.out _ _ HX.out F0.out.b
 |true=>
 go_wp2_with fail
 refine (H8.out _).mono ?_;rintro e w1 ⟨rfl,rfl⟩;cases b8 with
 |false=>
  go_wp2_with fail
  exact HP.out _ _ HX.out F0.out.b
 |true=>
 go_wp2_with fail
 refine (H9.out _).mono ?_;rintro e w1 ⟨rfl,rfl⟩;go_wp2_with fail
 exact HP.out _ _ (by rw [HX.out]; rfl) F0.out.b):P:=h
theorem hd_sums (w:World) (h:Hd) (o:OkH h) (A:Option Addr) (c:Nat) (HR:Reads w w.heap.size 1 A h.sk.length (strv h.sk)):
  Calls Tryz.prog 88 #[.agg (η h [.slice A h.sk.length c])] w (Ret w (.bool (Hd.skB h && Hd.restB h))):=by
 have HP:Hid (∀ (b:Bool) w',(Hd.skB h && Hd.restB h)=b→Below w.heap.size w w'→Ret w (.bool (Hd.skB h && Hd.restB h)) (.returned (.bool b)) w'):=ι (fun b w' e h=>by rw [e]; exact ⟨rfl,h⟩);generalize Ret w (.bool (Hd.skB h && Hd.restB h))=P at HP ⊢;have HX:Hid ((Hd.skB h && Hd.restB h)=(decide (h.sk.length=(Hd.linksH h.hgt).length) && h.sk.all Hd.sumB && (Hd.sumB h.tx && Hd.sumB h.mem && Hd.sumB h.nxt && Hd.maybeB h.st && Hd.maybeB h.rc))):=ι rfl;generalize (Hd.skB h && Hd.restB h)=X at *;have H5:=ι (fun W=>hd_sum h.tx o.tx W);have H6:=ι (fun W=>hd_sum h.mem o.mem W);have H7:=ι (fun W=>hd_sum h.nxt o.nxt W);have H8:=ι (fun W=>hd_maybe h.st o.st W);have H9:=ι (fun W=>hd_maybe h.rc o.rc W);have HO:=ι (fun W (hW:Below w.heap.size w W)=>has_odd W A c h.sk o.sk o.skl ((HR.below hW).more hW.size));have HLk:=ι (fun W=>skip_Links_all h.hgt W);have hlk22:(Hd.linksH h.hgt).length≤22:=Hd.linksH_len _;have HSk:=ι o.sk;have HL0:Hid (h.hgt≤0→(Hd.linksH h.hgt).length=0):=ι (fun e=>by unfold Hd.linksH; rw [if_neg (by omega)]; rfl);have HA0:Hid (h.sk.length=0→h.sk.all Hd.sumB=true):=ι (fun e=>by rw [List.eq_nil_of_length_eq_zero e]; rfl);simp only [linksV_eq] at HLk;generalize Hd.linksH h.hgt=lk at *;generalize Hd.sumB h.tx=b5 at *;generalize Hd.sumB h.mem=b6 at *;generalize Hd.sumB h.nxt=b7 at *;generalize Hd.maybeB h.st=b8 at *;generalize Hd.maybeB h.rc=b9 at *;generalize h.sk.all Hd.sumB=ba at *;clear HR o;by_cases h0:0<h.hgt
 ·have h0':(0<h.hgt)=True:=by simp; omega
  clear HL0 HA0 h0;go_enter Tryz.func88,Tryz.ntmps88
  go_upto_region 1 with fail
  have F0:=Live.ha (ι (Live.start w)) (η h [.slice A h.sk.length c]) 65;generalize World.alloc w _=W0 at F0 ⊢;generalize w.heap.size=xb at F0 ⊢;obtain ⟨k0_0,k0_1,k0_2,k0_3,k0_4,k0_5,k0_6,k0_7,k0_8,k0_9,k0_10⟩:=(F0.out.blk 0 rfl).c11;by_cases e0:h.sk.length=lk.length
  ·have e0':((h.sk.length:Int)==(lk.length:Int))=true:=by simp; omega
   rw [decide_eq_true e0,Bool.true_and] at HX;clear e0;go_upto_region 5 with fail
   go_region_held3 (fun w'=>w'.cell? ⟨xb,0,none⟩=some (.int .i64 h.hgt)∧w'.cell? ⟨xb,10,none⟩=some (.slice A h.sk.length c)) (first|go_keep|(refine ⟨?_,?_⟩<;>assumption)) (first|(go_at_call 94; ((with_reducible refine (HLk.out _).mono ?_); (rintro e w2 ⟨v2,rfl,own2,hb⟩; obtain ⟨A2,c2,rfl,_,_,_⟩:=own_form own2; (first|have F0:=Live.hb F0 hb|have F0:=Live.hbd F0 hb); clear hb own2; have k0_0:=(F0.out.blk 0 rfl).d0; have k0_10:w2.cell? ⟨xb,10,none⟩=some (.slice A h.sk.length c):=F0.out.cell 0 10 rfl rfl)))|(go_at_call 129; ((with_reducible refine (HO.out _ F0.out.b).mono ?_); (rintro e w3 ⟨rfl,rfl⟩))))
   all_goals
    clear k0_0 k0_10 k0_1 k0_2 k0_3 k0_4 HO HLk;have k0_5:=(F0.out.blk 0 rfl).d5;have k0_6:=(F0.out.blk 0 rfl).d6;have k0_7:=(F0.out.blk 0 rfl).d7;have k0_8:=(F0.out.blk 0 rfl).d8;have k0_9:=(F0.out.blk 0 rfl).d9;cases ba with
    |false=>
     go_wp2_with fail
     exact HP.out _ _ HX.out F0.out.b
    |true=>
    rw [Bool.true_and] at HX;cases b5 with
    |false=>
     go_wp2_with fail
     refine (H5.out _).mono ?_;rintro e w1 ⟨rfl,rfl⟩;go_wp2_with fail
     exact HP.out _ _ HX.out F0.out.b
    |true=>
    cases b6 with
    |false=>
     go_wp2_with fail
     refine (H5.out _).mono ?_;rintro e w1 ⟨rfl,rfl⟩;go_wp2_with fail
     refine (H6.out _).mono ?_;rintro e w1 ⟨rfl,rfl⟩;go_wp2_with fail
     exact HP.out _ _ HX.out F0.out.b
    |true=>
    exact z_33
  ·have e0':((h.sk.length:Int)==(lk.length:Int))=false:=by simp; omega
   rw [decide_eq_false e0,Bool.false_and,Bool.false_and] at HX;clear e0 HO;go_upto_region 5 with fail
   refine wp_region_held_drew (S:=fun w'=>w'.cell? ⟨xb,0,none⟩=some (.int .i64 h.hgt)∧w'.cell? ⟨xb,10,none⟩=some (.slice A h.sk.length c)) (by kernel_rfl) ⟨k0_0,k0_10⟩ (fun hHeld=> ?_);refine tk 0 14 rfl ?_;try go_frame
   refine tk 1 15 rfl ?_;try go_frame
   refine tk 2 16 rfl ?_;try go_frame
   refine tk 3 17 rfl ?_;try go_frame
   refine tk 4 18 rfl ?_;try go_frame
   refine rd1 5 rfl (fun K hK=> ?_);go_simp
   refine (HLk.out _).mono ?_;rintro e w2 ⟨v2,rfl,own2,hb⟩;obtain ⟨A2,c2,rfl,_,_,_⟩:=own_form own2;have F0:=Live.hbd F0 hb;clear hb own2;go_simp
   refine hK.out _ _ ⟨F0.out.cell 0 0 rfl rfl,F0.out.cell 0 10 rfl rfl⟩ (fun hHeld=> ?_);clear hK K;try go_frame
   refine tk 6 20 rfl ?_;try go_frame
   refine tk 7 21 rfl ?_;try go_frame
   refine tk 8 22 rfl ?_;try go_frame
   refine tk 9 23 rfl ?_;try go_frame
   refine tk 10 24 rfl ?_;try go_frame
   refine tk 11 25 rfl ?_;try go_frame
   refine tk 12 26 rfl ?_;try go_frame
   refine tk 13 27 rfl ?_;try go_frame
   refine tk 14 28 rfl ?_;try go_frame
   refine tk 15 4 rfl ?_;try go_frame
   refine wpAnyH_done (by kernel_rfl) ?_ _;go_wp2_with fail
   exact HP.out _ _ HX.out F0.out.b
 ·have h0':(0<h.hgt)=False:=by simp; omega
  have hl0:=HL0.out (by omega);by_cases e0:h.sk.length=0
  ·have e0':((h.sk.length:Int)==0)=true:=by rw [e0]; rfl
   have hba:=HA0.out e0;subst hba;rw [decide_eq_true (show h.sk.length=lk.length by omega),Bool.true_and,Bool.true_and] at HX;clear HL0 HA0 h0 hl0 HO HLk hlk22 e0;go_enter Tryz.func88,Tryz.ntmps88
   go_upto_region 1 with fail
   have F0:=Live.ha (ι (Live.start w)) (η h [.slice A h.sk.length c]) 65;generalize World.alloc w _=W0 at F0 ⊢;generalize w.heap.size=xb at F0 ⊢;obtain ⟨k0_0,k0_1,k0_2,k0_3,k0_4,k0_5,k0_6,k0_7,k0_8,k0_9,k0_10⟩:=(F0.out.blk 0 rfl).c11;cases b5 with
   |false=>
    go_wp2_with fail
    refine (H5.out _).mono ?_;rintro e w1 ⟨rfl,rfl⟩;go_wp2_with fail
    exact HP.out _ _ HX.out F0.out.b
   |true=>
   cases b6 with
   |false=>
    go_wp2_with fail
    refine (H5.out _).mono ?_;rintro e w1 ⟨rfl,rfl⟩;go_wp2_with fail
    refine (H6.out _).mono ?_;rintro e w1 ⟨rfl,rfl⟩;go_wp2_with fail
    exact HP.out _ _ HX.out F0.out.b
   |true=>
   exact z_33
  ·have e0':((h.sk.length:Int)==0)=false:=by rw [beq_eq_false_iff_ne]; omega
   rw [decide_eq_false (show ¬h.sk.length=lk.length by omega),Bool.false_and,Bool.false_and] at HX;clear HL0 HA0 h0 hl0 HO HLk hlk22 e0;go_enter Tryz.func88,Tryz.ntmps88
   go_upto_region 1 with fail
   have F0:=Live.ha (ι (Live.start w)) (η h [.slice A h.sk.length c]) 65;generalize World.alloc w _=W0 at F0 ⊢;generalize w.heap.size=xb at F0 ⊢;obtain ⟨k0_0,k0_1,k0_2,k0_3,k0_4,k0_5,k0_6,k0_7,k0_8,k0_9,k0_10⟩:=(F0.out.blk 0 rfl).c11;go_wp2_with fail
   exact HP.out _ _ HX.out F0.out.b
theorem hd_Check (w:World) (h:Hd) (o:OkH h) (A:Option Addr) (c:Nat) (HR:Reads w w.heap.size 1 A h.sk.length (strv h.sk)):
  Calls Tryz.prog 39 #[.agg (η h [.slice A h.sk.length c])] w (Ret w (.int .i64 (if Hd.ok h then 0 else 190))):=by
 have HPn:Hid (∀ w',Hd.ok h=false→Below w.heap.size w w'→Ret w (.int .i64 (if Hd.ok h then 0 else 190)) (.returned (.int .i64 190)) w'):=ι (fun w' e h=>by rw [e]; exact ⟨rfl,h⟩);have HPy:Hid (∀ w',Hd.ok h=true→Below w.heap.size w w'→Ret w (.int .i64 (if Hd.ok h then 0 else 190)) (.returned (.int .i64 0)) w'):=ι (fun w' e h=>by rw [e]; exact ⟨rfl,h⟩);generalize Ret w (.int .i64 (if Hd.ok h then 0 else 190))=P at HPn HPy ⊢;have HX:Hid (Hd.ok h=(Hd.numsB h && Hd.firstB h && (Hd.skB h && Hd.restB h) && (h.last||(h.nxt==h.mem)))):=ι (by
  have hbe:(h.nxt==h.mem)=decide (h.nxt=h.mem):=by rw [Bool.eq_iff_iff]; simp
  rw [hbe]; rfl)
 have H1:=ι (fun W=>hd_numbers W h A c);have H2:=ι (fun W=>hd_first W h o A c);have H3:=ι (fun W (hW:Below w.heap.size w W)=>hd_sums W h o A c ((HR.below hW).more hW.size));generalize Hd.ok h=X at *;generalize Hd.numsB h=b1 at *;generalize Hd.firstB h=b2 at *;generalize (Hd.skB h && Hd.restB h)=b3 at *;clear HR o;go_enter Tryz.func39,Tryz.ntmps39
 go_upto_region 1 with fail
 have F0:=Live.ha (ι (Live.start w)) (η h [.slice A h.sk.length c]) 65;generalize World.alloc w _=W0 at F0 ⊢;generalize w.heap.size=xb at F0 ⊢;obtain ⟨k0_0,k0_1,k0_2,k0_3,k0_4,k0_5,k0_6,k0_7,k0_8,k0_9,k0_10⟩:=(F0.out.blk 0 rfl).c11;go_wp2_with fail
 refine (H1.out _).mono ?_;rintro e w1 ⟨rfl,hb⟩;have F1:=Live.hb F0 hb;clear hb F0 k0_0 k0_1 k0_2 k0_3 k0_4 k0_5 k0_6 k0_7 k0_8 k0_9 k0_10 H1;cases b1 with
 |false=>
  go_wp2_with fail
  exact HPn.out _ HX.out F1.out.b
 |true=>
 obtain ⟨k0_0,k0_1,k0_2,k0_3,k0_4,k0_5,k0_6,k0_7,k0_8,k0_9,k0_10⟩:=(F1.out.blk 0 rfl).c11;go_wp2_with fail
 refine (H2.out _).mono ?_;rintro e w2 ⟨rfl,hb⟩;have F2:=Live.hb F1 hb;clear hb F1 k0_0 k0_1 k0_2 k0_3 k0_4 k0_5 k0_6 k0_7 k0_8 k0_9 k0_10 H2;cases b2 with
 |false=>
  go_wp2_with fail
  exact HPn.out _ HX.out F2.out.b
 |true=>
 obtain ⟨k0_0,k0_1,k0_2,k0_3,k0_4,k0_5,k0_6,k0_7,k0_8,k0_9,k0_10⟩:=(F2.out.blk 0 rfl).c11;go_wp2_with fail
 refine (H3.out _ F2.out.b).mono ?_;rintro e w3 ⟨rfl,hb⟩;have F3:=Live.hb F2 hb;clear hb F2 k0_0 k0_1 k0_2 k0_3 k0_4 k0_5 k0_6 k0_7 k0_8 k0_9 k0_10 H3;cases b3 with
 |false=>
  go_wp2_with fail
  exact HPn.out _ HX.out F3.out.b
 |true=>
 obtain ⟨k0_0,k0_1,k0_2,k0_3,k0_4,k0_5,k0_6,k0_7,k0_8,k0_9,k0_10⟩:=(F3.out.blk 0 rfl).c11;cases hl:h.last with
 |true=>
  rw [hl] at HX k0_3;go_wp2_with fail
  exact HPy.out _ (by rw [HX.out]; rfl) F3.out.b
 |false=>
  rw [hl] at HX k0_3;cases hm:h.nxt==h.mem with
  |false=>
   rw [hm] at HX;go_wp2_with fail
   exact HPn.out _ HX.out F3.out.b
  |true=>
   rw [hm] at HX;go_wp2_with fail
   exact HPy.out _ (by rw [HX.out]; rfl) F3.out.b
theorem code_Flag (b:Bool) (w:World):
  Calls Tryz.prog 135 #[b] w fun e w'=>e= .returned (.string ⟨(Hd.flagW b).toArray⟩)∧w=w':=by
 cases b with
 |false=>
  go_enter Tryz.func135,Tryz.ntmps135
  go_wp2_with fail
  go_ret
  exact ⟨rfl,rfl⟩
 |true=>
  go_enter Tryz.func135,Tryz.ntmps135
  go_wp2_with fail
  go_ret
  exact ⟨rfl,rfl⟩
def HEncEnd (w:World) (h:Hd) (e:Ending) (w':World):Prop:=e= .returned (.tuple #[.string ⟨(if Hd.ok h then Hd.enc h else []).toArray⟩,.int .i64 (if Hd.ok h then 0 else 190)])∧Below w.heap.size w w'
theorem three_at (a b c:Nat) (i:Nat) (hi:i<3):(#[Value.int .i64 (a:Int),.int .i64 (b:Int),.int .i64 (c:Int)])[i]?=some (.int .i64 ((([a,b,c].getD i 0:Nat)):Int)):=by
 obtain rfl|rfl|rfl:i=0∨i=1∨i=2:=by omega
 ·rfl
 ·rfl
 ·rfl
theorem three_take (a b c:Nat) (i:Nat) (hi:i<3):(([a,b,c].take (i+1)).map numW).flatten=(([a,b,c].take i).map numW).flatten++numW ([a,b,c].getD i 0):=by
 obtain rfl|rfl|rfl:i=0∨i=1∨i=2:=by omega
 ·simp
 ·simp
 ·simp
theorem three_lt (a b c:Nat) (ha:a≤1048576) (hb:b≤1048576) (hc:c≤1048576) (i:Nat): [a,b,c].getD i 0≤1048576:=by
 match i with
 |0=>exact ha
 |1=>exact hb
 |2=>exact hc
 |n+3=>simp
theorem hd_Encode (w:World) (h:Hd) (o:OkH h) (A:Option Addr) (c:Nat) (HR:Reads w w.heap.size 1 A h.sk.length (strv h.sk)):
  Calls Tryz.prog 95 #[.agg (η h [.slice A h.sk.length c])] w (HEncEnd w h):=by
 have HP:Hid (∀ (s:List UInt8) (cd:Int) w',(if Hd.ok h then Hd.enc h else [])=s→(if Hd.ok h then (0:Int) else 190)=cd→Below w.heap.size w w'→HEncEnd w h (.returned (.tuple #[s,cd])) w'):=ι (fun s cd w' e1 e2 h=>by subst e1 e2; exact ⟨rfl,h⟩);generalize HEncEnd w h=P at HP ⊢;have HCk:=ι (fun W (hW:Below w.heap.size w W)=>hd_Check W h o A c ((HR.below hW).more hW.size));cases hk:Hd.ok h with
 |false=>
  rw [hk] at HP HCk;simp only [Bool.false_eq_true,if_false] at HP HCk;clear o HR hk;go_enter Tryz.func95,Tryz.ntmps95
  go_upto_region 1 with fail
  have F0:=Live.ha (ι (Live.start w)) (η h [.slice A h.sk.length c]) 65;generalize World.alloc w _=W0 at F0 ⊢;generalize w.heap.size=xb at F0 ⊢;obtain ⟨k0_0,k0_1,k0_2,k0_3,k0_4,k0_5,k0_6,k0_7,k0_8,k0_9,k0_10⟩:=(F0.out.blk 0 rfl).c11;go_wp2_with fail
  refine (HCk.out _ F0.out.b).mono ?_;rintro e w1 ⟨rfl,hb⟩;have F1:=Live.hb F0 hb;clear hb;go_wp2_with fail
  exact HP.out [] 190 _ rfl rfl F1.out.b
 |true=>
 rw [hk] at HP HCk;simp only [if_true] at HP HCk;have ok:=(Hd.ok_iff h).1 hk;have HY:Hid (Hd.enc h=(([h.hgt.toNat,h.epo.toNat,h.vw.toNat].map numW).flatten)++(((((((Hd.flagW h.last++textW h.par)++textW h.st)++textW h.rc)++h.tx)++h.mem)++h.nxt))++h.sk.flatten):=ι (by simp [Hd.enc]);have HF:=ι (fun W=>code_Flag h.last W);have HT1:=ι (fun W=>code_Text h.par (by have:=ok.par_le; omega) W);have HT2:=ι (fun W=>code_Text h.st (by have:=Hd.maybe_le ok.st; omega) W);have HT3:=ι (fun W=>code_Text h.rc (by have:=Hd.maybe_le ok.rc; omega) W);have HL:Hid ((Hd.flagW h.last).length=1∧(textW h.par).length≤41∧(textW h.st).length≤41∧(textW h.rc).length≤41∧h.tx.length=32∧h.mem.length=32∧h.nxt.length=32∧h.sk.length≤22):=ι ⟨rfl,Hd.textW_len ok.par_le,Hd.textW_len (Hd.maybe_le ok.st),Hd.textW_len (Hd.maybe_le ok.rc),ok.tx,ok.mem,ok.nxt,ok.sk_le⟩;have HSl:=ι ok.skl;have HRR:=ι HR;have h0:=ok.h0; have h1:=ok.h1; have e0:=ok.e0; have e1:=ok.e1; have v0:=ok.v0; have v1:=ok.v1
 obtain ⟨hg,ep,vw,la,pr,st,rc,tx,mm,nx,sk⟩:=h;simp only at *;obtain ⟨hg,rfl⟩:=Int.eq_ofNat_of_zero_le h0;obtain ⟨ep,rfl⟩:=Int.eq_ofNat_of_zero_le e0;obtain ⟨vw,rfl⟩:=Int.eq_ofNat_of_zero_le v0;simp only [Int.toNat_natCast] at HY;have HNm:=ι (fun i=>three_lt hg ep vw (by omega) (by omega) (by omega) i);clear o HR hk h0 h1 e0 e1 v0 v1 ok;go_enter Tryz.func95,Tryz.ntmps95
 go_upto_region 1 with fail
 have F0:=Live.ha (ι (Live.start w)) #[.int .i64 (⟨hg,ep,vw,la,pr,st,rc,tx,mm,nx,sk⟩:Hd).hgt,.int .i64 (⟨hg,ep,vw,la,pr,st,rc,tx,mm,nx,sk⟩:Hd).epo,.int .i64 (⟨hg,ep,vw,la,pr,st,rc,tx,mm,nx,sk⟩:Hd).vw,.bool (⟨hg,ep,vw,la,pr,st,rc,tx,mm,nx,sk⟩:Hd).last,.string ⟨(⟨hg,ep,vw,la,pr,st,rc,tx,mm,nx,sk⟩:Hd).par.toArray⟩,.string ⟨(⟨hg,ep,vw,la,pr,st,rc,tx,mm,nx,sk⟩:Hd).st.toArray⟩,.string ⟨(⟨hg,ep,vw,la,pr,st,rc,tx,mm,nx,sk⟩:Hd).rc.toArray⟩,.string ⟨(⟨hg,ep,vw,la,pr,st,rc,tx,mm,nx,sk⟩:Hd).tx.toArray⟩,.string ⟨(⟨hg,ep,vw,la,pr,st,rc,tx,mm,nx,sk⟩:Hd).mem.toArray⟩,.string ⟨(⟨hg,ep,vw,la,pr,st,rc,tx,mm,nx,sk⟩:Hd).nxt.toArray⟩,.slice A (⟨hg,ep,vw,la,pr,st,rc,tx,mm,nx,sk⟩:Hd).sk.length c] 65;simp only at F0;generalize World.alloc w _=W0 at F0 ⊢;generalize w.heap.size=xb at F0 ⊢;obtain ⟨k0_0,k0_1,k0_2,k0_3,k0_4,k0_5,k0_6,k0_7,k0_8,k0_9,k0_10⟩:=(F0.out.blk 0 rfl).c11;go_wp2_with fail
 refine (HCk.out _ F0.out.b).mono ?_;rintro e w1 ⟨rfl,hb⟩;have F1:=Live.hb F0 hb;clear hb F0 HCk k0_0 k0_1 k0_2 k0_3 k0_4 k0_5 k0_6 k0_7 k0_8 k0_9 k0_10;have k0_0:=(F1.out.blk 0 rfl).d0;have k0_1:=(F1.out.blk 0 rfl).d1;have k0_2:=(F1.out.blk 0 rfl).d2;go_wp2_with fail
 have F2:=Live.ha F1 #[hg,ep,vw] 3;generalize World.alloc w1 _=w2 at F2 ⊢;generalize w1.heap.size=ib at F2 ⊢;clear F1 k0_0 k0_1 k0_2;refine wp_loop_ghost_k (fun k a wr=>∀ Φ:Act→Prop,(∀ ⦃s0 s2 s3 s4 s6 s7 s8 s9 a0 a3 a4 a5 a6 a7 a8 a9 b0 b1 b2 b3 b4 b8 b9 c0 c1 c2 c3 c4 c5 c6 c7 c8 c9 e3 e4 e5 e6 e7 e8 e9 f0 f1 f2 f3 f4 f5 f6 f7 f8 f9 g0 g1 g2 g3 g4 g5 g6 g7 g8 g9 h4 h5 h6 h7 h8 h9 i0 i1 i2 i3 i4:Value⦄ (i:Nat) (S:List UInt8),(i+k=3∧S=(([hg,ep,vw].take i).map numW).flatten∧S.length≤9*i∧Live w wr [(ib,3,#[hg,ep,vw]),(xb,65,#[hg,ep,vw,la,pr,st,rc,tx,mm,nx,.slice A sk.length c])])→Φ {tmps:=#[s0,.pointer (some ⟨xb,0,none⟩),s2,s3,s4,.string ⟨S.toArray⟩,s6,s7,s8,s9,a0,a3,a4,a5,a6,a7,a8,a9,b0,b1,b2,b3,b4,.slice (some ⟨ib,0,none⟩) 3 3,.int .i64 3,.int .i64 (i:Int),b8,b9,c0,c1,c2,c3,c4,c5,c6,c7,c8,c9,e3,e4,e5,e6,e7,e8,e9,f0,f1,f2,f3,f4,f5,f6,f7,f8,f9,g0,g1,g2,g3,g4,g5,g6,g7,g8,g9,h4,h5,h6,h7,h8,h9,i0,i1,i2,i3,i4],defers:= []})→Φ a) (3) ?_ ?_
 ·refine fun Φ hΦ=>hΦ (0) ([]) ?_;exact ⟨by omega,by simp,by simp,F2.out⟩
 ·intro k1 a1 wr1 hI1 J1 K1 hJ1 hK1;refine hI1 (fun a=>Code.wp _ _ _ a _) ?_;clear hI1 a1;intro s0 s1 s2 s3 s4 s5 s6 s7 s8 s9 a0 a3 a4 a5 a6 a7 a8 a9 b0 b1 b2 b3 b4 b5 b6 b7 b8 b9 c0 c1 c2 c3 c4 c5 c6 c7 c8 c9 e3 e4 e5 e6 e7 e8 e9 f0 f1 f2 f3 f4 f5 f6 f7 f8 f9 g0 g1 g2 g3 g4 g5 g6 g7 g8 g9 h4 h5 h6 h7 h8 h9 i S hrel
  show Code.wp _ _ _ _ _;obtain ⟨h1,h2,h3,hF⟩:=hrel;by_cases hi:i<3
  ·have hi1:(i:Int)<3:=by omega
   have hi0:(0:Int)≤i:=by omega
   have r0:wr1.cell? ⟨ib,i,none⟩=some (.int .i64 (([hg,ep,vw].getD i 0:Nat):Int)):=(hF.blk 0 rfl).cell i|>.trans (three_at hg ep vw i hi);have HC:=ι (fun W=>code_Num ([hg,ep,vw].getD i 0) (by have:=HNm.out i; omega) W);have HS:Hid (S++numW ([hg,ep,vw].getD i 0)=(([hg,ep,vw].take (i+1)).map numW).flatten):=ι (by rw [three_take _ _ _ _ hi,h2]);have hlq:=numW_len ([hg,ep,vw].getD i 0) (by have:=HNm.out i; omega);have HF0:=ι hF;clear hF h2;generalize [hg,ep,vw].getD i 0=q at *;go_wp2_with fail
   refine (HC.out _).mono ?_;rintro e w3 ⟨rfl,hb⟩;have F3:=Live.hb HF0 hb;clear hb HF0 HC r0;generalize numW q=Q at *;have hle:S.length+Q.length≤9*(i+1):=by omega
   have HI:=ι (And.intro h1 (show (S++Q).length≤9*(i+1) by rw [List.length_append]; omega));have m1:S.length+Q.length≤9223372036854775807:=by omega
   clear h1 h3 hlq hle;go_wp2_with fail
   refine Handed.intro (3 - (i+1)) ?_ (hJ1 _ _ _ (fun Φ hΦ=>hΦ (i+1) (S++Q) ?_))
   ·have:=HI.out.1; omega
   exact ⟨by have:=HI.out.1; omega,HS.out,HI.out.2,F3.out⟩
  ·have hi1:((i:Int)<3)=False:=by simp; omega
   obtain rfl:i=3:=by omega
   have HS:Hid (S=([hg,ep,vw].map numW).flatten∧S.length≤27):=ι ⟨h2,h3⟩;have F3:=ι (hF.drop 1);simp only [List.drop_succ_cons,List.drop_zero] at F3;clear h1 h2 h3 hF hi;obtain ⟨l1,l2,l3,l4,l5,l6,l7,l8⟩:=HL.out;have HTot:Hid (((((((Hd.flagW la++textW pr)++textW st)++textW rc)++tx)++mm)++nx).length≤300):=ι (by simp only [List.length_append]; omega);have HY2:Hid (({hgt:=(hg:Int),epo:=(ep:Int),vw:=(vw:Int),last:=la,par:=pr,st:=st,rc:=rc,tx:=tx,mem:=mm,nxt:=nx,sk:=sk}:Hd).enc=(S++(((((((Hd.flagW la++textW pr)++textW st)++textW rc)++tx)++mm)++nx)))++sk.flatten):=ι (by rw [HY.out,←HS.out.1]);have hS27:=HS.out.2;generalize Hd.flagW la=X0 at *;generalize textW pr=X1 at *;generalize textW st=X2 at *;generalize textW rc=X3 at *;have m1:X0.length+X1.length≤9223372036854775807:=by omega
   have n1:(9223372036854775807<X0.length+X1.length)=False:=by simp; omega
   have m2:X0.length+X1.length+X2.length≤9223372036854775807:=by omega
   have n2:(9223372036854775807<X0.length+X1.length+X2.length)=False:=by simp; omega
   have q2:(9223372036854775807<X0.length+(X1.length+X2.length))=False:=by simp; omega
   have m3:X0.length+X1.length+X2.length+X3.length≤9223372036854775807:=by omega
   have n3:(9223372036854775807<X0.length+X1.length+X2.length+X3.length)=False:=by simp; omega
   have q3:(9223372036854775807<X0.length+(X1.length+(X2.length+X3.length)))=False:=by simp; omega
   have m4:X0.length+X1.length+X2.length+X3.length+tx.length≤9223372036854775807:=by omega
   have n4:(9223372036854775807<X0.length+X1.length+X2.length+X3.length+tx.length)=False:=by simp; omega
   have q4:(9223372036854775807<X0.length+(X1.length+(X2.length+(X3.length+tx.length))))=False:=by simp; omega
   have m5:X0.length+X1.length+X2.length+X3.length+tx.length+mm.length≤9223372036854775807:=by omega
   have n5:(9223372036854775807<X0.length+X1.length+X2.length+X3.length+tx.length+mm.length)=False:=by simp; omega
   have q5:(9223372036854775807<X0.length+(X1.length+(X2.length+(X3.length+(tx.length+mm.length)))))=False:=by simp; omega
   have m6:X0.length+X1.length+X2.length+X3.length+tx.length+mm.length+nx.length≤9223372036854775807:=by omega
   have n6:(9223372036854775807<X0.length+X1.length+X2.length+X3.length+tx.length+mm.length+nx.length)=False:=by simp; omega
   have q6:(9223372036854775807<X0.length+(X1.length+(X2.length+(X3.length+(tx.length+(mm.length+nx.length))))))=False:=by simp; omega
   have m7:S.length+(X0.length+X1.length+X2.length+X3.length+tx.length+mm.length+nx.length)≤9223372036854775807:=by omega
   have n7:(9223372036854775807<S.length+(X0.length+X1.length+X2.length+X3.length+tx.length+mm.length+nx.length))=False:=by simp; omega
   have q7:(9223372036854775807<S.length+(X0.length+(X1.length+(X2.length+(X3.length+(tx.length+(mm.length+nx.length)))))))=False:=by simp; omega
   have p3:(9223372036854775807<X0.length+(X1.length+X2.length)+X3.length)=False:=by simp; omega
   have p4:(9223372036854775807<X0.length+(X1.length+(X2.length+X3.length))+tx.length)=False:=by simp; omega
   have p5:(9223372036854775807<X0.length+(X1.length+(X2.length+(X3.length+tx.length)))+mm.length)=False:=by simp; omega
   have p6:(9223372036854775807<X0.length+(X1.length+(X2.length+(X3.length+(tx.length+mm.length))))+nx.length)=False:=by simp; omega
   clear l1 l2 l3 l4 l5 l6 l7 HS HY;have k0_3:=(F3.out.blk 0 rfl).d3;have k0_4:=(F3.out.blk 0 rfl).d4;have k0_5:=(F3.out.blk 0 rfl).d5;have k0_6:=(F3.out.blk 0 rfl).d6;have k0_7:=(F3.out.blk 0 rfl).d7;have k0_8:=(F3.out.blk 0 rfl).d8;have k0_9:=(F3.out.blk 0 rfl).d9;go_upto_region 11 with fail
   go_region_held3 (fun w'=>w'.cell? ⟨xb,3,none⟩=some (.bool la)∧w'.cell? ⟨xb,4,none⟩=some (pr:Value)∧w'.cell? ⟨xb,5,none⟩=some (st:Value)∧w'.cell? ⟨xb,6,none⟩=some (rc:Value)∧w'.cell? ⟨xb,7,none⟩=some (tx:Value)∧w'.cell? ⟨xb,8,none⟩=some (mm:Value)∧w'.cell? ⟨xb,9,none⟩=some (nx:Value)) (first|go_keep|(refine ⟨?_,?_,?_,?_,?_,?_,?_⟩<;>assumption)) (first|(go_at_call 135; ((with_reducible refine (HF.out _).mono ?_); (rintro e w3 ⟨rfl,rfl⟩)))|(go_at_call 124; ((first|(with_reducible refine (HT1.out _).mono ?_)|(with_reducible refine (HT2.out _).mono ?_)|(with_reducible refine (HT3.out _).mono ?_)); (rintro e w4 ⟨rfl,hb⟩; (first|have F3:=Live.hb F3 hb|have F3:=Live.hbd F3 hb); clear hb; have k0_3:=(F3.out.blk 0 rfl).d3; have k0_4:=(F3.out.blk 0 rfl).d4; have k0_5:=(F3.out.blk 0 rfl).d5; have k0_6:=(F3.out.blk 0 rfl).d6; have k0_7:=(F3.out.blk 0 rfl).d7; have k0_8:=(F3.out.blk 0 rfl).d8; have k0_9:w4.cell? ⟨xb,9,none⟩=some (nx:Value):=F3.out.cell 0 9 rfl rfl))))
   all_goals
    obtain ⟨S2,hS2⟩:∃ S2,S++(X0++(X1++(X2++(X3++(tx++(mm++nx))))))=S2:=⟨_,rfl⟩
    have HZ:Hid (({hgt:=(hg:Int),epo:=(ep:Int),vw:=(vw:Int),last:=la,par:=pr,st:=st,rc:=rc,tx:=tx,mem:=mm,nxt:=nx,sk:=sk}:Hd).enc=S2++sk.flatten∧S2.length≤327):=ι (by
     have h1:=HY2.out;have h2:=HTot.out;simp only [List.append_assoc] at h1 h2;refine ⟨by rw [h1,←hS2]; simp only [List.append_assoc],?_⟩;rw [←hS2,List.length_append];omega)
    rw [hS2];clear hS2 HY2 HTot m1 m2 m3 m4 m5 m6 m7 n1 n2 n3 n4 n5 n6 n7 q2 q3 q4 q5 q6 q7 k0_3 k0_4 k0_5 k0_6 k0_7 k0_8 k0_9 HF HT1 HT2 HT3 hS27 HL;have k0_10:=(F3.out.blk 0 rfl).d10;go_wp2_with fail
    refine wp_loop_ghost_k (fun k a wr=>∀ Φ:Act→Prop,(∀ ⦃s0 s1 s2 s3 s4 s6 s7 s8 s9 a0 a3 a4 a5 a6 a7 a8 a9 b0 b1 b2 b3 b4 b5 b6 b7 b8 b9 c0 c1 c2 c3 c4 c5 c6 c7 c8 c9 e3 e4 e5 e6 e7 e8 e9 f0 f1 f2 f3 f4 f5 f6 f7 f8 f9 g0 g1 g2 g3 g4 g5 g6 g7 g8 g9 h7 h8 h9 i0 i1 i2 i3 i4:Value⦄ (i:Nat) (S3:List UInt8),(i+k=sk.length∧S3=S2++(sk.take i).flatten∧S3.length≤327+32*i∧Below w.heap.size w wr)→Φ {tmps:=#[s0,s1,s2,s3,s4,.string ⟨S3.toArray⟩,s6,s7,s8,s9,a0,a3,a4,a5,a6,a7,a8,a9,b0,b1,b2,b3,b4,b5,b6,b7,b8,b9,c0,c1,c2,c3,c4,c5,c6,c7,c8,c9,e3,e4,e5,e6,e7,e8,e9,f0,f1,f2,f3,f4,f5,f6,f7,f8,f9,g0,g1,g2,g3,g4,g5,g6,g7,g8,g9,.slice A sk.length c,.int .i64 sk.length,.int .i64 (i:Int),h7,h8,h9,i0,i1,i2,i3,i4],defers:= []})→Φ a) (sk.length) ?_ ?_
    ·refine fun Φ hΦ=>hΦ (0) (S2) ?_;exact ⟨by omega,by simp,HZ.out.2,F3.out.b⟩
    ·intro k2 a2 wr2 hI2 J2 K2 hJ2 hK2;refine hI2 (fun a=>Code.wp _ _ _ a _) ?_;clear hI2 a2;iterate 72 (intro _)
     intro i S3 hrel
     show Code.wp _ _ _ _ _;obtain ⟨h1,h2,h3,hb⟩:=hrel;by_cases hi:i<sk.length
     ·obtain ⟨ad,off,rfl,hbl,hcell⟩:=few_cell HRR.out hi;have r0:=hcell _ hb;have hi1:(i:Int)<sk.length:=by omega
      have hi0:(0:Int)≤i:=by omega
      have hlen:=HSl.out _ (List.getElem_mem hi);have HI:=ι (And.intro h1 (And.intro hb (show S3++sk[i]=S2++(sk.take (i+1)).flatten by rw [List.take_succ_eq_append_getElem hi,h2,List.flatten_append,List.append_assoc,List.flatten_cons,List.flatten_nil,List.append_nil])));clear h1 h2 hb hcell hbl;generalize sk[i]=x at *;have m1:S3.length+x.length≤9223372036854775807:=by omega
      have HLn:Hid ((S3++x).length≤327+32*(i+1)):=ι (by rw [List.length_append]; omega);clear hlen h3;go_wp2_with fail
      refine Handed.intro (sk.length - (i+1)) ?_ (hJ2 _ _ _ (fun Φ hΦ=>hΦ (i+1) (S3++x) ?_))
      ·have:=HI.out.1; omega
      exact ⟨by have:=HI.out.1; omega,HI.out.2.2,HLn.out,HI.out.2.1⟩
     ·have hi1:((i:Int)<sk.length)=False:=by simp; omega
      have HE:Hid (({hgt:=(hg:Int),epo:=(ep:Int),vw:=(vw:Int),last:=la,par:=pr,st:=st,rc:=rc,tx:=tx,mem:=mm,nxt:=nx,sk:=sk}:Hd).enc=S3):=ι (by rw [HZ.out.1,h2,List.take_of_length_le (by omega)]);have HB:=ι hb;clear h1 h2 h3 hb hi;go_wp2_with fail
      exact HP.out _ _ _ HE.out rfl HB.out
theorem hd_Digest (w:World) (h:Hd) (o:OkH h) (A:Option Addr) (c:Nat) (HR:Reads w w.heap.size 1 A h.sk.length (strv h.sk)) (hT:Tbl w):
  Calls Tryz.prog 49 #[.agg (η h [.slice A h.sk.length c])] w (Ret w (.string ⟨(Hd.dig h).toArray⟩)):=by
 have HP:Hid (∀ (s:List UInt8) w',Hd.dig h=s→Below w.heap.size w w'→Ret w (.string ⟨(Hd.dig h).toArray⟩) (.returned (s:Value)) w'):=ι (fun b w' e h=>by rw [e]; exact ⟨rfl,h⟩);generalize Ret w (.string ⟨(Hd.dig h).toArray⟩)=P at HP ⊢;have HX:Hid (Hd.dig h=if Hd.ok h then shaW (2::Hd.enc h) else []):=ι rfl;have HE:=ι (fun W (hW:Below w.heap.size w W)=>hd_Encode W h o A c ((HR.below hW).more hW.size));unfold HEncEnd at HE;have HTb:=ι hT;have HLn:Hid (Hd.ok h=true→(Hd.enc h).length≤1000):=ι (fun e=>((Hd.ok_iff h).1 e).enc_len);generalize Hd.dig h=X at *;generalize Hd.enc h=s at *;generalize Hd.ok h=b at *;clear o HR hT;go_enter Tryz.func49,Tryz.ntmps49
 go_upto_region 1 with fail
 have F0:=Live.ha (ι (Live.start w)) (η h [.slice A h.sk.length c]) 65;generalize World.alloc w _=W0 at F0 ⊢;generalize w.heap.size=xb at F0 ⊢;have k0:=(F0.out.blk 0 rfl).c11;cases b with
 |false=>
  simp only [Bool.false_eq_true,if_false] at HE HX;go_wp2_with fail
  refine (HE.out _ F0.out.b).mono ?_;rintro e w1 ⟨rfl,hb⟩;have F1:=Live.hb F0 hb;clear hb;go_wp2_with fail
  exact HP.out [] _ HX.out F1.out.b
 |true=>
  simp only [if_true] at HE HX;have HDg:=ι (fun W (hW:Below w.heap.size w W)=>digest_Sum W 2 (by decide) (by decide) s (by have:=HLn.out rfl; omega) (HTb.out.next hW));clear HLn;have HX2:Hid (X=shaW (UInt8.ofNat 2::s)):=ι HX.out;generalize shaW (UInt8.ofNat 2::s)=d at *;go_wp2_with fail
  refine (HE.out _ F0.out.b).mono ?_;rintro e w1 ⟨rfl,hb⟩;have F1:=Live.hb F0 hb;clear hb;go_wp2_with fail
  refine (HDg.out _ F1.out.b).mono ?_;rintro e w2 ⟨rfl,hb⟩;have F2:=Live.hb F1 hb;clear hb;go_wp2_with fail
  exact HP.out _ _ HX2.out F2.out.b
theorem mk_conv (w:World) (s:List UInt8) (hl:s.length≤100000):∃ v w',(convert 9 118 (.string ⟨s.toArray⟩)).run Tryz.prog w= .ok v w'∧mkRow w' w.heap.size v s∧Below w.heap.size w w':=by
 have h:=run_bytes_of_string w 9 118 5 ⟨s.toArray⟩ Tryz.underlying9 Tryz.underlying118 Tryz.underlying5;have hs:(ByteArray.mk s.toArray).size=s.length:=by simp [ByteArray.size]
 rw [hs] at h;have hge:=grownCap_ge w s.length 0 5;have hm:=grownCap_le_maxLen w s.length 0 5 (by simp only [maxLen]; omega);refine ⟨_,_,h,⟨w.heap.size,_,_,_,rfl,Nat.le_refl _,heap_alloc_new w.drew _,fun j hj hc=>by simp only at hc; omega,hge,hm,?_,?_⟩,(((Below.refl _ w).drew).alloc (Nat.le_refl _) _)⟩
 ·simp [bytesRow,hs]; omega
 ·simp [bytesRow,bvals]
theorem mkRow.mono {w:World} {b b':Nat} {v:Value} {l:List UInt8} (h:mkRow w b v l) (hb:b'≤b):mkRow w b' v l:=by
 obtain ⟨g,cap,cur,fz,h1,h2,h3⟩:=h;exact ⟨g,cap,cur,fz,h1,Nat.le_trans hb h2,h3⟩
theorem mkRow.below {w w':World} {b:Nat} {v:Value} {l:List UInt8} (h:mkRow w b v l) (hb:Below w.heap.size w w'):mkRow w' b v l:=by
 obtain ⟨g,cap,cur,fz,h1,h2,h3,h4⟩:=h;exact ⟨g,cap,cur,fz,h1,h2,by rw [hb.block g (Array.getElem?_eq_some_iff.1 h3).1]; exact h3,h4⟩
theorem mkRow.own {w:World} {b:Nat} {v:Value} {l:List UInt8} (h:mkRow w b v l):∀ k,v.ownBlock=some k→b≤k:=by
 obtain ⟨g,cap,cur,fz,rfl,h2,h3,h4⟩:=h;intro k hk;simp [Value.ownBlock] at hk
 omega
theorem mkRow.reads {w:World} {b:Nat} {v:Value} {l:List UInt8} (h:mkRow w b v l):∃ A c,v= .slice A l.length c∧Reads w w.heap.size 1 A l.length (bvals l):=by
 obtain ⟨g,cap,cur,fz,rfl,h2,h3,_,h5,_,_,h8⟩:=h;refine ⟨_,_,rfl,by rw [bvals_length]; omega,fun hn=>⟨_,rfl,(Array.getElem?_eq_some_iff.1 h3).1,fun j u hu=> ?_⟩⟩;have ha:(⟨g,0,none⟩:Addr).add j=⟨g,j,none⟩:=by unfold Addr.add; split<;>simp_all
 rw [ha,cell_of_row w g j cur _ fz h3];rw [←h8,List.getElem?_take] at hu
 split at hu
 ·simpa using hu
 ·cases hu
theorem info_u8:∃ i,Tryz.prog.info? 5=some i∧i.zero=some (.int .u8 0)∧i.size=1∧i.bytes=1:=by
 have h:=info_byte;cases hi:Tryz.prog.info? 5 with
 |none=>rw [hi] at h; cases h
 |some i=>
  rw [hi] at h;simp only [Option.map_some,Option.some.injEq,Prod.mk.injEq] at h;exact ⟨i,rfl,h⟩
theorem wpList_append_mk {ops:Array Oper} {rest:List Oper} {o:Oper} {a:Act} {Q:Exit→Act→World→Prop} (w:World) (hgd:o.guard=none) (sl x:Operand) (ho:o.op= .call {callee:= .builtin .append,args:=#[sl,x],argTypes:=#[118,9]})
  (base:Nat) (v:Value) (l:List UInt8) (hs:a.eval sl=v) (h:mkRow w base v l) (s:List UInt8) (hx:a.eval x= .string ⟨s.toArray⟩) (hn:l.length+s.length≤100000) (hbase:base≤w.heap.size)
  (hK:∀ v' w',mkRow w' base v' (l++s)→w.grownBy w' v.ownBlock→wpList Tryz.prog ops Q rest (a.put o.dst v') w'):wpList Tryz.prog ops Q (o::rest) a w:=by
 obtain ⟨i,hi,hz,h1,h2⟩:=info_u8;obtain ⟨v',w',hr,q1,q2⟩:=mk_append w base o.type i hi hz h1 h2 v l h s hn hbase;refine wpList_plain hgd fun K' hK'=> ?_;unfold Oper.wp execOp;simp only [ho,resolve,invoke,builtin,Sem.run_bind,Sem.run_pure,Result.andThen_ok,List.map_toArray,List.map_cons,List.map_nil,hs,hx,hr];exact hK' _ _ (hK v' w' q1 q2)
def ceL (l:List (List UInt8)):List UInt8:=numW l.length++(l.map textW).flatten
theorem code_ListG (w:World) (l:List (List UInt8)) (h7:l.length≤100) (h6:∀ s∈l,s.length≤300) (A:Option Addr) (c:Nat) (HR:Reads w w.heap.size 1 A l.length (strv l)):
  Calls Tryz.prog 134 #[.slice A l.length c] w (Ret w (.string ⟨(ceL l).toArray⟩)):=by
 have HP:Hid (∀ (s:List UInt8) w',s=ceL l→Below w.heap.size w w'→Ret w (.string ⟨(ceL l).toArray⟩) (.returned (s:Value)) w'):=ι (fun s w' h1 h2=>by rw [h1]; exact ⟨rfl,h2⟩);have HX:Hid (ceL l=numW l.length++(l.map textW).flatten):=ι rfl;have HTx:Hid (∀ s,textW s=numW s.length++s):=ι (fun s=>rfl);generalize Ret w (.string ⟨(ceL l).toArray⟩)=P at HP ⊢;generalize ceL l=X at *;have HLL:=ι HR;have H7:=ι (And.intro h7 h6);have HNum:=ι (fun (n:Nat) (hn:n≤300) W=>code_num n (by omega) W);have HNl:Hid (∀ n:Nat,n≤300→(numW n).length≤9):=ι (fun n hn=>numW_len n (by omega));clear HR h7 h6;go_enter Tryz.func134,Tryz.ntmps134
 go_wp2_with fail
 refine (HNum.out l.length (by have:=H7.out.1; omega) _).mono ?_;rintro e w1 ⟨rfl,hb⟩;have HB1:=ι hb;have hnl:=HNl.out l.length (by have:=H7.out.1; omega);clear hb;generalize hNe:numW l.length=N at *;have HNe:=ι hNe;clear hNe;obtain ⟨v0,w2,hcv,hmk,hb⟩:=mk_conv w1 N (by omega);have HM0:=ι (hmk.mono HB1.out.size);have HB2:=ι (HB1.out.trans (hb.mono HB1.out.size));have HN:=ι hnl;clear hmk hb hnl;go_wp2_with fail
 refine wp_loop_ghost_k (fun k a wr=>∀ Φ:Act→Prop,(∀ ⦃s1 s4 s5 s6 s7 s8 s9 s0 s2 s3 a0 a2 a3 a4 a5 a6 a7 a8 a9 b0 b1:Value⦄ (i:Nat) (t:List UInt8) (v:Value),(i+k=l.length∧(t.length≤9+i*309∧t=N++((l.take i).map textW).flatten)∧mkRow wr w.heap.size v t∧Below w.heap.size w wr)→Φ {tmps:=#[.slice A l.length c,s1,.string ⟨#[]⟩,v,s4,s5,s6,s7,s8,s9,.slice A l.length c,.int .i64 (l.length:Int),.int .i64 (i:Int),s0,s2,s3,a0,a2,a3,a4,a5,a6,a7,a8,a9,b0,b1],defers:= []})→Φ a) (l.length) ?_ ?_
 ·refine fun Φ hΦ=>hΦ (0) (N) (v0) ?_;exact ⟨by omega,⟨by have:=HN.out; omega,by simp⟩,HM0.out,HB2.out⟩
 ·intro k1 a1 wr1 hI1 J1 K1 hJ1 hK1;refine hI1 (fun a=>Code.wp _ _ _ a _) ?_;clear hI1 a1;iterate 21 (intro _)
  intro i t v hrel
  show Code.wp _ _ _ _ _;obtain ⟨h1,⟨h2,h2e⟩,h3,hb⟩:=hrel;have HM:=ι h3;have HB:=ι hb;by_cases hi:i<l.length
  ·obtain ⟨ad,off,hA,hbl,hcell⟩:=str_at HLL.out hi;subst hA;have r0:=hcell _ hb;have hi1:(i:Int)<l.length:=by omega
   have hi0:(0:Int)≤i:=by omega
   have hwi:IntKind.i64.wrap ((i:Int)+1)=(i:Int)+1:=IntWalk.i64_in _ (by have:=H7.out.1; omega);have HSl:=ι (H7.out.2 _ (List.getElem_mem hi));have HI:=ι (And.intro h1 (And.intro hi h2));have HT1:Hid (t++numW l[i].length++l[i]=N++((l.take (i+1)).map textW).flatten):=ι (by
    rw [List.take_succ_eq_append_getElem hi,List.map_append,List.flatten_append,h2e,List.map_singleton,List.flatten_singleton,HTx.out];simp only [List.append_assoc])
   clear h2e;clear h1 h2 h3 hb hcell hbl;generalize l[i]=s at *;clear hi;have hs9:s.length≤9223372036854775807:=by have:=HSl.out; omega
   go_wp2_with fail
   refine (HNum.out s.length (by have:=HSl.out; omega) _).mono ?_;rintro e w3 ⟨rfl,hb⟩;have HM3:=ι (HM.out.below hb);have HB3:=ι (HB.out.trans (hb.mono HB.out.size));have HSn:=ι (HNl.out s.length (by have:=HSl.out; omega));clear hb HM HB r0;generalize numW s.length=N2 at *;go_upto_region 6 with (at_builtin; refine wpList_append_mk _ rfl _ _ rfl w.heap.size v t rfl HM3.out N2 rfl (by have:=HI.out; have:=H7.out.1; have:=HSn.out; omega) HB3.out.size ?_; intro v4 w4 hm4 hg4; have H4:=ι (And.intro hm4 hg4); clear hm4 hg4)
   have HB4:=ι (HB3.out.grown H4.out.2 HB3.out.size (fun k e=>HM3.out.own k e));have HM4:=ι H4.out.1;clear H4 HM3 HB3;go_wp2_with (at_builtin; refine wpList_append_mk _ rfl _ _ rfl w.heap.size v4 (t++N2) rfl HM4.out s rfl (by have:=HI.out; have:=H7.out.1; have:=HSn.out; have:=HSl.out; rw [List.length_append]; omega) HB4.out.size ?_; intro v5 w5 hm5 hg5; have H5:=ι (And.intro hm5 hg5); clear hm5 hg5)
   refine Handed.intro (l.length - (i+1)) ?_ (hJ1 _ _ _ (fun Φ hΦ=>hΦ (i+1) (t++N2++s) (v5) ?_))
   ·have:=HI.out; omega
   ·exact ⟨by have:=HI.out; omega,⟨by have:=HI.out; have:=HSn.out; have:=HSl.out; simp only [List.length_append]; omega,HT1.out⟩,H5.out.1,HB4.out.grown H5.out.2 HB4.out.size (fun k e=>HM4.out.own k e)⟩
  ·have hi1:((i:Int)<l.length)=False:=by simp; omega
   have HT:Hid (t=X):=ι (by rw [h2e,HX.out,List.take_of_length_le (by omega)]);clear h1 h2 h2e h3 hb hi;obtain ⟨A5,c5,rfl,hr⟩:=HM.out.reads;have hcv2:=conv_reads wr1 wr1.heap.size A5 t.length c5 t hr;clear hr HM;go_wp2_with fail
   exact HP.out t _ HT.out HB.out
end
section
open Go.RowKit Go.Instr Go.ChangeMaps
attribute [local go_sem] ba_get ByteArray.mk_append_mk
theorem bytes_of (w:World) (s:List UInt8):∃ c w',(convert 9 118 (.string ⟨s.toArray⟩)).run Tryz.prog w= .ok (.slice (some ⟨w.heap.size,0,none⟩) s.length c) w'∧Reads w' w'.heap.size 1 (some ⟨w.heap.size,0,none⟩) s.length (bvals s)∧Below w.heap.size w w':=by
 have h:=run_bytes_of_string w 9 118 5 ⟨s.toArray⟩ Tryz.underlying9 Tryz.underlying118 Tryz.underlying5;have hs:(ByteArray.mk s.toArray).size=s.length:=by simp [ByteArray.size]
 rw [hs] at h;refine ⟨_,_,h,⟨by rw [bvals_length]; omega,fun hn=>⟨_,rfl,by simp,fun j u hu=> ?_⟩⟩,(((Below.refl _ w).drew).alloc (Nat.le_refl _) _)⟩;have ha:(⟨w.heap.size,0,none⟩:Addr).add j=⟨w.heap.size,j,none⟩:=by unfold Addr.add; split<;>simp_all
 rw [ha,cell_of_row _ w.heap.size j _ _ _ (show (w.drew.alloc _).heap[w.heap.size]?=_ from heap_alloc_new w.drew _)];have hj:j<s.length:=by have:=(List.getElem?_eq_some_iff.1 hu).1; rw [bvals_length] at this; exact this
 rw [←hu];simp [bytesRow,bvals,Array.getElem?_append,hj]
def putS (D:List Trie.KV) (x:List UInt8):List Trie.KV:=if (lookB D (shaW (1::x))).isSome then D else putB D (shaW (1::x)) x
structure StoreP (w:World) (g b:Nat) (D:List Trie.KV):Prop where
 blk:Blk w g 178 #[.map (some b)]
 map:BMap w b D
theorem StoreP.next {w w':World} {g b:Nat} {D:List Trie.KV} (h:StoreP w g b D) (hb:Below w.heap.size w w'):StoreP w' g b D:=⟨h.blk.below hb h.blk.lt,h.map.next hb⟩
theorem StoreP.ne {w:World} {g b:Nat} {D:List Trie.KV} (h:StoreP w g b D):g≠b:=by
 obtain ⟨vs,⟨E,cl,h1,_⟩,_⟩:=h.map.ex;have h2:=h.blk;unfold Blk at h2;intro e;subst e;rw [h2] at h1;cases h1
theorem grown_of_low {w w':World} (k:Option Nat) (h:Below w.heap.size w w'):w.grownBy w' k:=⟨h.os,h.tape,h.output,h.size,fun i hi _=>h.block i hi⟩
theorem store_New (w:World):Calls Tryz.prog 50 #[] w fun e w'=>∃ g b,e= .returned (.pointer (some ⟨g,0,none⟩))∧StoreP w' g b []∧Below w.heap.size w w'∧w.heap.size≤g∧w.heap.size≤b:=by
 have HP:Hid (∀ g b w',StoreP w' g b []→Below w.heap.size w w'→w.heap.size≤g→w.heap.size≤b→(fun e w'=>∃ g b,e=Ending.returned (.pointer (some ⟨g,0,none⟩))∧StoreP w' g b []∧Below w.heap.size w w'∧w.heap.size≤g∧w.heap.size≤b) (Ending.returned (.pointer (some ⟨g,0,none⟩))) w'):=ι (fun g b w' h1 h2 h3 h4=>⟨g,b,rfl,h1,h2,h3,h4⟩);generalize (fun e w'=>∃ g b,e=Ending.returned (.pointer (some ⟨g,0,none⟩))∧StoreP w' g b []∧Below w.heap.size w w'∧w.heap.size≤g∧w.heap.size≤b)=P at HP ⊢;have HS:Hid (∀ c,StoreP ((w.alloc (.map #[] c)).alloc (.cells #[.map (some w.heap.size)] 178)) (w.heap.size+1) w.heap.size []):=ι (fun c=>
  ⟨by have:=Blk.new (w.alloc (.map #[] c)) 178 #[.map (some w.heap.size)]; rwa [World.size_alloc] at this,(BMap.made w c).next (by go_grown)⟩)
 have hmm:=@run_makeMap Tryz.prog;go_enter Tryz.func50,Tryz.ntmps50
 go_wp2_with fail
 exact HP.out _ _ _ (HS.out _) (by go_grown) (by simp) (by simp)
theorem store_Put (w:World) (g b:Nat) (D:List Trie.KV) (h:StoreP w g b D) (s:List UInt8) (hs:s.length≤900000) (hT:Tbl w):
  Calls Tryz.prog 96 #[.pointer (some ⟨g,0,none⟩),s] w fun e w'=>e= .returned (.string ⟨(shaW (1::s)).toArray⟩)∧StoreP w' g b (putS D s)∧w.grownBy w' (some b):=by
 have HP:Hid (∀ w',StoreP w' g b (putS D s)→w.grownBy w' (some b)→(fun e w'=>e=Ending.returned (.string ⟨(shaW (1::s)).toArray⟩)∧StoreP w' g b (putS D s)∧w.grownBy w' (some b)) (Ending.returned (.string ⟨(shaW (1::s)).toArray⟩)) w'):=ι (fun w' h1 h2=>⟨rfl,h1,h2⟩);generalize (fun e w'=>e=Ending.returned (.string ⟨(shaW (1::s)).toArray⟩)∧StoreP w' g b (putS D s)∧w.grownBy w' (some b))=P at HP ⊢;have HSt:=ι h;have HD:=ι (digest_Sum w 1 (by omega) (by omega) s (by omega) hT);have HPS:Hid (putS D s=if (lookB D (shaW (1::s))).isSome then D else putB D (shaW (1::s)) s):=ι rfl;rw [show UInt8.ofNat 1=1 from rfl] at HD;generalize putS D s=D' at *;generalize shaW (1::s)=k at *;clear h hT hs;go_enter Tryz.func96,Tryz.ntmps96
 go_wp2_with fail
 refine HD.out.mono ?_;rintro e w1 ⟨rfl,hb1⟩;have HB1:=ι hb1;have S1:=ι (HSt.out.next hb1);clear hb1;have l1:w1.cell? ⟨g,0,none⟩=some (.map (some b)):=S1.out.blk.cell 0;obtain ⟨Av,nv,cv,_,_,hlk⟩:=S1.out.map.get Tryz.underlying176 k;have lk:=hlk w1 (Below.refl _ _);simp only [ss] at lk;clear hlk;cases hl:(lookB D k).isSome with
 |true=>
  rw [hl] at lk HPS;have HE:=ι (show D'=D from HPS.out);clear hl;go_wp2_with fail
  exact HP.out _ (by rw [HE.out]; exact S1.out) (grown_of_low _ HB1.out)
 |false=>
  rw [hl] at lk HPS;have HE:=ι (show D'=putB D k s from HPS.out);obtain ⟨cc,w2,hrun,hrd,hb2⟩:=bytes_of w1 s;have S2:=ι (S1.out.next hb2);obtain ⟨vs,hm,he⟩:=S2.out.map.store k s _ cc hrd;have HW:=ι (And.intro hm (And.intro he hb2));clear hl hm he hrd hb2;go_wp2_with (at_mapUpdate; refine wpList_mapUpdate_is _ rfl _ _ _ 176 rfl ss_type _ Tryz.underlying176 b vs HW.out.1 k (.slice (some ⟨w1.heap.size,0,none⟩) s.length cc) rfl rfl rfl ?_; intro w3 hm2 hg2 hs2; have H2:=ι (And.intro hm2 (And.intro hg2 hs2)); clear hm2 hg2 hs2)
  refine HP.out _ ⟨S2.out.blk.grown H2.out.2.1 (fun e=>S2.out.ne (by injection e)),by rw [HE.out]; exact HW.out.2.1 _ H2.out.1 H2.out.2.1 H2.out.2.2⟩ ?_;exact (grown_of_low _ (HB1.out.nxt HW.out.2.2)).trans H2.out.2.1
theorem store_Get (w:World) (g b:Nat) (D:List Trie.KV) (h:StoreP w g b D) (k:List UInt8):
  Calls Tryz.prog 165 #[.pointer (some ⟨g,0,none⟩),k] w fun e w'=>e= .returned (.tuple #[.string ⟨((lookB D k).getD []).toArray⟩,.bool (lookB D k).isSome])∧Below w.heap.size w w':=by
 have HP:Hid (∀ w',Below w.heap.size w w'→(fun e w'=>e=Ending.returned (.tuple #[.string ⟨((lookB D k).getD []).toArray⟩,.bool (lookB D k).isSome])∧Below w.heap.size w w') (Ending.returned (.tuple #[.string ⟨((lookB D k).getD []).toArray⟩,.bool (lookB D k).isSome])) w'):=ι (fun w' h1=>⟨rfl,h1⟩);generalize (fun e w'=>e=Ending.returned (.tuple #[.string ⟨((lookB D k).getD []).toArray⟩,.bool (lookB D k).isSome])∧Below w.heap.size w w')=P at HP ⊢;have l1:w.cell? ⟨g,0,none⟩=some (.map (some b)):=h.blk.cell 0;obtain ⟨Av,nv,cv,_,hcv,hlk⟩:=h.map.get Tryz.underlying176 k;have lk:=hlk w (Below.refl _ _);have cv1:=hcv w (Below.refl _ _);simp only [ss] at lk;generalize (lookB D k).getD []=x at *;generalize (lookB D k).isSome=y at *;clear hlk hcv h;go_enter Tryz.func165,Tryz.ntmps165
 go_wp2_with fail
 exact HP.out _ (by first|exact Below.refl _ _|go_grown)
end
end Go.Proofs.YtnelhjfjkkdoaaaGreatDoor