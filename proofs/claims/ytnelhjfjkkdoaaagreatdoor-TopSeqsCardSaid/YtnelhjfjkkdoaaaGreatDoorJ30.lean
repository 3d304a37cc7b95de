import Derived.Test.YtnelhjfjkkdoaaaGreatDoorJ29
set_option linter.unusedSimpArgs false
set_option linter.unusedVariables false
set_option maxHeartbeats 4000000
set_option maxRecDepth 100000
namespace Go.Proofs.YtnelhjfjkkdoaaaGreatDoor
section
open Go.RowKit Go.Instr
attribute [local go_sem] ba_get ByteArray.mk_append_mk
attribute [local go_sem ↓] Go.wp_at_zero Go.wp_at_succ
theorem clone_rcs (w:World) (l:List Ex.Rc) (hl:l.length≤100000) (A:Option Addr) (c:Nat) (HR:Reads w w.heap.size 3 A l.length (rcs l)):
  Calls Tryz.prog 74 #[.slice A l.length c] w (CloneEnd w 3 l.length (rcs l)):=by
 have HP:Hid (∀ A' c' w',Below w.heap.size w w'→Reads w' w'.heap.size 3 A' l.length (rcs l)→(∀ a,A'=some a→w.heap.size≤a.block∧a.block<w'.heap.size)→l.length≤c'→CloneEnd w 3 l.length (rcs l) (.returned (.slice A' l.length c')) w'):=ι (fun A' c' w' h1 h2 h3 h4=>⟨A',c',rfl,h1,h2,h3,h4⟩);generalize CloneEnd w 3 l.length (rcs l)=P at HP ⊢;have HL:=ι hl;cases A with
 |none=>
  have h0:l= []:=by
   cases l with
   |nil=>rfl
   |cons x r=>obtain ⟨a,o,h,_⟩:=HR.form (by simp) (by decide); cases h
  subst h0;have he:(binOp .eql 71 (.slice none 0 c) (.slice none 0 0)).run Tryz.prog w= .ok (.bool true) w:=eql_nil Tryz.underlying71 w none 0 c;go_enter Tryz.func74,Tryz.ntmps74
  go_wp2_with fail
  exact HP.out none 0 w (Below.refl _ _) Reads.none_ (by simp) (Nat.le_refl _)
 |some ad=>
  have HRR:=ι HR;clear HR hl;have he:(binOp .eql 71 (.slice (some ad) l.length c) (.slice none 0 0)).run Tryz.prog w= .ok (.bool false) w:=eql_nil Tryz.underlying71 w (some ad) l.length c;obtain ⟨i0,hi0,hz0,hz1,hz2⟩:=info_parts info_rc;go_enter Tryz.func74,Tryz.ntmps74
  go_upto_region 3 with fail
  have F1:=Live.hb (ι (Live.start w)) ((Below.refl _ w).alloc (Nat.le_refl _) (.cells #[] 75));have O1:=World.ownsRow_made (base:=w.heap.size) (e:=75) (size:=3) w #[] 0 (Nat.le_refl _) (by simp only [maxLen]; omega) rfl;have RA:Reads (w.alloc (.cells #[] 75)) w.heap.size 3 (some ad) l.length (rcs l):=HRR.out.below F1.out.b;have hll:=HL.out;go_wp2_with (at_builtin; refine wpList_append_any (w.alloc (.cells #[] 75)) rfl _ _ 71 rfl w.heap.size 75 i0 _ 3 32 Tryz.underlying71 hi0 hz0 hz1 hz2 rfl (by decide) (.slice (some ⟨w.heap.size,0,none⟩) 0 0) 0 [] rfl O1 w.heap.size (some ad) l.length c (rcs l) rfl RA (rcs_one _) (by simp only [maxLen]; omega) (by omega) F1.out.b.size ?_; intro v2 w2 own2 hg2 _; rw [Nat.zero_add,List.nil_append] at own2; have hlt2:=own2.lt; obtain ⟨A2,c2,rfl,hr2,hc2,hb2⟩:=own_form own2; clear hb2; have hb2:=(show ∀ a,A2=some a→w.heap.size≤a.block∧a.block<w2.heap.size from fun a ha=>hlt2 a.block (by rw [ha]; rfl)); clear hlt2; have H2:=ι (And.intro hr2 (And.intro hc2 hb2)); have HG:=ι (F1.out.b.grown hg2 F1.out.b.size (fun k e=>Nat.le_of_eq (Option.some.inj e))); clear own2 hg2 hr2 hc2 hb2)
  exact HP.out A2 c2 _ HG.out (H2.out.1.more (Nat.le_refl _)) H2.out.2.2 H2.out.2.1
theorem lg_newest (w:World) (lb:Nat) (g:LgM) (h:LgRd w lb g) (p:LeM) (n:Nat) (hn:g.es.length=n+1) (hp:g.es[n]'(by omega)=p):Calls Tryz.prog 131 #[.pointer (some ⟨lb,0,none⟩)] w (Ret w (.agg (lcell p).toArray)):=by
 have HP:Hid (∀ w',Below w.heap.size w w'→Ret w (.agg (lcell p).toArray) (.returned (.agg (lcell p).toArray)) w'):=ι (fun w' h=>⟨rfl,h⟩);generalize Ret w (.agg (lcell p).toArray)=P at HP ⊢;obtain ⟨ad,off,hA,hbl,hcell⟩:=led_cells h.r (i:=n) (by omega);rw [hp] at hcell;have hle:g.es.length≤1048577:=by have:=h.wf.le; rw [List.length_map] at this; exact this
 have HK:Hid (∀ W,Below w.heap.size w W→W.cell? ⟨lb,0,none⟩=some (.slice g.aA g.es.length g.ac)):=ι (fun W hW=>(h.blk.below hW h.blk.lt).cell 0);have HRg:Hid (∀ W,Below w.heap.size w W→W.rangeAt ad (off+n*16) (lcell p)):=ι (fun W hW j v hv=>hcell W hW j v hv);have hone:∀ u∈lcell p,u.oneCell'=true:=lcell_one p (h.ok p (by rw [←hp]; exact List.getElem_mem _)).t.one;rw [hn] at HK;simp only [hA] at HK;have hwl:IntKind.i64.wrap (((n+1:Nat):Int) - 1)=(n:Int):=by rw [show ((n+1:Nat):Int) - 1=(n:Int) by omega]; exact IntWalk.i64_in _ (by omega)
 have hi1:(n:Int)<((n+1:Nat):Int):=by omega
 have hi0:(0:Int)≤n:=by omega
 have SZE:Hid ((Tryz.prog.info? 149).map (·.size)=some 16):=ι (by kernel_rfl);have hlen:(lcell p).length=16:=rfl;clear h hp hcell hbl hA hle hn;generalize lcell p=pl at *;generalize n+1=m at *;have ONP:=all_oneCell_toArray hone;have HL:=ι hlen;clear hone;go_enter Tryz.func131,Tryz.ntmps131
 go_upto_region 1 with fail
 have F0:=Live.ha (ι (Live.start w)) (θ [ν,ε,ν,ν,.pointer none,ν]) 149;generalize World.alloc w _=W0 at F0 ⊢;generalize w.heap.size=rb at F0 ⊢;have F:=live_drew F0;have k0:=HK.out _ F0.out.b;have k1:=HK.out _ F.out.b;have LD:=run_loadAt_mid (P:=Tryz.prog) W0.drew ad (off+n*16) 149 pl _ (HRg.out _ F.out.b) Tryz.underlying149 rfl (by rw [HL.out]; exact SZE.out)
 go_still_tail 12,(by kernel_rfl)
 refine wpStill_step (fun K hK=> ?_);refine still_load rfl _ _ rfl _ LD ?_;refine hK _ ?_;clear hK K;refine wpStill_nil ?_
 change wpList _ _ _ _ _ W0.drew
 have TH:W0.drew.there rb 0 pl.toArray.size:=by have:=F.out.there 0 16 rfl (by decide); simpa [HL.out] using this
 have SZP:(Tryz.prog.info? 149).map (·.size)=some pl.toArray.size:=by simpa [HL.out] using SZE.out
 have F9:=Live.hall F 0 pl.toArray.toList rfl (by simpa using HL.out.symm);have hr:=run_loadVar_mid (P:=Tryz.prog) (W0.drew.setCells rb 0 pl.toArray.toList) rb 0 149 pl _ (range_of_blk (F9.out.blk 0 rfl)) Tryz.underlying149 rfl (by rw [HL.out]; exact SZE.out);obtain ⟨W9,h9⟩:∃ W9,W0.drew.setCells rb 0 pl.toArray.toList=W9:=⟨_,rfl⟩
 rw [h9] at F9 hr;have H9:=ι h9;clear h9;go_wp2_with ((with_reducible refine at_store 14 ?_); refine wpList_store_as rfl 149 _ _ rfl rb 0 pl.toArray rfl rfl TH SZP ONP W9 H9.out ?_)
 (try simp only [Exit.inBlock,Exit.then])
 refine bodyPost_ret (v:= .agg pl.toArray) (results_one_cell Tryz.results131 rfl hr) rfl ?_;exact HP.out _ F9.out.b
theorem z_34 {P:Prop} (h:P:=by
 try go_frame
 refine tk 8 31 rfl ?_;try go_frame
 refine tk 10 33 rfl ?_;try go_frame
 refine tk 11 7 rfl ?_;try go_frame
 refine wpAnyH_done (by kernel_rfl) ?_ _;go_wp2_with fail
 go_meet
 exact ⟨rfl,F.out.drop 1⟩):P:=h
theorem tx_Encode (w:World) (kd:Int) (fr:List UInt8) (sq:Int) (dt:List UInt8) (am:Int) (ky vl:List UInt8) (mm:List Pw.Mem) (o:OkT ⟨kd,fr,sq,dt,am,ky,vl,mm⟩) (hx:Ex.fineX ⟨kd,fr,sq,dt,am,ky,vl,mm⟩=true)
  (A:Option Addr) (c:Nat) (HR:Reads w w.heap.size 2 A mm.length (mcells mm)):
  Calls Tryz.prog 133 #[.agg #[kd,fr,sq,dt,am,ky,vl,.slice A mm.length c]] w (Ret w (.tuple #[.string ⟨(Ex.writX ⟨kd,fr,sq,dt,am,ky,vl,mm⟩).toArray⟩,ζ])):=by
 have HP:Hid (∀ (s:List UInt8) w',Ex.writX ⟨kd,fr,sq,dt,am,ky,vl,mm⟩=s→Below w.heap.size w w'→Ret w (.tuple #[.string ⟨(Ex.writX ⟨kd,fr,sq,dt,am,ky,vl,mm⟩).toArray⟩,ζ]) (.returned (.tuple #[s,ζ])) w'):=ι (fun s w' e h=>by rw [e]; exact ⟨rfl,h⟩);generalize Ret w (.tuple #[.string ⟨(Ex.writX ⟨kd,fr,sq,dt,am,ky,vl,mm⟩).toArray⟩,.int .i64 0])=P at HP ⊢;have HC:=ι (fun W (hW:Below w.heap.size w W)=>tx_Check W kd fr sq dt am ky vl mm A c o.f o.d o.k o.v o.m ((HR.below hW).more hW.size));rw [hx] at HC;simp only [if_true] at HC;have hsp:=Ex.fineX_spec hx;simp only at hsp;obtain ⟨s1,s2,s3,s4⟩:=hsp;have hfr:=(Ex.nameW_len s1).2;have hkd:1≤kd∧kd≤4:=by rcases s4 with ⟨k,_⟩|⟨k,_⟩|⟨k,_⟩|⟨k,_⟩<;>omega
 have b0:(0:Int)≤kd:=by omega
 have b1:kd<256:=by omega
 have hw8:IntKind.u8.wrap kd=kd:=IntWalk.u8_in _ (by omega);obtain ⟨q,rfl⟩:=Int.eq_ofNat_of_zero_le s2;have HTf:=ι (fun W=>code_Text fr (by omega) W);have HNs:=ι (fun W=>code_Num q (by omega) W);have HX:Hid (Ex.writX ⟨kd,fr,(q:Int),dt,am,ky,vl,mm⟩=(UInt8.ofNat kd.toNat::(textW fr++numW q))++Ex.bodyX ⟨kd,fr,(q:Int),dt,am,ky,vl,mm⟩):=ι rfl;have HB:Hid (Ex.bodyX ⟨kd,fr,(q:Int),dt,am,ky,vl,mm⟩=if kd=1 then textW dt++numW am.toNat else if kd=2 then textW ky++textW vl else if kd=3 then textW ky else textW (Pw.encM mm)):=ι rfl;have l1:=Ex.text_le hfr (by omega);have l2:=numW_len q (by omega);have HS4:=ι s4;have HRR:=ι HR;generalize Ex.writX ⟨kd,fr,(q:Int),dt,am,ky,vl,mm⟩=X at *;generalize Ex.bodyX ⟨kd,fr,(q:Int),dt,am,ky,vl,mm⟩=Y at *;generalize textW fr=F1 at *;generalize numW q=N2 at *;have m1:1+F1.length≤9223372036854775807:=by omega
 have m2:F1.length+1≤9223372036854775807:=by omega
 have m3:F1.length+1+N2.length≤9223372036854775807:=by omega
 have n1:(9223372036854775807<1+F1.length)=False:=by simp; omega
 have n2:(9223372036854775807<F1.length+1)=False:=by simp; omega
 have n3:(9223372036854775807<F1.length+1+N2.length)=False:=by simp; omega
 have n4:(9223372036854775807<1+F1.length+N2.length)=False:=by simp; omega
 have n5:(9223372036854775807<1+(F1.length+N2.length))=False:=by simp; omega
 have n6:(9223372036854775807<F1.length+(N2.length+1))=False:=by simp; omega
 have n7:(9223372036854775807<F1.length+N2.length+1)=False:=by simp; omega
 have HL1:Hid ((UInt8.ofNat kd.toNat::(F1++N2)).length≤30):=ι (by simp only [List.length_cons,List.length_append]; omega);clear hx HR s1 s3 s4 l1 l2 hfr s2 o hkd;go_enter Tryz.func133,Tryz.ntmps133
 go_upto_region 1 with fail
 have F:=Live.ha (ι (Live.start w)) #[kd,fr,q,dt,am,ky,vl,.slice A mm.length c] 80;generalize World.alloc w _=W0 at F ⊢;generalize w.heap.size=xb at F ⊢;obtain ⟨k0_0,k0_1,k0_2,k0_3,k0_4,k0_5,k0_6,k0_7⟩:=(F.out.blk 0 rfl).c8;go_wp2_with fail
 refine (HC.out _ F.out.b).mono ?_;rintro e w1 ⟨rfl,hb⟩;have F:=Live.hb F hb;clear hb HC k0_0 k0_1 k0_2 k0_3 k0_4 k0_5 k0_6 k0_7;have k0_2:=(F.out.blk 0 rfl).d2;go_wp2_with fail
 refine (HNs.out _).mono ?_;rintro e w2 ⟨rfl,hb⟩;have F:=Live.hb F hb;clear hb HNs k0_2;go_upto_region 5 with fail
 go_cut [7] (fun s wx=>s= .string ⟨(UInt8.ofNat kd.toNat::(F1++N2)).toArray⟩∧Live w wx [(xb,80,#[kd,fr,q,dt,am,ky,vl,.slice A mm.length c])])
 case first=>
  refine wp_region_held_drew (S:=fun w'=>w'.cell? ⟨xb,0,none⟩=some (.int .i64 kd)∧w'.cell? ⟨xb,1,none⟩=some (fr:Value)) (by kernel_rfl) ⟨F.out.cell 0 0 rfl rfl,F.out.cell 0 1 rfl rfl⟩ (fun hHeld=> ?_);have F:=live_drew F;generalize w2.drew=Wd at F hHeld ⊢;refine tk 0 23 rfl ?_;try go_frame
  refine tk 1 24 rfl ?_;try go_frame
  refine tk 2 25 rfl ?_;try go_frame
  refine tk 5 28 rfl ?_;try go_frame
  refine tk 6 29 rfl ?_;try go_frame
  refine tk 9 32 rfl ?_;try go_frame
  refine rd2 3 7 rfl rfl (fun K hK=> ?_) (fun K hK=> ?_)
  ·skip
   go_simp
   have F:=Live.ha F #[.int .u8 kd] 5;refine hK.out _ _ ⟨F.out.cell 1 0 rfl rfl,F.out.cell 1 1 rfl rfl⟩ (fun hHeld=> ?_);clear hK K;try go_frame
   generalize World.alloc _ (.cells #[.int .u8 kd] 5)=Wa at F hHeld ⊢;refine rd2 4 7 rfl rfl (fun K hK=> ?_) (fun K hK=> ?_)
   ·skip
    have cv:=conv1b (F.out.blk 0 rfl) b0 b1;go_simp
    refine hK.out _ _ ⟨F.out.cell 1 0 rfl rfl,F.out.cell 1 1 rfl rfl⟩ (fun hHeld=> ?_);clear hK K cv;try go_frame
    refine rd1 7 rfl (fun K hK=> ?_);go_simp
    refine (HTf.out _).mono ?_;rintro e Wt ⟨rfl,hb⟩;have F:=Live.hb F hb;clear hb;go_simp
    refine hK.out _ _ ⟨F.out.cell 1 0 rfl rfl,F.out.cell 1 1 rfl rfl⟩ (fun hHeld=> ?_);clear hK K;exact z_34
   ·skip
    go_simp
    refine (HTf.out _).mono ?_;rintro e Wt ⟨rfl,hb⟩;have F:=Live.hb F hb;clear hb;go_simp
    refine hK.out _ _ ⟨F.out.cell 1 0 rfl rfl,F.out.cell 1 1 rfl rfl⟩ (fun hHeld=> ?_);clear hK K;try go_frame
    refine rd1 4 rfl (fun K hK=> ?_);have cv:=conv1b (F.out.blk 0 rfl) b0 b1;go_simp
    refine hK.out _ _ ⟨F.out.cell 1 0 rfl rfl,F.out.cell 1 1 rfl rfl⟩ (fun hHeld=> ?_);clear hK K cv;exact z_34
  ·skip
   go_simp
   refine (HTf.out _).mono ?_;rintro e Wt ⟨rfl,hb⟩;have F:=Live.hb F hb;clear hb;go_simp
   refine hK.out _ _ ⟨F.out.cell 0 0 rfl rfl,F.out.cell 0 1 rfl rfl⟩ (fun hHeld=> ?_);clear hK K;try go_frame
   refine rd1 3 rfl (fun K hK=> ?_);go_simp
   have F:=Live.ha F #[.int .u8 kd] 5;refine hK.out _ _ ⟨F.out.cell 1 0 rfl rfl,F.out.cell 1 1 rfl rfl⟩ (fun hHeld=> ?_);clear hK K;try go_frame
   generalize World.alloc _ (.cells #[.int .u8 kd] 5)=Wa at F hHeld ⊢;refine rd1 4 rfl (fun K hK=> ?_);have cv:=conv1b (F.out.blk 0 rfl) b0 b1;go_simp
   refine hK.out _ _ ⟨F.out.cell 1 0 rfl rfl,F.out.cell 1 1 rfl rfl⟩ (fun hHeld=> ?_);clear hK K cv;exact z_34
 case rest=>
 obtain ⟨rfl,hF⟩:=hcut;have F1h:=ι hF;clear hF F m1 m2 m3 n1 n2 n3 n4 n5 n6 n7 HTf hw8 b0 b1;generalize UInt8.ofNat kd.toNat::(F1++N2)=S1 at *;have s30:=HL1.out;rcases HS4.out with ⟨rfl,hn,a1,a2,_⟩|⟨rfl,_,_,_,v1,v2,q1,q2⟩|⟨rfl,_,_,_,_,q1,q2⟩|⟨rfl,_,_,_,_,hm⟩
 ·obtain ⟨am,rfl⟩:=Int.eq_ofNat_of_zero_le (show 0≤am by omega);have hd6:=(Ex.nameW_len hn).2;have HT:=ι (fun W=>code_Text dt (by omega) W);have HN:=ι (fun W=>code_Num am (by omega) W);have HE:Hid (X=S1++(textW dt++numW am)):=ι (by rw [HX.out,HB.out,if_pos rfl]; rfl);have l1:=Ex.text_le hd6 (by omega);have l2:=numW_len am (by omega);clear HS4 HX HB hn a1 a2 hd6;generalize textW dt=T1 at *;generalize numW am=N1 at *;have n1:(9223372036854775807<S1.length+T1.length)=False:=by simp; omega
  have n2:(9223372036854775807<S1.length+T1.length+N1.length)=False:=by simp; omega
  have n3:(9223372036854775807<S1.length+(T1.length+N1.length))=False:=by simp; omega
  have nx:(9223372036854775807<T1.length+N1.length)=False:=by simp; omega
  obtain ⟨k0_0,k0_1,k0_2,k0_3,k0_4,k0_5,k0_6,k0_7⟩:=(F1h.out.blk 0 rfl).c8;go_wp2_with fail
  refine (HN.out _).mono ?_;rintro e w3 ⟨rfl,hb⟩;have F2:=Live.hb F1h hb;clear hb F1h k0_0 k0_1 k0_2 k0_3 k0_4 k0_5 k0_6 k0_7;obtain ⟨k0_0,k0_1,k0_2,k0_3,k0_4,k0_5,k0_6,k0_7⟩:=(F2.out.blk 0 rfl).c8;go_wp2_with fail
  refine (HT.out _).mono ?_;rintro e w4 ⟨rfl,hb⟩;have F3:=Live.hb F2 hb;clear hb;go_wp2_with fail
  exact HP.out _ _ HE.out F3.out.b
 ·have HT:=ι (fun W=>code_Text ky (by omega) W);have HN:=ι (fun W=>code_Text vl (by omega) W);have HE:Hid (X=S1++(textW ky++textW vl)):=ι (by rw [HX.out,HB.out,if_neg (by decide),if_pos rfl]);have l1:=Ex.text_le q2 (by omega);have l2:=Ex.text_le v2 (by omega);clear HS4 HX HB;generalize textW ky=T1 at *;generalize textW vl=N1 at *;have n1:(9223372036854775807<S1.length+T1.length)=False:=by simp; omega
  have n2:(9223372036854775807<S1.length+T1.length+N1.length)=False:=by simp; omega
  have n3:(9223372036854775807<S1.length+(T1.length+N1.length))=False:=by simp; omega
  have nx:(9223372036854775807<T1.length+N1.length)=False:=by simp; omega
  obtain ⟨k0_0,k0_1,k0_2,k0_3,k0_4,k0_5,k0_6,k0_7⟩:=(F1h.out.blk 0 rfl).c8;go_upto_region 11 with fail
  go_region_held3 (fun w'=>w'.cell? ⟨xb,5,none⟩=some (ky:Value)∧w'.cell? ⟨xb,6,none⟩=some (vl:Value)) (first|go_keep|(refine ⟨?_,?_⟩<;>assumption)) (first|(go_at_call 124; ((first|(with_reducible refine (HT.out _).mono ?_)|(with_reducible refine (HN.out _).mono ?_)); (rintro e w2 ⟨rfl,hb⟩; (first|have F1h:=Live.hb F1h hb|have F1h:=Live.hbd F1h hb); clear hb; have k0_5:=(F1h.out.blk 0 rfl).d5; have k0_6:w2.cell? ⟨xb,6,none⟩=some (vl:Value):=F1h.out.cell 0 6 rfl rfl))))
  all_goals go_wp2_with fail
  all_goals exact HP.out _ _ HE.out F1h.out.b
 ·have HT:=ι (fun W=>code_Text ky (by omega) W);have HE:Hid (X=S1++textW ky):=ι (by rw [HX.out,HB.out,if_neg (by decide),if_neg (by decide),if_pos rfl]);have l1:=Ex.text_le q2 (by omega);clear HS4 HX HB;generalize textW ky=T1 at *;have m1:S1.length+T1.length≤9223372036854775807:=by omega
  have n1:(9223372036854775807<S1.length+T1.length)=False:=by simp; omega
  obtain ⟨k0_0,k0_1,k0_2,k0_3,k0_4,k0_5,k0_6,k0_7⟩:=(F1h.out.blk 0 rfl).c8;go_wp2_with fail
  refine (HT.out _).mono ?_;rintro e w2 ⟨rfl,hb⟩;have F2:=Live.hb F1h hb;clear hb;go_wp2_with fail
  exact HP.out _ _ HE.out F2.out.b
 ·have HEn:=ι (fun W (hW:Below w.heap.size w W)=>power_Encode W mm (fun x hx=>by have:=(Pw.okM_all hm x hx).1; omega) A c ((HRR.out.below hW).more hW.size));have hl:=Pw.encM_len hm;unfold MEncEnd encMo at HEn;simp only [hm,codeM,if_true] at HEn;have HT:=ι (fun W=>code_Text (Pw.encM mm) (by omega) W);have HE:Hid (X=S1++textW (Pw.encM mm)):=ι (by rw [HX.out,HB.out,if_neg (by decide),if_neg (by decide),if_neg (by decide)]);have l1:=Ex.text_le hl (by omega);clear HS4 HX HB hl hm;generalize Pw.encM mm=eb at *;generalize textW eb=T1 at *;have m1:S1.length+T1.length≤9223372036854775807:=by omega
  have n1:(9223372036854775807<S1.length+T1.length)=False:=by simp; omega
  obtain ⟨k0_0,k0_1,k0_2,k0_3,k0_4,k0_5,k0_6,k0_7⟩:=(F1h.out.blk 0 rfl).c8;go_wp2_with fail
  refine (HEn.out _ F1h.out.b).mono ?_;rintro e w2 ⟨rfl,hb⟩;have F2:=Live.hb F1h hb;clear hb;go_wp2_with fail
  refine (HT.out _).mono ?_;rintro e w3 ⟨rfl,hb⟩;have F3:=Live.hb F2 hb;clear hb;go_wp2_with fail
  exact HP.out _ _ HE.out F3.out.b
theorem tx_EncodeAll (w:World) (A:Option Addr) (c:Nat) (l:List TxM) (HL:TxsAt w A l) (h8:l.length≤8) (hf:∀ p∈l,Ex.fineX p.1=true):
  Calls Tryz.prog 91 #[.slice A l.length c] w (Ret w (.tuple #[.string ⟨(listW (l.map fun p=>Ex.writX p.1)).toArray⟩,ζ])):=by
 have HP:Hid (∀ (s:List UInt8) w',listW (l.map fun p=>Ex.writX p.1)=s→Below w.heap.size w w'→Ret w (.tuple #[.string ⟨(listW (l.map fun p=>Ex.writX p.1)).toArray⟩,ζ]) (.returned (.tuple #[s,ζ])) w'):=ι (fun s w' e h=>by rw [e]; exact ⟨rfl,h⟩);generalize Ret w (.tuple #[.string ⟨(listW (l.map fun p=>Ex.writX p.1)).toArray⟩,.int .i64 0])=P at HP ⊢;have HLL:=ι HL;have HFa:=ι hf;have HL8:=ι h8;have h8':((8:Int)<l.length)=False:=by simp; omega
 clear HL h8 hf;go_enter Tryz.func91,Tryz.ntmps91
 go_wp2_with fail
 refine wp_loop_ghost_k (fun k a wr=>∀ Φ:Act→Prop,(∀ ⦃s0 s1 s5 s6 s7 s8 s9 s2 s3 s4 a0 a2 a3 a4 a5 a6 a7 a8 a9 b0 b1 b2 b3 b4 b5 b6 b7:Value⦄ (i:Nat) (B:Option Addr) (D:List (List UInt8)) (d:Nat),(i+k=l.length∧D=(l.take i).map (fun p=>Ex.writX p.1)∧D.length=i∧wr.ownsRow w.heap.size 9 1 (.slice B D.length d) D.length (strv D)∧Below w.heap.size w wr)→Φ {tmps:=#[s0,s1,.string ⟨#[]⟩,.int .i64 0,.slice B D.length d,s5,s6,s7,s8,s9,s2,s3,.slice A l.length c,.int .i64 (l.length:Int),.int .i64 (i:Int),s4,a0,a2,a3,a4,a5,a6,a7,a8,a9,b0,b1,b2,b3,b4,b5,b6,b7],defers:= []})→Φ a) (l.length) ?_ ?_
 ·refine fun Φ hΦ=>hΦ (0) (none) ([]) (0) ?_;exact ⟨by omega,rfl,rfl,World.ownsRow_nil _ _ _ _,Below.refl _ _⟩
 ·intro k1 a1 wr1 hI1 J1 K1 hJ1 hK1;refine hI1 (fun a=>Code.wp _ _ _ a _) ?_;clear hI1 a1;iterate 27 (intro _)
  intro i B D d hrel
  show Code.wp _ _ _ _ _;obtain ⟨h1,h3,h4,hD,hb⟩:=hrel;by_cases hi:i<l.length
  ·have HLi:=ι (HLL.out.next hb);obtain ⟨ad,off,rfl,hbl,hcell⟩:=tx_cells HLi.out.r hi;obtain ⟨r0,r1,r2,r3,r4,r5,r6,r7⟩:=hcell _ (Below.refl _ _);have hi1:(i:Int)<l.length:=by omega
   have hi0:(0:Int)≤i:=by omega
   have hwi:IntKind.i64.wrap ((i:Int)+1)=(i:Int)+1:=IntWalk.i64_in _ (by have:=HL8.out; omega);have ht:=HLi.out.t _ (List.getElem_mem hi);have hm:=HLi.out.m _ (List.getElem_mem hi);have hx:=HFa.out _ (List.getElem_mem hi);have HD1:Hid (D++ [Ex.writX l[i].1]=(l.take (i+1)).map (fun p=>Ex.writX p.1)):=ι (by rw [List.take_succ_eq_append_getElem hi,List.map_append,h3]; rfl);have hD8:D.length<8:=by have:=HL8.out; omega
   have HI:=ι (And.intro h1 (And.intro h4 (And.intro hD hb)));clear h1 h3 h4 hD hb hcell hbl;generalize l[i]=p at *;obtain ⟨⟨kd,fr,sq,dt,am,ky,vl,mm⟩,mA,mc⟩:=p;simp only at r0 r1 r2 r3 r4 r5 r6 r7 hm HD1 ht hx;have HEn:=ι (fun W (hW:Below wr1.heap.size wr1 W)=>tx_Encode W kd fr sq dt am ky vl mm ht hx mA mc ((hm.below hW).more hW.size));clear ht hx hm hi;generalize Ex.writX ⟨kd,fr,sq,dt,am,ky,vl,mm⟩=wx at *;go_upto_region 7 with fail
   have F1:=Live.ha (ι (Live.start wr1)) #[kd,fr,sq,dt,am,ky,vl,.slice mA mm.length mc] 80;generalize World.alloc wr1 _=W1 at F1 ⊢;generalize wr1.heap.size=xb at F1 ⊢;clear r0 r1 r2 r3 r4 r5 r6 r7;have k0:=(F1.out.blk 0 rfl).c8;go_wp2_with fail
   refine (HEn.out _ F1.out.b).mono ?_;rintro e w2 ⟨rfl,hb⟩;have F2:=Live.hb F1 hb;clear hb F1 k0 HEn;have O3:=ι (own_below HI.out.2.2.1 F2.out.b);have HB3:=ι (HI.out.2.2.2.nxt F2.out.b);clear F2;go_wp2_with (at_builtin; refine wpList_append_new w2 9 [wx] rfl _ _ 26 rfl w.heap.size 1 16 _ info_str Tryz.underlying26 rfl (by decide) (.slice B D.length d) D.length (strv D) rfl O3.out 1 1 rfl rfl (by simp [Value.oneCell']) (by simp only [maxLen]; omega) (by omega) w.heap.size w HB3.out (Nat.le_refl _) HB3.out.size ?_; intro v4 w4 own4 hb4 hg4 _ _; obtain ⟨A4,c4,rfl,_,_,_⟩:=own_form own4; have G4:=ι (And.intro own4 hb4); clear own4 hb4 hg4)
   have HDl:Hid (D.length+1=(D++ [wx]).length):=ι (by simp);have O4:Hid (w4.ownsRow w.heap.size 9 1 (.slice A4 (D++ [wx]).length c4) (D++ [wx]).length (strv (D++ [wx]))):=ι (by have:=G4.out.1; rw [←strv_snoc] at this; rwa [HDl.out] at this);rw [HDl.out];generalize D++ [wx]=D2 at *;refine Handed.intro (l.length - (i+1)) ?_ (hJ1 _ _ _ (fun Φ hΦ=>hΦ (i+1) (A4) (D2) (c4) ?_))
   ·have:=HI.out.1; omega
   exact ⟨by have:=HI.out.1; omega,HD1.out,by rw [←HDl.out,HI.out.2.1],O4.out,G4.out.2⟩
  ·have hi1:((i:Int)<l.length)=False:=by simp; omega
   have HDe:Hid (D=l.map (fun p=>Ex.writX p.1)):=ι (by rw [h3,List.take_of_length_le (by omega)]);have HLs:=ι (code_ListG wr1 D (by have:=HL8.out; omega) (by
    intro s hs;rw [HDe.out] at hs;obtain ⟨p,hp,rfl⟩:=List.mem_map.1 hs;exact Ex.writX_len (HFa.out p hp)) B d (Reads.of_own hD))
   have HB:=ι hb;have HE:Hid (listW (l.map fun p=>Ex.writX p.1)=ceL D):=ι (by rw [HDe.out]; rfl);clear h1 h3 h4 hD hb hi HDe;generalize ceL D=LD at *;go_wp2_with fail
   refine HLs.out.mono ?_;rintro e w2 ⟨rfl,hb⟩;have HB2:=ι (HB.out.nxt hb);clear hb;go_wp2_with fail
   exact HP.out _ _ HE.out HB2.out
theorem tx_Root (w:World) (A:Option Addr) (c:Nat) (l:List TxM) (HL:TxsAt w A l) (h8:l.length≤8) (hf:∀ p∈l,Ex.fineX p.1=true) (hT:Tbl w):
  Calls Tryz.prog 45 #[.slice A l.length c] w (Ret w (.tuple #[.string ⟨(Ex.rootX (l.map (·.1))).toArray⟩,ζ])):=by
 have HP:Hid (∀ (s:List UInt8) w',Ex.rootX (l.map (·.1))=s→Below w.heap.size w w'→Ret w (.tuple #[.string ⟨(Ex.rootX (l.map (·.1))).toArray⟩,ζ]) (.returned (.tuple #[s,ζ])) w'):=ι (fun s w' e h=>by rw [e]; exact ⟨rfl,h⟩);generalize Ret w (.tuple #[.string ⟨(Ex.rootX (l.map (·.1))).toArray⟩,.int .i64 0])=P at HP ⊢;have HEn:=ι (tx_EncodeAll w A c l HL h8 hf);have hl:=Ex.listX_len (l:=l.map (·.1)) (by intro x hx; obtain ⟨p,hp,rfl⟩:=List.mem_map.1 hx; exact hf p hp) (by rw [List.length_map]; exact h8);have HE:Hid (Ex.rootX (l.map (·.1))=shaW (UInt8.ofNat 3::listW (l.map fun p=>Ex.writX p.1))):=ι (by unfold Ex.rootX; rw [List.map_map]; rfl);rw [List.map_map] at hl;have hl:(listW (l.map fun p=>Ex.writX p.1)).length≤3000:=hl;generalize listW (l.map fun p=>Ex.writX p.1)=s at *;have HDg:=ι (fun W (hW:Below w.heap.size w W)=>digest_Sum W 3 (by decide) (by decide) s (by omega) (hT.next hW));generalize shaW (UInt8.ofNat 3::s)=d at *;clear hl hT HL h8 hf;go_enter Tryz.func45,Tryz.ntmps45
 go_wp2_with fail
 refine HEn.out.mono ?_;rintro e w1 ⟨rfl,hb⟩;have HB:=ι hb;clear hb;go_wp2_with fail
 refine (HDg.out _ HB.out).mono ?_;rintro e w2 ⟨rfl,hb⟩;have HB2:=ι (HB.out.nxt hb);clear hb;go_wp2_with fail
 exact HP.out _ _ HE.out HB2.out
theorem genW_ok {l:List Ex.Ac} {set:List Pw.Mem} (h:(Ex.genW l set).2=0):Pw.okM set=true:=by
 unfold Ex.genW at h
 split at h
 ·cases h
 split at h
 ·rename_i h1; exact absurd h h1
 split at h
 ·cases h
 rename_i h1;simpa using h1
theorem TxsAt.nil (w:World):TxsAt w none []:=⟨Reads.none_,by simp,by simp,by simp⟩
def NewLEnd (w:World) (l:List Ex.Ac) (set:List Pw.Mem) (e:Ending) (w':World):Prop:=
 ∃ v,e= .returned (.tuple #[v,.int .i64 ((Ex.genW l set).2:Int)])∧Below w.heap.size w w'∧((Ex.genW l set).2=0→∃ lb g,v= .pointer (some ⟨lb,0,none⟩)∧LgAt w' w.heap.size lb g∧g.L= [Led.newE (Ex.genW l set).1 set])∧((Ex.genW l set).2≠0→v= .pointer none)
theorem z_35 {P:Prop} (h:P:=by
 refine hK.out _ _ ⟨F9.out.cell 1 0 rfl rfl,F9.out.cell 1 1 rfl rfl,F9.out.cell 1 2 rfl rfl,F9.out.cell 1 3 rfl rfl,F9.out.cell 1 4 rfl rfl,F9.out.cell 1 5 rfl rfl,F9.out.cell 1 6 rfl rfl,F9.out.cell 1 7 rfl rfl,F9.out.cell 1 8 rfl rfl,F9.out.cell 1 9 rfl rfl,F9.out.cell 1 10 rfl rfl⟩ (fun hHeld=> ?_);clear hK K;try go_frame
 refine wpAnyH_done (by kernel_rfl) ?_ _;go_wp2_with fail
 go_meet
 exact ⟨eb,rfl,F9.out,FX9.out.b⟩):P:=h
theorem led_New (w:World) (l:List Ex.Ac) (hs:∀ x∈l,x.1.length≤9223372036854775807) (A:Option Addr) (c:Nat) (HR:Reads w w.heap.size 3 A l.length (acells l)) (set:List Pw.Mem) (hm:∀ x∈set,x.1.length≤9223372036854775807) (B:Option Addr) (d:Nat) (HS:Reads w w.heap.size 2 B set.length (mcells set)) (hT:Tbl w):
  Calls Tryz.prog 69 #[.slice A l.length c,.slice B set.length d] w (NewLEnd w l set):=by
 have HPe:Hid (∀ (cd:Nat) w',(Ex.genW l set).2=cd→cd≠0→Below w.heap.size w w'→NewLEnd w l set (.returned (.tuple #[.pointer none,cd])) w'):=ι (fun cd w' e h1 hb=>by subst e; exact ⟨_,rfl,hb,fun h=>absurd h h1,fun _=>rfl⟩);have HPo:Hid (∀ lb g w',(Ex.genW l set).2=0→Below w.heap.size w w'→LgAt w' w.heap.size lb g→g.L= [Led.newE (Ex.genW l set).1 set]→NewLEnd w l set (.returned (.tuple #[.pointer (some ⟨lb,0,none⟩),ζ])) w'):=ι (fun lb g w' e hb h1 h2=>⟨_,by rw [e]; rfl,hb,fun _=>⟨lb,g,rfl,h1,h2⟩,fun h=>absurd e h⟩);generalize NewLEnd w l set=P at HPe HPo ⊢;have HG:=ι (exec_Genesis w l hs A c HR set hm B d HS hT);have hg:=Ex.genW_good l set;have hok:=@genW_ok l set;generalize Ex.genW l set=gw at *;obtain ⟨t,cd⟩:=gw;simp only at HG hg hok HPe HPo;have HTb:=ι hT;have HSR:=ι HS;have HMm:=ι hm;clear HR hs hT HS hm;by_cases hc:cd=0;rotate_left
 ·have hc1:((cd:Int) !=0)=true:=by simp; exact hc
  have HCn:=ι hc;clear hok hg hc;go_enter Tryz.func69,Tryz.ntmps69
  go_wp2_with fail
  refine HG.out.mono ?_;rintro e w1 ⟨v,rfl,hb,_,hv⟩;have HB:=ι hb;have hv:=hv HCn.out;subst hv;clear hb;go_wp2_with fail
  exact HPe.out cd _ rfl HCn.out HB.out
 subst hc;have hok:=hok rfl;have hone:=Led.newE_one hg.1 (by omega) hok;have HW:Hid (Led.Wf [Led.newE t set]):=ι (Led.newE_wf hg.1 (by omega) hok);have HRt:=ι (Led.newE_rt t set);have HTx:=ι (fun W (hW:Below w.heap.size w W)=>tx_Root W none 0 [] (TxsAt.nil W) (by simp) (by simp) (HTb.out.next hW));have HDg:=ι (fun W (hW:Below w.heap.size w W)=>power_Digest W set HMm.out B d ((HSR.out.below hW).more hW.size) (HTb.out.next hW));have HCl:=ι (fun W (hW:Below w.heap.size w W)=>clone_mems W set (by have:=Pw.okM_len hok; omega) B d ((HSR.out.below hW).more hW.size));have HHd:=ι (fun W (hW:Below w.heap.size w W)=>hd_Digest W (Led.newH t set) (okH_of hone.ok) none 0 Reads.none_ (HTb.out.next hW));have HEq:Hid (Led.newE t set=⟨⟨0,0,0,true,[],Trie.sumT t,[],Ex.rootX [],Pw.digM set,Pw.digM set,[]⟩,Hd.dig (Led.newH t set),[],[],t,set,set⟩):=ι rfl;have hde:Led.newH t set=⟨0,0,0,true,[],Trie.sumT t,[],Ex.rootX [],Pw.digM set,Pw.digM set,[]⟩:=rfl;rw [hde] at HHd;simp only [List.map_nil,List.length_nil] at HTx HHd;rw [←hde] at HHd;generalize Hd.dig (Led.newH t set)=hs at *;clear hde hone hok hg;obtain ⟨stt,hst⟩:∃ x,Trie.sumT t=x:=⟨_,rfl⟩
 rw [hst] at HHd HEq;have HSt:=ι hst;clear hst;generalize Ex.rootX []=rx at *;generalize Pw.digM set=dg at *;have SZE:Hid ((Tryz.prog.info? 149).map (·.size)=some 16):=ι (by kernel_rfl);go_enter Tryz.func69,Tryz.ntmps69
 go_wp2_with fail
 refine HG.out.mono ?_;rintro e w1 ⟨v,rfl,hb,hTr,_⟩;have F1:Hid (Live w w1 []):=ι ⟨hb,by simp,List.Pairwise.nil⟩;obtain ⟨_,vb,vx,rfl,_⟩:=id (hTr rfl);have K1:=ι (hTr rfl);clear hb hTr HG;go_wp2_with fail
 refine (HTx.out _ F1.out.b).mono ?_;rintro e w2 ⟨rfl,hb⟩;have F2:=Live.hb F1 hb;have K2:=ι (K1.out.next hb);clear hb F1 K1 HTx;go_wp2_with fail
 refine (HDg.out _ F2.out.b).mono ?_;rintro e w3 ⟨rfl,hb⟩;have F3:=Live.hb F2 hb;have K3:=ι (K2.out.next hb);clear hb F2 K2 HDg;go_wp2_with fail
 refine (trie_Root w3 t _ K3.out).mono ?_;rintro e w4 ⟨rfl,rfl⟩;rw [HSt.out];go_upto_region 7 with fail
 have F5:=Live.ha F3 #[ζ,ζ,ζ,true,ε,stt,ε,rx,dg,dg,ν] 65;have K5:=ι (K3.out.next ((Below.refl _ w3).alloc (Nat.le_refl _) (.cells #[ζ,ζ,ζ,true,ε,stt,ε,rx,dg,dg,ν] 65)));generalize World.alloc w3 _=w5 at F5 K5 ⊢;generalize w3.heap.size=xb at F5 ⊢;clear F3 K3;go_wp2_with fail
 refine (HCl.out _ F5.out.b).mono ?_;rintro e w7 ⟨NA,nc,rfl,hb,hr,hf,_⟩;have F:=Live.hb F5 hb;have K7:=ι (K5.out.next hb);have HN:=ι (And.intro hr (fun a ha=>And.intro (Nat.le_trans F5.out.b.size (hf a ha).1) (hf a ha).2));clear hb hr hf F5 K5 HCl;go_upto_region 8 with fail
 have FX:=ι (Live.start w7);go_cut [13] (fun s wx=>∃ eb,s= .pointer (some ⟨eb,0,none⟩)∧Live w wx [(eb,149,#[ζ,ζ,ζ,true,ε,stt,ε,rx,dg,dg,ν,hs,ν,ν,.pointer (some ⟨vb,0,none⟩),.slice NA set.length nc]),(xb,65,#[ζ,ζ,ζ,true,ε,stt,ε,rx,dg,dg,ν])]∧Below w7.heap.size w7 wx)
 case first=>
  refine wp_region_held_drew (S:=fun w'=>w'.cell? ⟨xb,0,none⟩=some (.int .i64 0)∧w'.cell? ⟨xb,1,none⟩=some (.int .i64 0)∧w'.cell? ⟨xb,2,none⟩=some (.int .i64 0)∧w'.cell? ⟨xb,3,none⟩=some (.bool true)∧w'.cell? ⟨xb,4,none⟩=some (.string ⟨#[]⟩)∧w'.cell? ⟨xb,5,none⟩=some (stt:Value)∧w'.cell? ⟨xb,6,none⟩=some (.string ⟨#[]⟩)∧w'.cell? ⟨xb,7,none⟩=some (rx:Value)∧w'.cell? ⟨xb,8,none⟩=some (dg:Value)∧w'.cell? ⟨xb,9,none⟩=some (dg:Value)∧w'.cell? ⟨xb,10,none⟩=some (.slice none 0 0)) (by kernel_rfl) (by have F:=live_drew F; exact ⟨F.out.cell 0 0 rfl rfl,F.out.cell 0 1 rfl rfl,F.out.cell 0 2 rfl rfl,F.out.cell 0 3 rfl rfl,F.out.cell 0 4 rfl rfl,F.out.cell 0 5 rfl rfl,F.out.cell 0 6 rfl rfl,F.out.cell 0 7 rfl rfl,F.out.cell 0 8 rfl rfl,F.out.cell 0 9 rfl rfl,F.out.cell 0 10 rfl rfl⟩) (fun hHeld=> ?_);have F:=live_drew F;have FX:=live_drew FX;generalize w7.drew=Wd at F FX hHeld ⊢;refine tk 0 37 rfl ?_;try go_frame
  refine tk 1 38 rfl ?_;try go_frame
  refine tk 3 40 rfl ?_;try go_frame
  refine tk 4 41 rfl ?_;try go_frame
  refine rd2 2 6 rfl rfl (fun K hK=> ?_) (fun K hK=> ?_)
  ·skip
   go_simp
   (with_reducible refine (HHd.out _ ?_).mono ?_)
   ·exact F.out.b
   rintro e Wc ⟨rfl,hb⟩;have F:=Live.hb F hb;have FX:=Live.hb FX hb;clear hb;go_simp
   refine hK.out _ _ ⟨F.out.cell 0 0 rfl rfl,F.out.cell 0 1 rfl rfl,F.out.cell 0 2 rfl rfl,F.out.cell 0 3 rfl rfl,F.out.cell 0 4 rfl rfl,F.out.cell 0 5 rfl rfl,F.out.cell 0 6 rfl rfl,F.out.cell 0 7 rfl rfl,F.out.cell 0 8 rfl rfl,F.out.cell 0 9 rfl rfl,F.out.cell 0 10 rfl rfl⟩ (fun hHeld=> ?_);clear hK K;try go_frame
   refine tk 5 42 rfl ?_;try go_frame
   refine rd1 6 rfl (fun K hK=> ?_);go_simp
   have F:=Live.ha F (θ [ν,ε,ν,ν,.pointer none,ν]) 149;have FX:=Live.ha FX (θ [ν,ε,ν,ν,.pointer none,ν]) 149;refine hK.out _ _ ⟨F.out.cell 1 0 rfl rfl,F.out.cell 1 1 rfl rfl,F.out.cell 1 2 rfl rfl,F.out.cell 1 3 rfl rfl,F.out.cell 1 4 rfl rfl,F.out.cell 1 5 rfl rfl,F.out.cell 1 6 rfl rfl,F.out.cell 1 7 rfl rfl,F.out.cell 1 8 rfl rfl,F.out.cell 1 9 rfl rfl,F.out.cell 1 10 rfl rfl⟩ (fun hHeld=> ?_);clear hK K;try go_frame
   generalize World.alloc Wc _=Wa at F FX hHeld ⊢;generalize Wc.heap.size=eb at F FX ⊢;refine rd1 7 rfl (fun K hK=> ?_);refine step_store_all rfl 149 _ _ rfl eb 0 #[ζ,ζ,ζ,true,ε,stt,ε,rx,dg,dg,ν,hs,ν,ν,.pointer (some ⟨vb,0,none⟩),.slice NA set.length nc] rfl rfl (F.out.there 0 16 rfl (by decide)) SZE.out (by simp [Value.oneCell']) ?_;have F9:Hid (Live w (Wa.setCells eb 0 (#[ζ,ζ,ζ,true,ε,stt,ε,rx,dg,dg,ν,hs,ν,ν,.pointer (some ⟨vb,0,none⟩),.slice NA set.length nc]:Array Value).toList) [(eb,149,#[ζ,ζ,ζ,true,ε,stt,ε,rx,dg,dg,ν,hs,ν,ν,.pointer (some ⟨vb,0,none⟩),.slice NA set.length nc]),(xb,65,#[ζ,ζ,ζ,true,ε,stt,ε,rx,dg,dg,ν])]):=Live.hall F 0 _ rfl rfl;have FX9:Hid (Live w7 (Wa.setCells eb 0 (#[ζ,ζ,ζ,true,ε,stt,ε,rx,dg,dg,ν,hs,ν,ν,.pointer (some ⟨vb,0,none⟩),.slice NA set.length nc]:Array Value).toList) [(eb,149,#[ζ,ζ,ζ,true,ε,stt,ε,rx,dg,dg,ν,hs,ν,ν,.pointer (some ⟨vb,0,none⟩),.slice NA set.length nc])]):=Live.hall FX 0 _ rfl rfl;generalize Wa.setCells eb 0 (#[ζ,ζ,ζ,true,ε,stt,ε,rx,dg,dg,ν,hs,ν,ν,.pointer (some ⟨vb,0,none⟩),.slice NA set.length nc]:Array Value).toList=W9 at F9 FX9 ⊢;exact z_35
  ·skip
   go_simp
   have F:=Live.ha F (θ [ν,ε,ν,ν,.pointer none,ν]) 149;have FX:=Live.ha FX (θ [ν,ε,ν,ν,.pointer none,ν]) 149;refine hK.out _ _ ⟨F.out.cell 1 0 rfl rfl,F.out.cell 1 1 rfl rfl,F.out.cell 1 2 rfl rfl,F.out.cell 1 3 rfl rfl,F.out.cell 1 4 rfl rfl,F.out.cell 1 5 rfl rfl,F.out.cell 1 6 rfl rfl,F.out.cell 1 7 rfl rfl,F.out.cell 1 8 rfl rfl,F.out.cell 1 9 rfl rfl,F.out.cell 1 10 rfl rfl⟩ (fun hHeld=> ?_);clear hK K;try go_frame
   generalize World.alloc Wd _=Wa at F FX hHeld ⊢;generalize Wd.heap.size=eb at F FX ⊢;refine rd1 2 rfl (fun K hK=> ?_);go_simp
   (with_reducible refine (HHd.out _ ?_).mono ?_)
   ·exact F.out.b
   rintro e Wc ⟨rfl,hb⟩;have F:=Live.hb F hb;have FX:=Live.hb FX hb;clear hb;go_simp
   refine hK.out _ _ ⟨F.out.cell 1 0 rfl rfl,F.out.cell 1 1 rfl rfl,F.out.cell 1 2 rfl rfl,F.out.cell 1 3 rfl rfl,F.out.cell 1 4 rfl rfl,F.out.cell 1 5 rfl rfl,F.out.cell 1 6 rfl rfl,F.out.cell 1 7 rfl rfl,F.out.cell 1 8 rfl rfl,F.out.cell 1 9 rfl rfl,F.out.cell 1 10 rfl rfl⟩ (fun hHeld=> ?_);clear hK K;try go_frame
   refine tk 5 42 rfl ?_;try go_frame
   refine rd1 7 rfl (fun K hK=> ?_);refine step_store_all rfl 149 _ _ rfl eb 0 #[ζ,ζ,ζ,true,ε,stt,ε,rx,dg,dg,ν,hs,ν,ν,.pointer (some ⟨vb,0,none⟩),.slice NA set.length nc] rfl rfl (F.out.there 0 16 rfl (by decide)) SZE.out (by simp [Value.oneCell']) ?_;have F9:Hid (Live w (Wc.setCells eb 0 (#[ζ,ζ,ζ,true,ε,stt,ε,rx,dg,dg,ν,hs,ν,ν,.pointer (some ⟨vb,0,none⟩),.slice NA set.length nc]:Array Value).toList) [(eb,149,#[ζ,ζ,ζ,true,ε,stt,ε,rx,dg,dg,ν,hs,ν,ν,.pointer (some ⟨vb,0,none⟩),.slice NA set.length nc]),(xb,65,#[ζ,ζ,ζ,true,ε,stt,ε,rx,dg,dg,ν])]):=Live.hall F 0 _ rfl rfl;have FX9:Hid (Live w7 (Wc.setCells eb 0 (#[ζ,ζ,ζ,true,ε,stt,ε,rx,dg,dg,ν,hs,ν,ν,.pointer (some ⟨vb,0,none⟩),.slice NA set.length nc]:Array Value).toList) [(eb,149,#[ζ,ζ,ζ,true,ε,stt,ε,rx,dg,dg,ν,hs,ν,ν,.pointer (some ⟨vb,0,none⟩),.slice NA set.length nc])]):=Live.hall FX 0 _ rfl rfl;generalize Wc.setCells eb 0 (#[ζ,ζ,ζ,true,ε,stt,ε,rx,dg,dg,ν,hs,ν,ν,.pointer (some ⟨vb,0,none⟩),.slice NA set.length nc]:Array Value).toList=W9 at F9 FX9 ⊢;exact z_35
 case rest=>
 obtain ⟨eb,rfl,hF,hb7⟩:=hcut;have F9:=ι hF;have K9:=ι (K7.out.next hb7);have N9:=ι (HN.out.1.below hb7|>.more hb7.size);have HN2:=ι HN.out.2;have HS9:=ι hb7.size;clear hF hb7 F FX K7 HN HHd;obtain ⟨x,hx⟩:∃ x:LeM,x=⟨Led.newE t set,[],none,0,none,0,none,0,.pointer (some ⟨vb,0,none⟩),NA,nc⟩:=⟨_,rfl⟩
 have HXE:=ι hx;have hpl:lcell x= [.int .i64 0,.int .i64 0,.int .i64 0,.bool true,.string ⟨#[]⟩,.string ⟨stt.toArray⟩,.string ⟨#[]⟩,.string ⟨rx.toArray⟩,.string ⟨dg.toArray⟩,.string ⟨dg.toArray⟩,.slice none 0 0,.string ⟨hs.toArray⟩,.slice none 0 0,.slice none 0 0,.pointer (some ⟨vb,0,none⟩),.slice NA set.length nc]:=by rw [hx]; unfold lcell; rw [HEq.out]; rfl
 rw [←hpl] at F9;obtain ⟨pl,hpe⟩:∃ p,lcell x=p:=⟨_,rfl⟩
 have HPE:=ι hpe;have HL16:Hid (pl.length=16):=ι (by rw [←hpe]; rfl);rw [hpe] at F9;clear hx hpl hpe;have RG:wc.rangeAt eb 0 pl:=range_of_blk (F9.out.blk 0 rfl);have SZM:(Tryz.prog.info? 149).map (·.size)=some pl.length:=by rw [HL16.out]; exact SZE.out
 have hsz:=HL16.out;go_wp2_with ((with_reducible refine at_load 43 ?_); refine wpList_load_mid rfl 149 _ rfl eb 0 rfl pl _ RG Tryz.underlying149 rfl SZM ?_)
 generalize hF:List.foldl _ _ pl.zipIdx=cs;have hF2:cs=pl.toArray:=hF.symm.trans (foldl_set pl (θ [ν,ε,ν,ν,.pointer none,ν]) [] (by rw [HL16.out]; rfl));subst hF2;have hgb:Below wc.heap.size wc ((wc.alloc (.cells pl.toArray 149)).alloc (.cells #[.slice (some ⟨wc.heap.size,0,none⟩) 1 1,.slice NA set.length nc] 147)):=((Below.refl _ wc).alloc (Nat.le_refl _) _).alloc (by rw [World.size_alloc]; omega) _;have F10:=Live.ha (Live.ha F9 pl.toArray 149) #[.slice (some ⟨wc.heap.size,0,none⟩) 1 1,.slice NA set.length nc] 147;have hown:=World.ownsRow_lit (e:=149) (size:=16) (base:=w.heap.size) wc pl.toArray 1 F9.out.b.size (by simp only [maxLen]; omega) (by simpa using HL16.out);have hown:=hown.alloc (.cells #[.slice (some ⟨wc.heap.size,0,none⟩) 1 1,.slice NA set.length nc] 147);simp only [World.size_alloc] at F10;have hwz:=F9.out.b.size;have hnz:=HN2.out;have hsz9:=HS9.out;have hoff:∀ b,wc.heap.size≤b→offA NA b:=fun b hb a ha e=>by have h5:=(hnz a ha).2; omega
 generalize World.alloc (World.alloc wc _) _=W2 at hgb F10 hown ⊢;have hr:Reads W2 W2.heap.size 2 NA set.length (mcells set):=(N9.out.below hgb).more hgb.size;refine HPo.out (wc.heap.size+1) ⟨[x],some ⟨wc.heap.size,0,none⟩,1,set,NA,nc⟩ _ (by first|exact trivial|rfl) F10.out.b ?_ ?_;rotate_left
 ·rw [HXE.out]; rfl
 have hL:(LgM.L ⟨[x],some ⟨wc.heap.size,0,none⟩,1,set,NA,nc⟩)= [Led.newE t set]:=by rw [HXE.out]; rfl
 have hown2:W2.ownsRow w.heap.size 149 16 (.slice (some ⟨wc.heap.size,0,none⟩) 1 1) 1 (lcells [x]):=by simpa [lcells,HPE.out] using hown
 refine {blk:=F10.out.blk 0 rfl,r:=Reads.of_own hown2,ok:= ?_,nr:=hr,wf:=by rw [hL]; exact HW.out,rt:=by rw [hL]; intro e he; rw [List.mem_singleton] at he; subst he; exact HRt.out,nx:=⟨Led.newE t set,by rw [hL]; rfl,by rw [HEq.out]⟩,own:=hown2,lo:=by omega,off:= ?_,noff:=⟨(hoff _ (by omega)).w _,fun k hk=>(hoff _ (by have h5:wc.heap.size=k:=Option.some.inj hk; omega)).w _⟩}
 ·intro e he;rw [List.mem_singleton] at he;subst he;rw [HXE.out];have hK:=K9.out.next hgb;have hEq:=HEq.out;refine ⟨?_,TxsAt.nil _,?_,?_,?_,?_⟩
  ·simp only [hEq]; exact Reads.none_
  ·simp only [hEq]; rfl
  ·simp only [hEq]; exact Reads.none_
  ·simp only [hEq]; exact hr
  ·simp only [hEq]; exact hK
 ·intro e he;rw [List.mem_singleton] at he;subst he;rw [HXE.out];have hx:∀ b,wc.heap.size≤b→LeM.woff ⟨Led.newE t set,[],none,0,none,0,none,0,.pointer (some ⟨vb,0,none⟩),NA,nc⟩ b:=fun b hb=>⟨(by intro _ a ha; cases ha),(by intro _ a ha; cases ha),(by intro _ a ha; cases ha),(hoff b hb).w _,(by intro q hq; cases hq)⟩
  exact ⟨hx _ (by omega),fun k hk=>hx _ (by have h5:wc.heap.size=k:=Option.some.inj hk; omega)⟩
theorem xcells_set:∀ (l:List TxM) (i:Nat) (hi:i<l.length) (A:Option Addr) (c:Nat),(xcells l).set (i*8+7) (.slice A l[i].1.mem.length c)=xcells (l.set i (l[i].1,A,c))
 | [],i,hi,_,_=>by simp at hi
 |p::r,0,_,A,c=>by simp [xcells,xcell]
 |p::r,i+1,hi,A,c=>by
  have ih:=xcells_set r i (by simpa using hi) A c;have e:(i+1)*8+7=8+(i*8+7):=by omega
  simp only [xcells,List.flatMap_cons,List.set_cons_succ,List.getElem_cons_succ] at ih ⊢;rw [e,List.set_append_right _ _ (by rw [xcell_len]; omega),xcell_len,show 8+(i*8+7) - 8=i*8+7 by omega,ih]
def CloneOEnd (w:World) (et:TypeId) (sz n:Nat) (cs:List Value) (e:Ending) (w':World):Prop:=
 ∃ A c,e= .returned (.slice A n c)∧Below w.heap.size w w'∧w'.ownsRow w.heap.size et sz (.slice A n c) n cs
theorem clone_txs (w:World) (l:List TxM) (hl:l.length≤100000) (A:Option Addr) (c:Nat) (HR:Reads w w.heap.size 8 A l.length (xcells l)):
  Calls Tryz.prog 116 #[.slice A l.length c] w (CloneOEnd w 80 8 l.length (xcells l)):=by
 have HP:Hid (∀ A' c' w',Below w.heap.size w w'→w'.ownsRow w.heap.size 80 8 (.slice A' l.length c') l.length (xcells l)→CloneOEnd w 80 8 l.length (xcells l) (.returned (.slice A' l.length c')) w'):=ι (fun A' c' w' h1 h2=>⟨A',c',rfl,h1,h2⟩);generalize CloneOEnd w 80 8 l.length (xcells l)=P at HP ⊢;have HL:=ι hl;cases A with
 |none=>
  have h0:l= []:=by
   cases l with
   |nil=>rfl
   |cons x r=>obtain ⟨a,o,h,_⟩:=HR.form (by simp) (by decide); cases h
  subst h0;have he:(binOp .eql 68 (.slice none 0 c) (.slice none 0 0)).run Tryz.prog w= .ok (.bool true) w:=eql_nil Tryz.underlying68 w none 0 c;go_enter Tryz.func116,Tryz.ntmps116
  go_wp2_with fail
  exact HP.out none 0 w (Below.refl _ _) (World.ownsRow_nil _ _ _ _)
 |some ad=>
  have HRR:=ι HR;clear HR hl;have he:(binOp .eql 68 (.slice (some ad) l.length c) (.slice none 0 0)).run Tryz.prog w= .ok (.bool false) w:=eql_nil Tryz.underlying68 w (some ad) l.length c;obtain ⟨i0,hi0,hz0,hz1,hz2⟩:=info_parts info_tx;go_enter Tryz.func116,Tryz.ntmps116
  go_upto_region 3 with fail
  have F1:=Live.hb (ι (Live.start w)) ((Below.refl _ w).alloc (Nat.le_refl _) (.cells #[] 80));have O1:=World.ownsRow_made (base:=w.heap.size) (e:=80) (size:=8) w #[] 0 (Nat.le_refl _) (by simp only [maxLen]; omega) rfl;have RA:Reads (w.alloc (.cells #[] 80)) w.heap.size 8 (some ad) l.length (xcells l):=HRR.out.below F1.out.b;have hll:=HL.out;go_wp2_with (at_builtin; refine wpList_append_any (w.alloc (.cells #[] 80)) rfl _ _ 68 rfl w.heap.size 80 i0 _ 8 112 Tryz.underlying68 hi0 hz0 hz1 hz2 rfl (by decide) (.slice (some ⟨w.heap.size,0,none⟩) 0 0) 0 [] rfl O1 w.heap.size (some ad) l.length c (xcells l) rfl RA (xcells_one _) (by simp only [maxLen]; omega) (by omega) F1.out.b.size ?_; intro v2 w2 own2 hg2 _; rw [Nat.zero_add,List.nil_append] at own2; obtain ⟨A2,c2,rfl,_,_,_⟩:=own_form own2; have H2:=ι own2; have HG:=ι (F1.out.b.grown hg2 F1.out.b.size (fun k e=>Nat.le_of_eq (Option.some.inj e))); clear own2 hg2)
  exact HP.out A2 c2 _ HG.out H2.out
def ClonedEnd (w:World) (l:List TxM) (e:Ending) (w':World):Prop:=
 ∃ l' A' c',e= .returned (.slice A' l'.length c')∧Below w.heap.size w w'∧l'.map (·.1)=l.map (·.1)∧TxsAt w' A' l'∧(∀ a,A'=some a→w.heap.size≤a.block)∧∀ p∈l',∀ a,p.2.1=some a→w.heap.size≤a.block
structure ClI (w W:World) (l cur:List TxM) (A:Option Addr) (c i:Nat):Prop where
 n:cur.length=l.length
 m:cur.map (·.1)=l.map (·.1)
 own:W.ownsRow w.heap.size 80 8 (.slice A cur.length c) cur.length (xcells cur)
 new:∀ j (hj:j<cur.length),j<i→Reads W W.heap.size 2 cur[j].2.1 cur[j].1.mem.length (mcells cur[j].1.mem)∧∀ a,cur[j].2.1=some a→w.heap.size≤a.block∧∀ b,A=some b→a.block≠b.block
 old:∀ j (hj:j<cur.length),i≤j→l[j]?=some cur[j]
 b:Below w.heap.size w W
theorem led_cloned (w:World) (l:List TxM) (A:Option Addr) (c:Nat) (HT:TxsAt w A l) (hl:l.length≤100000) (hm:∀ p∈l,p.1.mem.length≤100000):Calls Tryz.prog 73 #[.slice A l.length c] w (ClonedEnd w l):=by
 have HP:Hid (∀ l' A' c' w',Below w.heap.size w w'→l'.map (·.1)=l.map (·.1)→TxsAt w' A' l'→(∀ a,A'=some a→w.heap.size≤a.block)→(∀ p∈l',∀ a,p.2.1=some a→w.heap.size≤a.block)→ClonedEnd w l (.returned (.slice A' l'.length c')) w'):=ι (fun l' A' c' w' h1 h2 h3 h4 h5=>⟨l',A',c',rfl,h1,h2,h3,h4,h5⟩);generalize ClonedEnd w l=P at HP ⊢;have HC:=ι (clone_txs w l hl A c HT.r);have HTT:=ι HT;have HL:=ι (And.intro hl hm);clear HT hl hm;go_enter Tryz.func73,Tryz.ntmps73
 go_wp2_with fail
 refine HC.out.mono ?_;rintro e w1 ⟨A1,c1,rfl,hb,own⟩;have HI0:Hid (ClI w w1 l l A1 c1 0):=ι ⟨rfl,rfl,own,fun j _ hj=>by omega,fun j hj _=>List.getElem?_eq_getElem hj,hb⟩;clear hb own HC;go_wp2_with fail
 refine wp_loop_ghost_k (fun k a wr=>∀ Φ:Act→Prop,(∀ ⦃s0 s1 s4 s5 s6 s2 s3 s7 s8 s9 a0 a2 a3 a4 a5 a6 a7 a8 a9:Value⦄ (i:Nat) (cur:List TxM),(i+k=l.length∧ClI w wr l cur A1 c1 i)→Φ {tmps:=#[s0,s1,.slice none 0 0,.slice A1 l.length c1,s4,s5,s6,.slice A1 l.length c1,.int .i64 (l.length:Int),.int .i64 (i:Int),s2,s3,s7,s8,s9,a0,a2,a3,a4,a5,a6,a7,a8,a9],defers:= []})→Φ a) (l.length) ?_ ?_
 ·refine fun Φ hΦ=>hΦ (0) (l) ?_;exact ⟨by omega,HI0.out⟩
 ·intro k1 a1 wr1 hI1 J1 K1 hJ1 hK1;refine hI1 (fun a=>Code.wp _ _ _ a _) ?_;clear hI1 a1;iterate 19 (intro _)
  intro i cur hrel
  show Code.wp _ _ _ _ _;obtain ⟨h1,hI⟩:=hrel;by_cases hi:i<l.length
  ·have hic:i<cur.length:=by rw [hI.n]; exact hi
   have hlp:l[i]=cur[i]:=by
    have:=hI.old i hic (Nat.le_refl _)
    rw [List.getElem?_eq_getElem hi] at this;exact Option.some.inj this
   have HM:=(HTT.out.next hI.b).m _ (List.getElem_mem hi);have HL5:=HL.out.2 _ (List.getElem_mem hi);rw [hlp] at HM HL5;have HCm:=ι (clone_mems wr1 _ HL5 _ cur[i].2.2 HM);obtain ⟨g,hA⟩:∃ g,A1=some ⟨g,0,none⟩:=by
    rcases hI.own.2 with ⟨_,h0⟩|⟨g,_,_,e0,_⟩
    ·omega
    ·injection e0 with e0 _ _
     exact ⟨g,e0⟩
   have own:=hI.own;rw [hA] at own;have r7:wr1.cell? ⟨g,0+i*8+7,none⟩=some (.slice cur[i].2.1 cur[i].1.mem.length cur[i].2.2):=by
    obtain ⟨ad,off,e1,_,hc⟩:=tx_cells (Reads.of_own own) hic;injection e1 with e1
    injection e1 with e2 e3 _
    subst e2;subst e3;exact (hc _ (Below.refl _ _)).2.2.2.2.2.2.2
   have HSet:=ι (fun A' c'=>xcells_set cur i hic A' c');have HOwn:=ι own;have HI:=ι hI;have HHi:=ι (And.intro h1 (And.intro hic hA));have hi1:(i:Int)<l.length:=by omega
   have hi0:(0:Int)≤i:=by omega
   have hwi:IntKind.i64.wrap ((i:Int)+1)=(i:Int)+1:=IntWalk.i64_in _ (by have:=HL.out.1; omega);have hn:=hI.n;obtain ⟨o,ho⟩:∃ o,o=0:=⟨0,rfl⟩
   have HO:=ι ho;have hA2:A1=some ⟨g,o,none⟩:=by rw [hA,ho]
   have HA2:=ι hA2;have r7:wr1.cell? ⟨g,o+i*8+7,none⟩=some (.slice cur[i].2.1 cur[i].1.mem.length cur[i].2.2):=by rw [ho]; exact r7
   rw [hA2];clear hA2;clear ho own hI h1 HM HL5 hlp hA hn hi;generalize hp:cur[i]=p at *;have HP5:=ι hp;clear hp;obtain ⟨x,mA,mc⟩:=p;simp only at r7 HCm HSet;go_wp2_with fail
   refine HCm.out.mono ?_;rintro e w2 ⟨A2,c2,rfl,hb2,hr2,hf2,_⟩;have O2:=own_below HOwn.out hb2;have r7:w2.cell? ⟨g,o+i*8+7,none⟩=some (.slice mA x.mem.length mc):=by rw [←r7]; exact hb2.cell (HOwn.out.lt _ rfl).2
   have fz7:w2.frozen? ⟨g,o+i*8+7,none⟩=false:=O2.frozenAt _;have ST:=O2.stored (i*8+7) (.slice A2 x.mem.length c2);rw [HSet.out] at ST;have hoe:o+i*8+7=i*8+7:=by have:=HO.out; omega
   rw [←hoe] at ST;have ST:=ι ST;have H2:=ι (And.intro hb2 (And.intro hr2 hf2));clear O2 hb2 hr2 hf2 hoe HCm;go_upto_region 6 with fail
   have HGR:=ST.out.2;have HON:=ST.out.1;generalize w2.setCell ⟨g,o+i*8+7,none⟩ (.slice A2 x.mem.length c2)=w3 at HGR HON ⊢;have H3:=ι (And.intro HGR HON);clear HGR HON ST r7 fz7;go_wp2_with fail
   rw [←HA2.out];refine Handed.intro (l.length - (i+1)) ?_ (hJ1 _ _ _ (fun Φ hΦ=>hΦ (i+1) (cur.set i (x,A2,c2)) ?_))
   ·have:=HHi.out.1; omega
   ·have hI:=HI.out;obtain ⟨_,hic,hA⟩:=HHi.out;obtain ⟨hb2,hr2,hf2⟩:=H2.out;obtain ⟨hg3,ho3⟩:=H3.out;have hgl:=HOwn.out.lt g rfl;refine ⟨by have:=HHi.out.1; omega,?_⟩;refine ⟨by rw [List.length_set]; exact hI.n,?_,?_,?_,?_,?_⟩
    ·rw [List.map_set,←hI.m];apply List.ext_getElem?
     intro k;by_cases hk:i=k
     ·subst hk;rw [List.getElem?_set_self (by rw [List.length_map]; exact hic),List.getElem?_map,List.getElem?_eq_getElem hic,HP5.out];rfl
     ·rw [List.getElem?_set_ne hk]
    ·rw [List.length_set,hA]; exact ho3
    ·intro j hj hji;rw [List.length_set] at hj;by_cases hk:i=j
     ·subst hk;rw [List.getElem_set_self];simp only
      refine ⟨reads_off hr2 hg3 (fun a ha e=> ?_),fun a ha=>⟨Nat.le_trans hI.b.size (hf2 a ha).1,fun b hb=> ?_⟩⟩
      ·have h5:=(hf2 a ha).1;have h6:g<wr1.heap.size:=hgl.2;have h7:=Option.some.inj e;omega
      ·rw [hA] at hb;have hb:=Option.some.inj hb;subst hb;have h5:=(hf2 a ha).1;have h6:g<wr1.heap.size:=hgl.2;simp only
       omega
     ·rw [List.getElem_set_ne hk];obtain ⟨n1,n2⟩:=hI.new j hj (by omega);refine ⟨reads_off ((n1.below hb2).more hb2.size) hg3 (fun a ha e=>(n2 a ha).2 _ hA (Option.some.inj e)),n2⟩
    ·intro j hj hij;rw [List.length_set] at hj;rw [List.getElem_set_ne (by omega)];exact hI.old j hj (by omega)
    ·exact (hI.b.nxt hb2).grown hg3 (Nat.le_trans hI.b.size hb2.size) (fun k e=>by have h5:=Option.some.inj e; have h6:w.heap.size≤g:=hgl.1; omega)
  ·have hi1:((i:Int)<l.length)=False:=by simp; omega
   have HE:=ι hI;have hil:i=l.length:=by omega
   subst hil;clear hI h1 hi;go_wp2_with fail
   have hn:=HE.out.n;rw [←hn];refine HP.out cur A1 c1 _ HE.out.b HE.out.m ⟨Reads.of_own HE.out.own,fun p hp=> ?_,fun p hp=> ?_,by rw [hn]; exact HTT.out.n⟩ ?_ ?_
   ·obtain ⟨j,hj,rfl⟩:=List.mem_iff_getElem.1 hp;exact (HE.out.new j hj (by omega)).1
   ·have:p.1∈l.map (·.1):=by rw [←HE.out.m]; exact List.mem_map_of_mem hp
    obtain ⟨q,hq,e⟩:=List.mem_map.1 this;rw [←e];exact HTT.out.t q hq
   ·intro a ha;subst ha;exact (HE.out.own.lt _ rfl).1
   ·intro p hp a ha;obtain ⟨j,hj,rfl⟩:=List.mem_iff_getElem.1 hp;exact ((HE.out.new j hj (by omega)).2 a ha).1
theorem z_36 {P:Prop} (h:P:=by
 try go_frame
 refine rd1 11 rfl (fun K hK=> ?_);refine step_append_row Wd 9 [sx] rfl _ _ 26 rfl w3.heap.size 1 16 _ info_str Tryz.underlying26 rfl (by decide) (.slice SA S.length SC) S.length (strv S) rfl own 1 1 rfl rfl (by simp [Value.oneCell']) (by simp only [maxLen]; omega) (by omega) w3.heap.size w3 FX.out.b (Nat.le_refl _) FX.out.b.size ?_;intro v4 w4 own4 hb4 hg4 _ _;obtain ⟨A4,c4,rfl,_,_,_⟩:=own_form own4;have F4:=Live.hp F own HB3.out.size (by intro y hy; rcases List.mem_cons.1 hy with rfl|hy; (· show (9:Nat)≠65; decide); (· exact HLL.out.1 y hy)) hg4;have FX4:=Live.hp FX own (Nat.le_refl _) (by intro y hy; rw [List.mem_singleton] at hy; subst hy; show (9:Nat)≠65; decide) hg4;have HOL4:=HOL.kept hg4 (own_types_ne HOL own (by decide));refine hK.out _ _ ⟨R0.out _ F4.out.b,R1.out _ F4.out.b⟩ (fun hHeld=> ?_);clear hK K;try go_frame
 refine tk 12 128 rfl ?_;try go_frame
 refine rd1 13 rfl (fun K hK=> ?_);have kh4:=(F4.out.blk 0 rfl).cell 10;rw [h10_get HLL.out.2] at kh4;have fz4:=F4.out.frozen 0 10 rfl;go_simp
 have F5:=Live.hs F4 0 10 (.slice A4 (S.length+1) c4) rfl;have FX5:=Live.hs FX4 0 10 (.slice A4 (S.length+1) c4) rfl;have hgr:=grown_cell (World.grownBy.refl w4 (some hb)) 10 (.slice A4 (S.length+1) c4);have own5:=own4.kept hgr (.inr (own_blk_ne own4 (F4.out.blk 0 rfl) (by decide)));have HOL5:=HOL4.kept hgr (.inr (own_blk_ne HOL4 (F4.out.blk 0 rfl) (by decide)));rw [h10_set HLL.out.2] at F5 FX5;simp only [List.set_cons_zero] at F5 FX5;generalize w4.setCell ⟨hb,10,none⟩ (.slice A4 (S.length+1) c4)=w5 at F5 FX5 own5 HOL5 ⊢;refine hK.out _ _ ⟨R0.out _ F5.out.b,R1.out _ F5.out.b⟩ (fun hHeld=> ?_);clear hK K;try go_frame
 refine wpAnyH_done (by kernel_rfl) ?_ _;refine NoPanic.normal ?_;have HS2:Hid ((S++ [sx]).length=S.length+1):=ι (by simp);have LI:Hid (LoopI w w3 w5 L hb H10 (S++ [sx]) A4 c4):=ι ⟨by rw [HS2.out,strv_snoc]; exact own5,by rw [HS2.out]; exact FX5.out,by rw [HS2.out]; exact F5.out⟩;have HOL6:=ι HOL5;clear own5 F5 FX5 HOL5 HOL4 F4 FX4 own4 hgr kh4 fz4 hb4 hg4 hHeld HOL own F FX;go_wp2_with fail
 refine Handed.intro (lk.length - (i+1)) ?_ (hJ1 _ _ _ (fun Φ hΦ=>hΦ (i+1) (S++ [sx]) (A4) (c4) ?_))
 ·have:=HI.out.1; omega
 exact ⟨by have:=HI.out.1; omega,HS1.out,by rw [HS2.out,HI.out.2],HOL6.out,LI.out⟩):P:=h
theorem grown_loop (w w3 W0:World) (h3:Below w.heap.size w w3) (lb:Nat) (g:LgM) (ad off:Nat) (hA:g.aA=some ⟨ad,off,none⟩) (hG:LgRd w lb g) (lk:List Nat) (hlt:∀ x∈lk,x<g.es.length) (h22:lk.length≤22) (LA:Option Addr) (lc:Nat) (bs:Nat) (hLO:W0.ownsRow bs 3 1 (.slice LA lk.length lc) lk.length (ints lk))
  (L:List (Nat × Nat × Array Value)) (hL:∀ x∈L,9≠x.2.1) (hb:Nat) (H10:List Value) (h10:H10.length=10) (hI0:LoopI w w3 W0 L hb H10 [] none 0)
  (v1 v2 v6 v7 v8 v9 v10 v11 v12 v13:Value) (Q:Exit→Act→World→Prop)
  (hQ:∀ ⦃s3 s4 s5 s0 s1 s2 s6 s7 s8 s9 a0 a2 a3 a4 a5 a6 a7 a8 a9 b0 b1 b2 b3 b4 b5 b6 b7 b8 b9 c0 c1 c2 c3 c5 c6 c7 c8 c9 d0 d1 d2 d3 d4 d5 d6 d7 d8 d9 e0 e1 e2 e3 e4 e5 e6 e7 e8 e9 f0 f1 f2 f4 f5 f6 f7 f8 f9 g0 g1 g2 g3 g4 g5 g6 g7 g8 g9 h0 h4 h5 h6 h7 h8 h9 i0 i1 i2 i3 i4 i5 i6 i7 i8 i9 j0 j1 j2 j3 j5 j6 j7 j8 j9 k2 k3 k4 k5 k6 k7 k8 k9 l0 l1 l2 l3 l4 l5 l6 l7 l8 l9 m0 m1 m2 m3 m4 m5:Value⦄ (W2:World) (S:List (List UInt8)) (SA:Option Addr) (SC:Nat),S=lk.map (Led.sumAt g.L)→LoopI w w3 W2 L hb H10 S SA SC→Q (.exit 0) {tmps:=#[.pointer (some ⟨lb,0,none⟩),v1,v2,s3,s4,s5,v6,v7,v8,v9,v10,v11,v12,v13,.pointer (some ⟨hb,0,none⟩),s0,s1,s2,s6,s7,s8,s9,a0,a2,a3,a4,a5,a6,a7,a8,a9,b0,b1,b2,b3,b4,b5,b6,b7,b8,b9,c0,c1,c2,c3,c5,c6,c7,c8,c9,d0,d1,d2,d3,d4,d5,d6,d7,d8,d9,e0,e1,e2,e3,e4,e5,e6,e7,e8,e9,f0,f1,f2,f4,f5,f6,f7,f8,f9,g0,g1,g2,g3,g4,g5,g6,g7,g8,g9,h0,h4,h5,h6,h7,h8,h9,i0,i1,i2,i3,i4,i5,i6,i7,i8,i9,j0,j1,j2,j3,.slice LA lk.length lc,.int .i64 (lk.length:Int),.int .i64 (lk.length:Int),.bool false,j5,j6,j7,j8,j9,k2,k3,k4,k5,k6,k7,k8,k9,l0,l1,l2,l3,l4,l5,l6,l7,l8,l9,m0,m1,m2,m3,m4,m5],defers:= []} W2)
  (s3 s4 s5 s0 s1 s2 s6 s7 s8 s9 a0 a2 a3 a4 a5 a6 a7 a8 a9 b0 b1 b2 b3 b4 b5 b6 b7 b8 b9 c0 c1 c2 c3 c5 c6 c7 c8 c9 d0 d1 d2 d3 d4 d5 d6 d7 d8 d9 e0 e1 e2 e3 e4 e5 e6 e7 e8 e9 f0 f1 f2 f4 f5 f6 f7 f8 f9 g0 g1 g2 g3 g4 g5 g6 g7 g8 g9 h0 h4 h5 h6 h7 h8 h9 i0 i1 i2 i3 i4 i5 i6 i7 i8 i9 j0 j1 j2 j3 j4 j5 j6 j7 j8 j9 k2 k3 k4 k5 k6 k7 k8 k9 l0 l1 l2 l3 l4 l5 l6 l7 l8 l9 m0 m1 m2 m3 m4 m5:Value):
  Code.wp Tryz.prog (.loop (loopAt Tryz.f89 0)) Q {tmps:=#[.pointer (some ⟨lb,0,none⟩),v1,v2,s3,s4,s5,v6,v7,v8,v9,v10,v11,v12,v13,.pointer (some ⟨hb,0,none⟩),s0,s1,s2,s6,s7,s8,s9,a0,a2,a3,a4,a5,a6,a7,a8,a9,b0,b1,b2,b3,b4,b5,b6,b7,b8,b9,c0,c1,c2,c3,c5,c6,c7,c8,c9,d0,d1,d2,d3,d4,d5,d6,d7,d8,d9,e0,e1,e2,e3,e4,e5,e6,e7,e8,e9,f0,f1,f2,f4,f5,f6,f7,f8,f9,g0,g1,g2,g3,g4,g5,g6,g7,g8,g9,h0,h4,h5,h6,h7,h8,h9,i0,i1,i2,i3,i4,i5,i6,i7,i8,i9,j0,j1,j2,j3,.slice LA lk.length lc,.int .i64 (lk.length:Int),.int .i64 0,j4,j5,j6,j7,j8,j9,k2,k3,k4,k5,k6,k7,k8,k9,l0,l1,l2,l3,l4,l5,l6,l7,l8,l9,m0,m1,m2,m3,m4,m5],defers:= []} W0:=by
 have HQ:=ι hQ;have HGG:=ι hG;have HLt:=ι hlt;have H22:=ι h22;have HLL:=ι (And.intro hL h10);have HI0:=ι (And.intro hLO hI0);have HB3:=ι h3;have HAA:=ι hA;have HL0:Hid (∀ W,Below w.heap.size w W→W.cell? ⟨lb,0,none⟩=some (.slice (some ⟨ad,off,none⟩) g.es.length g.ac)):=ι (fun W hW=>by rw [←hA]; exact (hG.blk.below hW hG.blk.lt).cell 0);clear hQ hG hlt h22 hL h10 hLO hI0 h3 hA;refine wp_loop_ghost_k (fun k a wr=>∀ Φ:Act→Prop,(∀ ⦃s3 s4 s5 s0 s1 s2 s6 s7 s8 s9 a0 a2 a3 a4 a5 a6 a7 a8 a9 b0 b1 b2 b3 b4 b5 b6 b7 b8 b9 c0 c1 c2 c3 c5 c6 c7 c8 c9 d0 d1 d2 d3 d4 d5 d6 d7 d8 d9 e0 e1 e2 e3 e4 e5 e6 e7 e8 e9 f0 f1 f2 f4 f5 f6 f7 f8 f9 g0 g1 g2 g3 g4 g5 g6 g7 g8 g9 h0 h4 h5 h6 h7 h8 h9 i0 i1 i2 i3 i4 i5 i6 i7 i8 i9 j0 j1 j2 j3 j4 j5 j6 j7 j8 j9 k2 k3 k4 k5 k6 k7 k8 k9 l0 l1 l2 l3 l4 l5 l6 l7 l8 l9 m0 m1 m2 m3 m4 m5:Value⦄ (i:Nat) (S:List (List UInt8)) (SA:Option Addr) (SC:Nat),(i+k=lk.length∧S=(lk.take i).map (Led.sumAt g.L)∧S.length=i∧wr.ownsRow bs 3 1 (.slice LA lk.length lc) lk.length (ints lk)∧LoopI w w3 wr L hb H10 S SA SC)→Φ {tmps:=#[.pointer (some ⟨lb,0,none⟩),v1,v2,s3,s4,s5,v6,v7,v8,v9,v10,v11,v12,v13,.pointer (some ⟨hb,0,none⟩),s0,s1,s2,s6,s7,s8,s9,a0,a2,a3,a4,a5,a6,a7,a8,a9,b0,b1,b2,b3,b4,b5,b6,b7,b8,b9,c0,c1,c2,c3,c5,c6,c7,c8,c9,d0,d1,d2,d3,d4,d5,d6,d7,d8,d9,e0,e1,e2,e3,e4,e5,e6,e7,e8,e9,f0,f1,f2,f4,f5,f6,f7,f8,f9,g0,g1,g2,g3,g4,g5,g6,g7,g8,g9,h0,h4,h5,h6,h7,h8,h9,i0,i1,i2,i3,i4,i5,i6,i7,i8,i9,j0,j1,j2,j3,.slice LA lk.length lc,.int .i64 (lk.length:Int),.int .i64 (i:Int),j4,j5,j6,j7,j8,j9,k2,k3,k4,k5,k6,k7,k8,k9,l0,l1,l2,l3,l4,l5,l6,l7,l8,l9,m0,m1,m2,m3,m4,m5],defers:= []})→Φ a) (lk.length) ?_ ?_
 ·refine fun Φ hΦ=>hΦ (0) ([]) (none) (0) ?_;exact ⟨by omega,rfl,rfl,HI0.out.1,HI0.out.2⟩
 ·intro k1 a1 wr1 hI1 J1 K1 hJ1 hK1;refine hI1 (fun a=>Code.wp _ _ _ a _) ?_;clear hI1 a1;iterate 128 (intro _)
  intro i S SA SC hrel
  show Code.wp _ _ _ _ _
  conv=>arg 2; whnf
  obtain ⟨h1,h2,h3,hLO,hI⟩:=hrel;by_cases hi:i<lk.length
  ·have hRL:=Reads.of_own hLO;obtain ⟨la,lo,rfl,hbl,hcell⟩:=led_int_cell hRL hi;have r0:=hcell _ (Below.refl _ _);have hi1:(i:Int)<lk.length:=by omega
   have hi0:(0:Int)≤i:=by omega
   have hwi:IntKind.i64.wrap ((i:Int)+1)=(i:Int)+1:=IntWalk.i64_in _ (by have:=H22.out; omega);have hxl:=HLt.out _ (List.getElem_mem hi);have hsx:Led.sumAt g.L lk[i]=(g.es[lk[i]]'hxl).en.sum:=by rw [Led.sumAt_of (by rw [List.length_map]; exact hxl),List.getElem_map]
   obtain ⟨sx,hsxe⟩:∃ sx,(g.es[lk[i]]'hxl).en.sum=sx:=⟨_,rfl⟩
   rw [hsxe] at hsx;have HS1:Hid (S++ [sx]=(lk.take (i+1)).map (Led.sumAt g.L)):=ι (by
    rw [List.take_succ_eq_append_getElem hi,List.map_append,h2,←hsx]; rfl)
   obtain ⟨ad2,off2,hA,hbl2,hcell2⟩:=led_cells HGG.out.r hxl;rw [HAA.out] at hA;injection hA with hA
   injection hA with ha1 ha2 _
   subst ha1;subst ha2;have R1:Hid (∀ W,Below w.heap.size w W→W.cell? ⟨ad,off+lk[i]*16+11,none⟩=some (sx:Value)):=ι (fun W hW=>by rw [←hsxe]; exact hcell2 W hW 11 _ rfl);have hx1:(lk[i]:Int)<g.es.length:=by omega
   have hx0:(0:Int)≤lk[i]:=by omega
   have HI:=ι (And.intro h1 h3);have HOL:=hLO;have F:=ι hI.f;have FX:=ι hI.f3;have own:=hI.own;have hS22:S.length<22:=by have:=H22.out; omega
   have R0:=HL0;clear h1 h2 h3 hLO hI hRL hcell hcell2 hbl hbl2 hsx hsxe hxl;generalize lk[i]=x at *;generalize g.es.length=gn at *;generalize g.ac=gc at *;go_upto_region 21 with fail
   have k0:=R0.out _ F.out.b;have k1:=R1.out _ F.out.b;refine wp_region_noPanic ?_;refine wp_region_held_drew (S:=fun w'=>w'.cell? ⟨lb,0,none⟩=some (.slice (some ⟨ad,off,none⟩) gn gc)∧w'.cell? ⟨ad,off+x*16+11,none⟩=some (sx:Value)) (by kernel_rfl) ⟨k0,k1⟩ (fun hHeld=> ?_);clear r0 k0 k1;have F:=live_drew F;have FX:=live_drew FX;have own:=own.drew;have HOL:=HOL.drew;generalize wr1.drew=Wd at F FX own HOL hHeld ⊢;refine tk 0 116 rfl ?_;try go_frame
   refine tk 2 118 rfl ?_;try go_frame
   refine tk 3 119 rfl ?_;try go_frame
   refine tk 4 120 rfl ?_;try go_frame
   refine tk 5 121 rfl ?_;try go_frame
   refine tk 6 122 rfl ?_;try go_frame
   refine tk 7 123 rfl ?_;try go_frame
   refine tk 8 124 rfl ?_;try go_frame
   refine tk 9 125 rfl ?_;try go_frame
   refine rd2 1 10 rfl rfl (fun K hK=> ?_) (fun K hK=> ?_)
   ·skip
    have khl:=(F.out.blk 0 rfl).cell 10;rw [h10_get HLL.out.2] at khl;go_simp
    refine hK.out _ _ hHeld (fun hHeld=> ?_);clear hK K khl;try go_frame
    refine rd1 10 rfl (fun K hK=> ?_);go_simp
    have Fa:=Live.ha F #[sx] 9;have hHa:=And.intro (R0.out _ Fa.out.b) (R1.out _ Fa.out.b);refine hK.out _ _ hHa (fun hHeld=> ?_);clear hK K;exact z_36
   ·skip
    go_simp
    have Fa:=Live.ha F #[sx] 9;have hHa:=And.intro (R0.out _ Fa.out.b) (R1.out _ Fa.out.b);refine hK.out _ _ hHa (fun hHeld=> ?_);clear hK K;try go_frame
    refine rd1 1 rfl (fun K hK=> ?_);have khl:=(Fa.out.blk 1 rfl).cell 10;rw [h10_get HLL.out.2] at khl;go_simp
    refine hK.out _ _ hHeld (fun hHeld=> ?_);clear hK K khl;exact z_36
  ·have hi1:((i:Int)<lk.length)=False:=by simp; omega
   obtain rfl:i=lk.length:=by omega
   have HE2:Hid (S=lk.map (Led.sumAt g.L)):=ι (by rw [h2,List.take_of_length_le (Nat.le_refl _)]);have HI:=ι hI;clear h1 h2 h3 hLO hI hi;go_wp2_with fail
   exact HQ.out _ S SA SC HE2.out HI.out
end
end Go.Proofs.YtnelhjfjkkdoaaaGreatDoor