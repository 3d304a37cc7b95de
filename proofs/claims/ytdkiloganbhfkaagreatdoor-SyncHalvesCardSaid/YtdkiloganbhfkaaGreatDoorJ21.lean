import Derived.Test.YtdkiloganbhfkaaGreatDoorJ20
set_option linter.unusedSimpArgs false
set_option linter.unusedVariables false
set_option maxHeartbeats 4000000
set_option maxRecDepth 100000
namespace Go.Proofs.YtdkiloganbhfkaaGreatDoor
section
open Go.RowKit Go.Instr
attribute [local go_sem] ba_get ByteArray.mk_append_mk
attribute [local go_sem ↓] Go.wp_at_zero Go.wp_at_succ
theorem Ex.midW_eq {t:Trie.T} {x:Ex.Tx} {f tt:Nat × Nat} {K:Trie.T × Nat × Nat} (h1:Ex.acc t x.frm=some f) (h2:Ex.accTo t x=some tt) (h3:Ex.kindW t x f tt=K):Ex.midW t x=K.1:=by
 unfold Ex.midW; rw [h1,h2]; simp only; rw [h3]
theorem Ex.doL_last {t:Trie.T} {x:Ex.Tx} {W T:Trie.T} (h:Ex.doW t x=(W,0)) (h1:Ex.full1 t x=false) (h2:Ex.midW t x=T):Ex.doL t x=if Ex.noRoom T (Ex.aKey x.frm)=true then (t,2) else (W,0):=by
 rw [Ex.doL_two (by rw [h]) h1,h2,h]
theorem atI_room {t:Trie.T} (hg:Trie.Good t) {k:List UInt8} (hk:Trie.keyedW k=true):(Trie.getW t k).2≠0↔(Trie.atI k (Trie.itemsW t)).2=false:=by
 have hr:=Trie.rget_getW hg k;unfold Trie.rget at hr;rw [if_pos hk] at hr;cases ht:(Trie.atI k (Trie.itemsW t)).2 with
 |true=>rw [if_pos ht] at hr; rw [←hr]; simp
 |false=>rw [if_neg (by rw [ht]; decide)] at hr; rw [←hr]; simp
theorem items_PutL (w:World) (t:Trie.T) (hg:Trie.Good t) (hcn:Trie.count t≤1024) (A:Option Addr) (n c:Nat) (h:IAt w A n c t) (k v:List UInt8) (hp:Trie.putCode k v=0) (hk:k.length≤9223372036854775807) (hv:v.length≤9223372036854775807):
  Calls Tryz.prog 102 #[.slice A n c,k,v] w (DoIEnd w (Trie.put t (Nib.of k) v) (if Ex.noRoom t k=true then 2 else 0)):=by
 obtain ⟨hky,hvv⟩:=Ex.putCode_keyed hp;have hra:=atI_room hg hky;have hr:=h.hr;obtain ⟨rfl,hc,_⟩:=h;by_cases hn:Ex.noRoom t k=true
 ·rw [if_pos hn];unfold Ex.noRoom at hn;simp only [Bool.and_eq_true,decide_eq_true_eq] at hn;simp only [Bool.or_eq_true,decide_eq_true_eq,List.isEmpty_iff,not_or] at hvv;refine (ref10_PutF w A c (Trie.itemsW t) hr (by rw [items_len]; omega) k v hky hvv.1 (by omega) (by rw [items_len]; exact hn.1) (hra.1 hn.2)).mono ?_;rintro e w' ⟨A',n',c',rfl,hn',hc',own,hb⟩;exact ⟨A',n',c',rfl,hb,⟨fun (h:(2:Nat)=0)=>absurd h (by decide),fun _=>hn'⟩⟩
 ·rw [if_neg hn];obtain ⟨h1,h2⟩:=Trie.rput_put hg k v;rw [hp] at h1;have h2:=h2 hp;refine (ref10_PutR w A c (Trie.itemsW t) hr hc (by rw [items_len]; exact hcn) k v hk hv (fun ha=>by
   rw [items_len];unfold Ex.noRoom at hn;simp only [Bool.and_eq_true,decide_eq_true_eq,not_and] at hn;exact Nat.lt_of_not_le (fun h=>absurd (hra.2 ha) (hn h)))).mono ?_
  rintro e w' ⟨A',n',c',rfl,hn,hc',own,hb⟩;rw [h1];rw [h2] at hn own;obtain ⟨A2,c2,e2,_,_,hge⟩:=own_form own;injection e2 with e2 _ _
  subst e2;exact ⟨A',n',c',rfl,hb,fun _=>⟨⟨hn,hc',⟨_,own⟩⟩,hge⟩,fun h=>absurd rfl h⟩
theorem items_DelL (w:World) (t:Trie.T) (hg:Trie.Good t) (hcn:Trie.count t≤1024) (A:Option Addr) (n c:Nat) (h:IAt w A n c t) (k:List UInt8) (hk:k.length≤9223372036854775807):
  Calls Tryz.prog 183 #[.slice A n c,k] w (DoIEnd w (Trie.del t (Nib.of k)) (Trie.getW t k).2):=by
 have hr:=h.hr;obtain ⟨rfl,hc,_⟩:=h;obtain ⟨h1,h2⟩:=Trie.rdel_del hg k;refine (ref10_Del w A c (Trie.itemsW t) hr hc (by rw [items_len]; omega) k hk).mono ?_;rintro e w' ⟨A',n',c',rfl,hn,hc',own,hb⟩;rw [h1];refine ⟨A',n',c',rfl,hb,fun h=> ?_,fun h=> ?_⟩
 ·rw [h2 h] at hn own;obtain ⟨A2,c2,e2,_,_,hge⟩:=own_form own;injection e2 with e2 _ _
  subst e2;exact ⟨⟨hn,hc',⟨_,own⟩⟩,hge⟩
 ·rw [hn]
  have:(Trie.rdel (Trie.itemsW t) k).1= []:=by
   unfold Trie.rdel at h1 ⊢
   split
   ·rename_i e;rw [if_pos e] at h1;exact absurd h1.symm h
   ·rfl
  rw [this]; rfl
theorem z_8 {P:Prop} (h:P:=by
 generalize f2+1=f3 at *;have F:=ι (Live.start w7);have HFw:=ι F7.out.b;have d0:=(F7.out.blk 1 rfl).d0;have d1:=(F7.out.blk 1 rfl).d1;have d2:=(F7.out.blk 1 rfl).d2;have d3:=(F7.out.blk 2 rfl).d1;have FX:=F7;go_region_held3 (fun w'=>w'.cell? ⟨fb,0,none⟩=some (fr:Value)∧w'.cell? ⟨fb,1,none⟩=some (.int .i64 ((f1:Nat):Int))∧w'.cell? ⟨fb,2,none⟩=some (.int .i64 ((f3:Nat):Int))∧w'.cell? ⟨xb,1,none⟩=some (fr:Value)) (first|go_keep|(refine ⟨?_,?_,?_,?_⟩<;>assumption)) (first|(go_at_call 103; ((with_reducible refine (HVf.out _).mono ?_); (rintro e w8 ⟨rfl,hb⟩; (first|have F:=Live.hb F hb|have F:=Live.hbd F hb); (first|have FX:=Live.hb FX hb|have FX:=Live.hbd FX hb); clear hb; have d0:=(FX.out.blk 1 rfl).d0; have d1:=(FX.out.blk 1 rfl).d1; have d2:=(FX.out.blk 1 rfl).d2; have d3:w8.cell? ⟨xb,1,none⟩=some (fr:Value):=FX.out.cell 2 1 rfl rfl)))|(go_at_call 102; ((with_reducible refine (HPf.out _ ?_).mono ?_); (first|exact F.out.b|exact F.out.b.drew); (rintro e w9 ⟨A9,n9,c9,rfl,hb,hI,hN⟩; have I9:=ι hI; have N9:=ι hN; have FY:=FX; (first|have FX:=Live.hb FX hb|have FX:=Live.hbd FX hb); have FRE:Hid (cdL=0→∀ a,A9=some a→w.heap.size≤a.block):=ι (fun e0 a e=>Nat.le_trans FY.out.b.size ((I9.out e0).2 a e)); clear hb hI hN FY; have d0:=(FX.out.blk 1 rfl).d0; have d1:=(FX.out.blk 1 rfl).d1; have d2:=(FX.out.blk 1 rfl).d2; have d3:w9.cell? ⟨xb,1,none⟩=some (fr:Value):=FX.out.cell 2 1 rfl rfl))))
 all_goals go_wp2_with fail
 all_goals
  obtain ⟨t9,y1,y2⟩:=HE2.out;exact HP.out t9 cdL _ _ _ _ y1 FX.out.b (fun e=>by rw [y2 e]; exact ⟨(I9.out e).1,FRE.out e⟩) N9.out):P:=h
theorem z_9 {P:Prop} (h:P:=by
 generalize World.alloc w _=W0 at F0 ⊢;generalize w.heap.size=xb at F0 ⊢;obtain ⟨k0_0,k0_1,k0_2,k0_3,k0_4,k0_5,k0_6,k0_7⟩:=(F0.out.blk 0 rfl).c8;go_wp2_with fail
 refine (HFn.out _ F0.out.b).mono ?_;rintro e w1 ⟨rfl,hb⟩;have F1:=Live.hb F0 hb;clear hb F0 HFn k0_0 k0_1 k0_2 k0_3 k0_4 k0_5 k0_6 k0_7;obtain ⟨k0_0,k0_1,k0_2,k0_3,k0_4,k0_5,k0_6,k0_7⟩:=(F1.out.blk 0 rfl).c8;go_wp2_with fail
 refine (HAf.out _ F1.out.b).mono ?_;rintro e w2 ⟨rfl,hb⟩;have F2:=Live.hb F1 hb;clear hb F1 HAf k0_0 k0_1 k0_2 k0_3 k0_4 k0_5 k0_6 k0_7;go_upto_region 4 with fail
 have F3:=Live.ha F2 #[fr,f1,f2] 92;generalize World.alloc w2 _=w3 at F3 ⊢;generalize w2.heap.size=fb at F3 ⊢;clear F2;obtain ⟨k0_0,k0_1,k0_2⟩:=(F3.out.blk 0 rfl).c3;go_upto_region 5 with fail
 have F4:=Live.ha F3 #[fr,f1,f2] 92;generalize World.alloc w3 _=w4 at F4 ⊢;generalize w3.heap.size=tb at F4 ⊢;clear F3 k0_0 k0_1 k0_2;obtain ⟨k0_0,k0_1,k0_2⟩:=(F4.out.blk 0 rfl).c3;obtain ⟨k1_0,k1_1,k1_2⟩:=(F4.out.blk 1 rfl).c3;obtain ⟨k2_0,k2_1,k2_2,k2_3,k2_4,k2_5,k2_6,k2_7⟩:=(F4.out.blk 2 rfl).c8;go_wp2_with fail
 exact HP.out t 160 none 0 0 _ (HNo.out 160 (by rw [HE.out]) (by decide)) F4.out.b (fun h=>absurd h (by decide)) (fun _=>rfl)):P:=h
theorem z_10 {P:Prop} (h:P:=by
 generalize ((w5.setCell ⟨tb,0,none⟩ (.string ⟨dt.toArray⟩)).setCell ⟨tb,1,none⟩ (.int .i64 (t1:Int))).setCell ⟨tb,2,none⟩ (.int .i64 (t2:Int))=w6 at F6 ⊢;clear F5 fz0 fz1 fz2 y0 y1 y2;obtain ⟨k0_0,k0_1,k0_2⟩:=(F6.out.blk 0 rfl).c3;obtain ⟨k1_0,k1_1,k1_2⟩:=(F6.out.blk 1 rfl).c3;obtain ⟨k2_0,k2_1,k2_2,k2_3,k2_4,k2_5,k2_6,k2_7⟩:=(F6.out.blk 2 rfl).c8;go_wp2_with fail
 exact HP.out t 160 none 0 0 _ (HNo.out 160 (by rw [HE.out]) (by decide)) F6.out.b (fun h=>absurd h (by decide)) (fun _=>rfl)):P:=h
theorem z_11 {P:Prop} (h:P:=by
 clear F5 fz0 fz1 fz2 y0 y1 y2;obtain ⟨k0_0,k0_1,k0_2⟩:=(F6.out.blk 0 rfl).c3;obtain ⟨k1_0,k1_1,k1_2⟩:=(F6.out.blk 1 rfl).c3;obtain ⟨k2_0,k2_1,k2_2,k2_3,k2_4,k2_5,k2_6,k2_7⟩:=(F6.out.blk 2 rfl).c8;go_wp2_with fail
 exact HP.out t 3 none 0 0 _ (HNo.out 3 (by rw [HE.out]) (by decide)) F6.out.b (fun h=>absurd h (by decide)) (fun _=>rfl)):P:=h
theorem ref16_DoL (w:World) (t:Trie.T) (hg:Trie.Good t) (hcn:Trie.count t≤1024) (A:Option Addr) (n c:Nat) (HI:IAt w A n c t) (kd:Int) (fr:List UInt8) (sq:Int) (dt:List UInt8) (am:Int) (ky vl:List UInt8) (mm:List Pw.Mem) (B:Option Addr) (m:Nat)
  (hok:fr.length≤9223372036854775807∧dt.length≤9223372036854775807∧ky.length≤9223372036854775807∧vl.length≤9223372036854775807∧∀ x∈mm,x.1.length≤9223372036854775807) (HR:Reads w w.heap.size 2 B mm.length (mcells mm)):
  Calls Tryz.prog 158 #[.slice A n c,.agg #[kd,fr,sq,dt,am,ky,vl,.slice B mm.length m]] w (DoIEnd w (Ex.doL t ⟨kd,fr,sq,dt,am,ky,vl,mm⟩).1 (Ex.doL t ⟨kd,fr,sq,dt,am,ky,vl,mm⟩).2):=by
 have HP:Hid (∀ t' cd A' n' c' w',Ex.doL t ⟨kd,fr,sq,dt,am,ky,vl,mm⟩=(t',cd)→Below w.heap.size w w'→(cd=0→IAt w' A' n' c' t'∧∀ a,A'=some a→w.heap.size≤a.block)→(cd≠0→n'=0)→DoIEnd w (Ex.doL t ⟨kd,fr,sq,dt,am,ky,vl,mm⟩).1 (Ex.doL t ⟨kd,fr,sq,dt,am,ky,vl,mm⟩).2 (.returned (.tuple #[.slice A' n' c',cd])) w'):=ι (fun t' cd A' n' c' w' e h1 h2 h3=>by rw [e]; exact ⟨A',n',c',rfl,h1,h2,h3⟩);generalize DoIEnd w (Ex.doL t ⟨kd,fr,sq,dt,am,ky,vl,mm⟩).1 (Ex.doL t ⟨kd,fr,sq,dt,am,ky,vl,mm⟩).2=P at HP ⊢;have HFn:=ι (fun W (hW:Below w.heap.size w W)=>ref15_Fine W kd fr sq dt am ky vl mm B m hok ((HR.below hW).more hW.size));have HAf:Hid (∀ W,Below w.heap.size w W→Calls Tryz.prog 182 #[.slice A n c,fr] W (AccEnd W (accW t fr))):=ι (fun W hW=>by
  have h:=HI.next hW
  have:=ref16_Account W t hg A c (h.hn ▸ h.hr) (by rw [items_len]; omega) fr hok.1
  rwa [←h.hn] at this)
 have HAd:Hid (∀ W,Below w.heap.size w W→Calls Tryz.prog 182 #[.slice A n c,dt] W (AccEnd W (accW t dt))):=ι (fun W hW=>by
  have h:=HI.next hW
  have:=ref16_Account W t hg A c (h.hn ▸ h.hr) (by rw [items_len]; omega) dt hok.2.1
  rwa [←h.hn] at this)
 have HIt:=ι HI;have HGo:=ι hg;have HCn:=ι hcn;have HRd:=ι (And.intro hok.2.2.2.2 HR);unfold AccEnd at HAf HAd;obtain ⟨Y,hY⟩:∃ Y,Ex.doL t ⟨kd,fr,sq,dt,am,ky,vl,mm⟩=Y:=⟨_,rfl⟩
 obtain ⟨X,hX⟩:∃ X,Ex.doW t ⟨kd,fr,sq,dt,am,ky,vl,mm⟩=X:=⟨_,rfl⟩
 have hX2:=hX;unfold Ex.doW at hX2;rw [hY] at HP;have HNo:Hid (∀ c,X.2=c→c≠0→Y=(t,c)):=ι (fun c h hc=>by rw [←hY]; exact Ex.doL_no (by rw [hX]; exact h) hc);have HOne:Hid (X.2=0→Ex.full1 t ⟨kd,fr,sq,dt,am,ky,vl,mm⟩=true→Y=(t,2)):=ι (fun h h1=>by rw [←hY]; exact Ex.doL_one (by rw [hX]; exact h) h1);have HTwo:Hid (∀ T W,X=(W,0)→Ex.full1 t ⟨kd,fr,sq,dt,am,ky,vl,mm⟩=false→Ex.midW t ⟨kd,fr,sq,dt,am,ky,vl,mm⟩=T→Y=if Ex.noRoom T (97::58::fr)=true then (t,2) else (W,0)):=ι (fun T W h h1 h2=>by
  rw [←hY];exact Ex.doL_last (by rw [hX]; exact h) h1 h2)
 clear hY;clear hg hcn HI hok HR hX;cases hx:Ex.fineX ⟨kd,fr,sq,dt,am,ky,vl,mm⟩ with
 |false=>
  have HE:Hid (X=(t,150)):=ι (by rw [←hX2,if_pos hx]);rw [hx] at HFn;clear hX2 hx;go_enter Tryz.func158,Tryz.ntmps158
  go_upto_region 1 with fail
  have F0:=Live.ha (ι (Live.start w)) #[kd,fr,sq,dt,am,ky,vl,.slice B mm.length m] 101;generalize World.alloc w _=W0 at F0 ⊢;generalize w.heap.size=xb at F0 ⊢;obtain ⟨k0_0,k0_1,k0_2,k0_3,k0_4,k0_5,k0_6,k0_7⟩:=(F0.out.blk 0 rfl).c8;go_wp2_with fail
  refine (HFn.out _ F0.out.b).mono ?_;rintro e w1 ⟨rfl,hb⟩;have F1:=Live.hb F0 hb;clear hb F0 HFn k0_0 k0_1 k0_2 k0_3 k0_4 k0_5 k0_6 k0_7;obtain ⟨k0_0,k0_1,k0_2,k0_3,k0_4,k0_5,k0_6,k0_7⟩:=(F1.out.blk 0 rfl).c8;go_wp2_with fail
  exact HP.out t 150 none 0 0 _ (HNo.out 150 (by rw [HE.out]) (by decide)) F1.out.b (fun h=>absurd h (by decide)) (fun _=>rfl)
 |true=>
 rw [hx] at HFn;rw [if_neg (by rw [hx]; decide)] at hX2;have hsp:=Ex.fineX_spec hx;simp only at hsp hX2;cases hf:Ex.acc t fr with
 |none=>
  rw [hf] at hX2;rw [accW_none hsp.1 hf] at HAf;simp only at HAf hX2;have HE:Hid (X=(t,3)):=ι hX2.symm;obtain ⟨⟨⟨dm,da,dq⟩,dc⟩,hdr⟩:∃ r,accW t dt=r:=⟨_,rfl⟩
  rw [hdr] at HAd;simp only at HAd;clear hX2 hsp hdr hx hf;go_enter Tryz.func158,Tryz.ntmps158
  go_upto_region 1 with fail
  have F0:=Live.ha (ι (Live.start w)) #[kd,fr,sq,dt,am,ky,vl,.slice B mm.length m] 101;generalize World.alloc w _=W0 at F0 ⊢;generalize w.heap.size=xb at F0 ⊢;obtain ⟨k0_0,k0_1,k0_2,k0_3,k0_4,k0_5,k0_6,k0_7⟩:=(F0.out.blk 0 rfl).c8;go_wp2_with fail
  refine (HFn.out _ F0.out.b).mono ?_;rintro e w1 ⟨rfl,hb⟩;have F1:=Live.hb F0 hb;clear hb F0 HFn k0_0 k0_1 k0_2 k0_3 k0_4 k0_5 k0_6 k0_7;obtain ⟨k0_0,k0_1,k0_2,k0_3,k0_4,k0_5,k0_6,k0_7⟩:=(F1.out.blk 0 rfl).c8;go_wp2_with fail
  refine (HAf.out _ F1.out.b).mono ?_;rintro e w2 ⟨rfl,hb⟩;have F2:=Live.hb F1 hb;clear hb F1 HAf k0_0 k0_1 k0_2 k0_3 k0_4 k0_5 k0_6 k0_7;go_upto_region 4 with fail
  have F3:=Live.ha F2 #[ε,ζ,ζ] 92;generalize World.alloc w2 _=w3 at F3 ⊢;generalize w2.heap.size=fb at F3 ⊢;clear F2;obtain ⟨k0_0,k0_1,k0_2⟩:=(F3.out.blk 0 rfl).c3;go_upto_region 5 with fail
  have F4:=Live.ha F3 #[ε,ζ,ζ] 92;generalize World.alloc w3 _=w4 at F4 ⊢;generalize w3.heap.size=tb at F4 ⊢;clear F3 k0_0 k0_1 k0_2;obtain ⟨k0_0,k0_1,k0_2⟩:=(F4.out.blk 0 rfl).c3;obtain ⟨k1_0,k1_1,k1_2⟩:=(F4.out.blk 1 rfl).c3;obtain ⟨k2_0,k2_1,k2_2,k2_3,k2_4,k2_5,k2_6,k2_7⟩:=(F4.out.blk 2 rfl).c8;by_cases k1:kd=1
  ·subst k1;go_wp2_with fail
   refine (HAd.out _ F4.out.b).mono ?_;rintro e w5 ⟨rfl,hb⟩;have F5:=Live.hb F4 hb;clear hb F4 HAd k0_0 k0_1 k0_2 k1_0 k1_1 k1_2 k2_0 k2_1 k2_2 k2_3 k2_4 k2_5 k2_6 k2_7;have fz0:=F5.out.frozen 0 0 rfl;have fz1:=F5.out.frozen 0 1 rfl;have fz2:=F5.out.frozen 0 2 rfl;have y0:=(F5.out.blk 0 rfl).d0;have y1:=(F5.out.blk 0 rfl).d1;have y2:=(F5.out.blk 0 rfl).d2;go_upto_region 7 with fail
   have F6:Hid (Live w (((w5.setCell ⟨tb,0,none⟩ (.string ⟨dm.toArray⟩)).setCell ⟨tb,1,none⟩ (.int .i64 (da:Int))).setCell ⟨tb,2,none⟩ (.int .i64 (dq:Int))) [(tb,92,#[dm,da,dq]),(fb,92,#[ε,ζ,ζ]),(xb,101,#[.int .i64 1,fr,sq,dt,am,ky,vl,.slice B mm.length m])]):=ι (((F5.out.set 0 0 _ rfl).set 0 1 _ rfl).set 0 2 _ rfl);generalize ((w5.setCell ⟨tb,0,none⟩ (.string ⟨dm.toArray⟩)).setCell ⟨tb,1,none⟩ (.int .i64 (da:Int))).setCell ⟨tb,2,none⟩ (.int .i64 (dq:Int))=w6 at F6 ⊢;exact z_11
  ·have k1':(kd==1)=false:=by simp; exact k1
   go_wp2_with fail
   exact HP.out t 3 none 0 0 _ (HNo.out 3 (by rw [HE.out]) (by decide)) F4.out.b (fun h=>absurd h (by decide)) (fun _=>rfl)
 |some f=>
 obtain ⟨f1,f2⟩:=f;have hle:=Ex.acc_le hf;rw [hf] at hX2;rw [accW_some hsp.1 hf] at HAf;simp only at HAf hX2 hle;have HNm:=ι (Ex.nameW_len hsp.1).2;by_cases k1:kd=1
 ·subst k1;have hk1:Ex.nameW dt=true∧1≤am∧am≤1099511627776:=by
   rcases hsp.2.2.2 with ⟨_,a,b,c,_⟩|⟨k,_⟩|⟨k,_⟩|⟨k,_⟩
   ·exact ⟨a,b,c⟩
   ·omega
   ·omega
   ·omega
  obtain ⟨hnd,ha1,ha2⟩:=hk1;unfold Ex.accTo at hX2;rw [if_pos rfl] at hX2;simp only at hX2;cases htt:Ex.acc t dt with
  |none=>
   rw [htt] at hX2;rw [accW_none hnd htt] at HAd;simp only at HAd hX2;have HE:Hid (X=(t,3)):=ι hX2.symm;clear hX2 hsp hx hf htt hle hnd ha1 ha2;go_enter Tryz.func158,Tryz.ntmps158
   go_upto_region 1 with fail
   have F0:=Live.ha (ι (Live.start w)) #[.int .i64 1,fr,sq,dt,am,ky,vl,.slice B mm.length m] 101;generalize World.alloc w _=W0 at F0 ⊢;generalize w.heap.size=xb at F0 ⊢;obtain ⟨k0_0,k0_1,k0_2,k0_3,k0_4,k0_5,k0_6,k0_7⟩:=(F0.out.blk 0 rfl).c8;go_wp2_with fail
   refine (HFn.out _ F0.out.b).mono ?_;rintro e w1 ⟨rfl,hb⟩;have F1:=Live.hb F0 hb;clear hb F0 HFn k0_0 k0_1 k0_2 k0_3 k0_4 k0_5 k0_6 k0_7;obtain ⟨k0_0,k0_1,k0_2,k0_3,k0_4,k0_5,k0_6,k0_7⟩:=(F1.out.blk 0 rfl).c8;go_wp2_with fail
   refine (HAf.out _ F1.out.b).mono ?_;rintro e w2 ⟨rfl,hb⟩;have F2:=Live.hb F1 hb;clear hb F1 HAf k0_0 k0_1 k0_2 k0_3 k0_4 k0_5 k0_6 k0_7;go_upto_region 4 with fail
   have F3:=Live.ha F2 #[fr,f1,f2] 92;generalize World.alloc w2 _=w3 at F3 ⊢;generalize w2.heap.size=fb at F3 ⊢;clear F2;obtain ⟨k0_0,k0_1,k0_2⟩:=(F3.out.blk 0 rfl).c3;go_upto_region 5 with fail
   have F4:=Live.ha F3 #[fr,f1,f2] 92;generalize World.alloc w3 _=w4 at F4 ⊢;generalize w3.heap.size=tb at F4 ⊢;clear F3 k0_0 k0_1 k0_2;obtain ⟨k0_0,k0_1,k0_2⟩:=(F4.out.blk 0 rfl).c3;obtain ⟨k1_0,k1_1,k1_2⟩:=(F4.out.blk 1 rfl).c3;obtain ⟨k2_0,k2_1,k2_2,k2_3,k2_4,k2_5,k2_6,k2_7⟩:=(F4.out.blk 2 rfl).c8;go_wp2_with fail
   refine (HAd.out _ F4.out.b).mono ?_;rintro e w5 ⟨rfl,hb⟩;have F5:=Live.hb F4 hb;clear hb F4 HAd k0_0 k0_1 k0_2 k1_0 k1_1 k1_2 k2_0 k2_1 k2_2 k2_3 k2_4 k2_5 k2_6 k2_7;have fz0:=F5.out.frozen 0 0 rfl;have fz1:=F5.out.frozen 0 1 rfl;have fz2:=F5.out.frozen 0 2 rfl;have y0:=(F5.out.blk 0 rfl).d0;have y1:=(F5.out.blk 0 rfl).d1;have y2:=(F5.out.blk 0 rfl).d2;go_upto_region 7 with fail
   have F6:Hid (Live w (((w5.setCell ⟨tb,0,none⟩ (.string ⟨#[]⟩)).setCell ⟨tb,1,none⟩ (.int .i64 0)).setCell ⟨tb,2,none⟩ (.int .i64 0)) [(tb,92,#[ε,ζ,ζ]),(fb,92,#[fr,f1,f2]),(xb,101,#[.int .i64 1,fr,sq,dt,am,ky,vl,.slice B mm.length m])]):=ι (((F5.out.set 0 0 _ rfl).set 0 1 _ rfl).set 0 2 _ rfl);generalize ((w5.setCell ⟨tb,0,none⟩ (.string ⟨#[]⟩)).setCell ⟨tb,1,none⟩ (.int .i64 0)).setCell ⟨tb,2,none⟩ (.int .i64 0)=w6 at F6 ⊢;exact z_11
  |some tt=>
  obtain ⟨t1,t2⟩:=tt;have htl:=Ex.acc_le htt;rw [htt] at hX2;rw [accW_some hnd htt] at HAd;simp only at HAd hX2 htl;by_cases hs:(f2:Int)=sq;rotate_left
  ·have hs1:((f2:Int) !=sq)=true:=by simp; exact hs
   rw [if_pos (Or.inl hs)] at hX2;have HE:Hid (X=(t,160)):=ι hX2.symm;clear hX2 hsp hx hf hle hs htt htl ha1 ha2 hnd;go_enter Tryz.func158,Tryz.ntmps158
   go_upto_region 1 with fail
   have F0:=Live.ha (ι (Live.start w)) #[.int .i64 1,fr,sq,dt,am,ky,vl,.slice B mm.length m] 101;generalize World.alloc w _=W0 at F0 ⊢;generalize w.heap.size=xb at F0 ⊢;obtain ⟨k0_0,k0_1,k0_2,k0_3,k0_4,k0_5,k0_6,k0_7⟩:=(F0.out.blk 0 rfl).c8;go_wp2_with fail
   refine (HFn.out _ F0.out.b).mono ?_;rintro e w1 ⟨rfl,hb⟩;have F1:=Live.hb F0 hb;clear hb F0 HFn k0_0 k0_1 k0_2 k0_3 k0_4 k0_5 k0_6 k0_7;obtain ⟨k0_0,k0_1,k0_2,k0_3,k0_4,k0_5,k0_6,k0_7⟩:=(F1.out.blk 0 rfl).c8;go_wp2_with fail
   refine (HAf.out _ F1.out.b).mono ?_;rintro e w2 ⟨rfl,hb⟩;have F2:=Live.hb F1 hb;clear hb F1 HAf k0_0 k0_1 k0_2 k0_3 k0_4 k0_5 k0_6 k0_7;go_upto_region 4 with fail
   have F3:=Live.ha F2 #[fr,f1,f2] 92;generalize World.alloc w2 _=w3 at F3 ⊢;generalize w2.heap.size=fb at F3 ⊢;clear F2;obtain ⟨k0_0,k0_1,k0_2⟩:=(F3.out.blk 0 rfl).c3;go_upto_region 5 with fail
   have F4:=Live.ha F3 #[fr,f1,f2] 92;generalize World.alloc w3 _=w4 at F4 ⊢;generalize w3.heap.size=tb at F4 ⊢;clear F3 k0_0 k0_1 k0_2;obtain ⟨k0_0,k0_1,k0_2⟩:=(F4.out.blk 0 rfl).c3;obtain ⟨k1_0,k1_1,k1_2⟩:=(F4.out.blk 1 rfl).c3;obtain ⟨k2_0,k2_1,k2_2,k2_3,k2_4,k2_5,k2_6,k2_7⟩:=(F4.out.blk 2 rfl).c8;go_wp2_with fail
   refine (HAd.out _ F4.out.b).mono ?_;rintro e w5 ⟨rfl,hb⟩;have F5:=Live.hb F4 hb;clear hb F4 HAd k0_0 k0_1 k0_2 k1_0 k1_1 k1_2 k2_0 k2_1 k2_2 k2_3 k2_4 k2_5 k2_6 k2_7;have fz0:=F5.out.frozen 0 0 rfl;have fz1:=F5.out.frozen 0 1 rfl;have fz2:=F5.out.frozen 0 2 rfl;have y0:=(F5.out.blk 0 rfl).d0;have y1:=(F5.out.blk 0 rfl).d1;have y2:=(F5.out.blk 0 rfl).d2;go_upto_region 7 with fail
   have F6:Hid (Live w (((w5.setCell ⟨tb,0,none⟩ (.string ⟨dt.toArray⟩)).setCell ⟨tb,1,none⟩ (.int .i64 (t1:Int))).setCell ⟨tb,2,none⟩ (.int .i64 (t2:Int))) [(tb,92,#[dt,t1,t2]),(fb,92,#[fr,f1,f2]),(xb,101,#[.int .i64 1,fr,sq,dt,am,ky,vl,.slice B mm.length m])]):=ι (((F5.out.set 0 0 _ rfl).set 0 1 _ rfl).set 0 2 _ rfl);exact z_10
  subst hs;have hs1:((f2:Int) !=f2)=false:=by simp
  by_cases hm:f2=Ex.maxA
  ·have hm1:((f2:Int)==1099511627776)=true:=by rw [hm]; rfl
   rw [if_pos (Or.inr hm)] at hX2;have HE:Hid (X=(t,160)):=ι hX2.symm;clear hX2 hsp hx hf hle hm htt htl ha1 ha2 hnd;go_enter Tryz.func158,Tryz.ntmps158
   go_upto_region 1 with fail
   have F0:=Live.ha (ι (Live.start w)) #[.int .i64 1,fr,f2,dt,am,ky,vl,.slice B mm.length m] 101;generalize World.alloc w _=W0 at F0 ⊢;generalize w.heap.size=xb at F0 ⊢;obtain ⟨k0_0,k0_1,k0_2,k0_3,k0_4,k0_5,k0_6,k0_7⟩:=(F0.out.blk 0 rfl).c8;go_wp2_with fail
   refine (HFn.out _ F0.out.b).mono ?_;rintro e w1 ⟨rfl,hb⟩;have F1:=Live.hb F0 hb;clear hb F0 HFn k0_0 k0_1 k0_2 k0_3 k0_4 k0_5 k0_6 k0_7;obtain ⟨k0_0,k0_1,k0_2,k0_3,k0_4,k0_5,k0_6,k0_7⟩:=(F1.out.blk 0 rfl).c8;go_wp2_with fail
   refine (HAf.out _ F1.out.b).mono ?_;rintro e w2 ⟨rfl,hb⟩;have F2:=Live.hb F1 hb;clear hb F1 HAf k0_0 k0_1 k0_2 k0_3 k0_4 k0_5 k0_6 k0_7;go_upto_region 4 with fail
   have F3:=Live.ha F2 #[fr,f1,f2] 92;generalize World.alloc w2 _=w3 at F3 ⊢;generalize w2.heap.size=fb at F3 ⊢;clear F2;obtain ⟨k0_0,k0_1,k0_2⟩:=(F3.out.blk 0 rfl).c3;go_upto_region 5 with fail
   have F4:=Live.ha F3 #[fr,f1,f2] 92;generalize World.alloc w3 _=w4 at F4 ⊢;generalize w3.heap.size=tb at F4 ⊢;clear F3 k0_0 k0_1 k0_2;obtain ⟨k0_0,k0_1,k0_2⟩:=(F4.out.blk 0 rfl).c3;obtain ⟨k1_0,k1_1,k1_2⟩:=(F4.out.blk 1 rfl).c3;obtain ⟨k2_0,k2_1,k2_2,k2_3,k2_4,k2_5,k2_6,k2_7⟩:=(F4.out.blk 2 rfl).c8;go_wp2_with fail
   refine (HAd.out _ F4.out.b).mono ?_;rintro e w5 ⟨rfl,hb⟩;have F5:=Live.hb F4 hb;clear hb F4 HAd k0_0 k0_1 k0_2 k1_0 k1_1 k1_2 k2_0 k2_1 k2_2 k2_3 k2_4 k2_5 k2_6 k2_7;have fz0:=F5.out.frozen 0 0 rfl;have fz1:=F5.out.frozen 0 1 rfl;have fz2:=F5.out.frozen 0 2 rfl;have y0:=(F5.out.blk 0 rfl).d0;have y1:=(F5.out.blk 0 rfl).d1;have y2:=(F5.out.blk 0 rfl).d2;go_upto_region 7 with fail
   have F6:Hid (Live w (((w5.setCell ⟨tb,0,none⟩ (.string ⟨dt.toArray⟩)).setCell ⟨tb,1,none⟩ (.int .i64 (t1:Int))).setCell ⟨tb,2,none⟩ (.int .i64 (t2:Int))) [(tb,92,#[dt,t1,t2]),(fb,92,#[fr,f1,f2]),(xb,101,#[.int .i64 1,fr,f2,dt,am,ky,vl,.slice B mm.length m])]):=ι (((F5.out.set 0 0 _ rfl).set 0 1 _ rfl).set 0 2 _ rfl);exact z_10
  have hm1:((f2:Int)==1099511627776)=false:=by rw [beq_eq_false_iff_ne]; unfold Ex.maxA at hm; omega
  rw [if_neg (by rintro (h|h); exact h rfl; exact hm h)] at hX2;have HF1:=ι hle.1;have HF2:=ι hle.2;have hwq:IntKind.i64.wrap ((f2:Int)+1)=(f2:Int)+1:=IntWalk.i64_in _ (by unfold Ex.maxA at hle; omega);have hgd:=Ex.kindW_good HGo.out hx (f:=(f1,f2)) (tt:=(t1,t2)) hle.1 htl;obtain ⟨amn,rfl⟩:=Int.eq_ofNat_of_zero_le (show 0≤am by omega);have hkw:=Ex.kindW_1 (t:=t) (x:=⟨1,fr,f2,dt,(amn:Int),ky,vl,mm⟩) (f:=(f1,f2)) (tt:=(t1,t2)) rfl;simp only [Int.toNat_natCast] at hkw;by_cases g1:(f1:Int)<(amn:Int)
  ·rw [if_pos g1] at hkw;have HE:Hid (X=(t,161)):=ι (by rw [←hX2,hkw]; rfl);clear hkw hX2 hgd hsp hx hf hle hm htt htl ha1 ha2 hnd;go_enter Tryz.func158,Tryz.ntmps158
   go_upto_region 1 with fail
   have F0:=Live.ha (ι (Live.start w)) #[.int .i64 1,fr,f2,dt,amn,ky,vl,.slice B mm.length m] 101;generalize World.alloc w _=W0 at F0 ⊢;generalize w.heap.size=xb at F0 ⊢;obtain ⟨k0_0,k0_1,k0_2,k0_3,k0_4,k0_5,k0_6,k0_7⟩:=(F0.out.blk 0 rfl).c8;go_wp2_with fail
   refine (HFn.out _ F0.out.b).mono ?_;rintro e w1 ⟨rfl,hb⟩;have F1:=Live.hb F0 hb;clear hb F0 HFn k0_0 k0_1 k0_2 k0_3 k0_4 k0_5 k0_6 k0_7;obtain ⟨k0_0,k0_1,k0_2,k0_3,k0_4,k0_5,k0_6,k0_7⟩:=(F1.out.blk 0 rfl).c8;go_wp2_with fail
   refine (HAf.out _ F1.out.b).mono ?_;rintro e w2 ⟨rfl,hb⟩;have F2:=Live.hb F1 hb;clear hb F1 HAf k0_0 k0_1 k0_2 k0_3 k0_4 k0_5 k0_6 k0_7;go_upto_region 4 with fail
   have F3:=Live.ha F2 #[fr,f1,f2] 92;generalize World.alloc w2 _=w3 at F3 ⊢;generalize w2.heap.size=fb at F3 ⊢;clear F2;obtain ⟨k0_0,k0_1,k0_2⟩:=(F3.out.blk 0 rfl).c3;go_upto_region 5 with fail
   have F4:=Live.ha F3 #[fr,f1,f2] 92;generalize World.alloc w3 _=w4 at F4 ⊢;generalize w3.heap.size=tb at F4 ⊢;clear F3 k0_0 k0_1 k0_2;obtain ⟨k0_0,k0_1,k0_2⟩:=(F4.out.blk 0 rfl).c3;obtain ⟨k1_0,k1_1,k1_2⟩:=(F4.out.blk 1 rfl).c3;obtain ⟨k2_0,k2_1,k2_2,k2_3,k2_4,k2_5,k2_6,k2_7⟩:=(F4.out.blk 2 rfl).c8;go_wp2_with fail
   refine (HAd.out _ F4.out.b).mono ?_;rintro e w5 ⟨rfl,hb⟩;have F5:=Live.hb F4 hb;clear hb F4 HAd k0_0 k0_1 k0_2 k1_0 k1_1 k1_2 k2_0 k2_1 k2_2 k2_3 k2_4 k2_5 k2_6 k2_7;have fz0:=F5.out.frozen 0 0 rfl;have fz1:=F5.out.frozen 0 1 rfl;have fz2:=F5.out.frozen 0 2 rfl;have y0:=(F5.out.blk 0 rfl).d0;have y1:=(F5.out.blk 0 rfl).d1;have y2:=(F5.out.blk 0 rfl).d2;go_upto_region 7 with fail
   have F6:Hid (Live w (((w5.setCell ⟨tb,0,none⟩ (.string ⟨dt.toArray⟩)).setCell ⟨tb,1,none⟩ (.int .i64 (t1:Int))).setCell ⟨tb,2,none⟩ (.int .i64 (t2:Int))) [(tb,92,#[dt,t1,t2]),(fb,92,#[fr,f1,f2]),(xb,101,#[.int .i64 1,fr,f2,dt,amn,ky,vl,.slice B mm.length m])]):=ι (((F5.out.set 0 0 _ rfl).set 0 1 _ rfl).set 0 2 _ rfl);generalize ((w5.setCell ⟨tb,0,none⟩ (.string ⟨dt.toArray⟩)).setCell ⟨tb,1,none⟩ (.int .i64 (t1:Int))).setCell ⟨tb,2,none⟩ (.int .i64 (t2:Int))=w6 at F6 ⊢;clear F5 fz0 fz1 fz2 y0 y1 y2;obtain ⟨k0_0,k0_1,k0_2⟩:=(F6.out.blk 0 rfl).c3;obtain ⟨k1_0,k1_1,k1_2⟩:=(F6.out.blk 1 rfl).c3;obtain ⟨k2_0,k2_1,k2_2,k2_3,k2_4,k2_5,k2_6,k2_7⟩:=(F6.out.blk 2 rfl).c8;go_wp2_with fail
   exact HP.out t 161 none 0 0 _ (HNo.out 161 (by rw [HE.out]) (by decide)) F6.out.b (fun h=>absurd h (by decide)) (fun _=>rfl)
  rw [if_neg g1] at hkw;by_cases g2:dt=fr
  ·rw [if_pos g2] at hkw;have HE:Hid (X=(Trie.put t (Nib.of (Ex.aKey fr)) (Ex.writA (f1,f2+1)),0)):=ι (by rw [←hX2,hkw]; exact if_pos rfl);have HGd:Hid (Trie.Good t∧Trie.count t≤1024∧f1≤Ex.maxA):=ι ⟨HGo.out,HCn.out,HF1.out⟩;have HFu:Hid (Ex.full1 t ⟨1,fr,f2,dt,(amn:Int),ky,vl,mm⟩=false):=ι (by simp [Ex.full1,Ex.keyX,g2]);have HMi:Hid (Ex.midW t ⟨1,fr,f2,dt,(amn:Int),ky,vl,mm⟩=t):=ι (Ex.midW_eq (x:=⟨1,fr,f2,dt,(amn:Int),ky,vl,mm⟩) hf (show Ex.accTo t ⟨1,fr,f2,dt,(amn:Int),ky,vl,mm⟩=some (t1,t2) by unfold Ex.accTo; rw [if_pos rfl]; exact htt) hkw);subst dt;have g2b:(fr==fr)=true:=by simp
   have g1':((f1:Int)<(amn:Int))=False:=by simp; omega
   clear hkw hX2 hgd hsp hx hf hle hm htt htl ha1 ha2 hnd g1;go_enter Tryz.func158,Tryz.ntmps158
   go_upto_region 1 with fail
   have F0:=Live.ha (ι (Live.start w)) #[.int .i64 1,fr,f2,fr,amn,ky,vl,.slice B mm.length m] 101;generalize World.alloc w _=W0 at F0 ⊢;generalize w.heap.size=xb at F0 ⊢;obtain ⟨k0_0,k0_1,k0_2,k0_3,k0_4,k0_5,k0_6,k0_7⟩:=(F0.out.blk 0 rfl).c8;go_wp2_with fail
   refine (HFn.out _ F0.out.b).mono ?_;rintro e w1 ⟨rfl,hb⟩;have F1:=Live.hb F0 hb;clear hb F0 HFn k0_0 k0_1 k0_2 k0_3 k0_4 k0_5 k0_6 k0_7;obtain ⟨k0_0,k0_1,k0_2,k0_3,k0_4,k0_5,k0_6,k0_7⟩:=(F1.out.blk 0 rfl).c8;go_wp2_with fail
   refine (HAf.out _ F1.out.b).mono ?_;rintro e w2 ⟨rfl,hb⟩;have F2:=Live.hb F1 hb;clear hb F1 HAf k0_0 k0_1 k0_2 k0_3 k0_4 k0_5 k0_6 k0_7;go_upto_region 4 with fail
   have F3:=Live.ha F2 #[fr,f1,f2] 92;generalize World.alloc w2 _=w3 at F3 ⊢;generalize w2.heap.size=fb at F3 ⊢;clear F2;obtain ⟨k0_0,k0_1,k0_2⟩:=(F3.out.blk 0 rfl).c3;go_upto_region 5 with fail
   have F4:=Live.ha F3 #[fr,f1,f2] 92;generalize World.alloc w3 _=w4 at F4 ⊢;generalize w3.heap.size=tb at F4 ⊢;clear F3 k0_0 k0_1 k0_2;obtain ⟨k0_0,k0_1,k0_2⟩:=(F4.out.blk 0 rfl).c3;obtain ⟨k1_0,k1_1,k1_2⟩:=(F4.out.blk 1 rfl).c3;obtain ⟨k2_0,k2_1,k2_2,k2_3,k2_4,k2_5,k2_6,k2_7⟩:=(F4.out.blk 2 rfl).c8;go_wp2_with fail
   refine (HAd.out _ F4.out.b).mono ?_;rintro e w5 ⟨rfl,hb⟩;have F5:=Live.hb F4 hb;clear hb F4 HAd k0_0 k0_1 k0_2 k1_0 k1_1 k1_2 k2_0 k2_1 k2_2 k2_3 k2_4 k2_5 k2_6 k2_7;have fz0:=F5.out.frozen 0 0 rfl;have fz1:=F5.out.frozen 0 1 rfl;have fz2:=F5.out.frozen 0 2 rfl;have y0:=(F5.out.blk 0 rfl).d0;have y1:=(F5.out.blk 0 rfl).d1;have y2:=(F5.out.blk 0 rfl).d2;go_upto_region 7 with fail
   have F6:Hid (Live w (((w5.setCell ⟨tb,0,none⟩ (.string ⟨fr.toArray⟩)).setCell ⟨tb,1,none⟩ (.int .i64 (t1:Int))).setCell ⟨tb,2,none⟩ (.int .i64 (t2:Int))) [(tb,92,#[fr,t1,t2]),(fb,92,#[fr,f1,f2]),(xb,101,#[.int .i64 1,fr,f2,fr,amn,ky,vl,.slice B mm.length m])]):=ι (((F5.out.set 0 0 _ rfl).set 0 1 _ rfl).set 0 2 _ rfl);generalize ((w5.setCell ⟨tb,0,none⟩ (.string ⟨fr.toArray⟩)).setCell ⟨tb,1,none⟩ (.int .i64 (t1:Int))).setCell ⟨tb,2,none⟩ (.int .i64 (t2:Int))=w6 at F6 ⊢;clear F5 fz0 fz1 fz2 y0 y1 y2;obtain ⟨k0_0,k0_1,k0_2⟩:=(F6.out.blk 0 rfl).c3;obtain ⟨k1_0,k1_1,k1_2⟩:=(F6.out.blk 1 rfl).c3;obtain ⟨k2_0,k2_1,k2_2,k2_3,k2_4,k2_5,k2_6,k2_7⟩:=(F6.out.blk 2 rfl).c8;clear k0_0 k0_1 k0_2 k1_0 k1_1 k1_2 k2_0 k2_1 k2_2 k2_3 k2_4 k2_5 k2_6 k2_7;have k1_1:=(F6.out.blk 1 rfl).d1;have k1_2:=(F6.out.blk 1 rfl).d2;have k2_0:=(F6.out.blk 2 rfl).d0;have k2_1:=(F6.out.blk 2 rfl).d1;have k2_2:=(F6.out.blk 2 rfl).d2;have k2_3:=(F6.out.blk 2 rfl).d3;have k2_4:=(F6.out.blk 2 rfl).d4;have HVf:Hid (∀ W,Calls Tryz.prog 103 #[.agg #[fr,f1,.int .i64 ((f2+1:Nat):Int)]] W (Ret W (.string ⟨(Ex.writA (f1,f2+1)).toArray⟩))):=ι (fun W=>ref16_Value W fr f1 (f2+1) (by have:=HGd.out.2.2; unfold Ex.maxA at this; omega) (by have:=HF2.out; unfold Ex.maxA at this; omega));have z02:=(F6.out.blk 1 rfl).d2;have fz2:=F6.out.frozen 1 2 rfl;go_upto_region 33 with fail
   have F7:=Live.hs F6 1 2 (.int .i64 ((f2:Int)+1)) rfl;simp only [List.set_cons_zero,List.setIfInBounds_toArray,List.set_cons_succ] at F7;have I7:=ι (HIt.out.next F7.out.b);generalize w6.setCell ⟨fb,2,none⟩ _=w7 at F7 I7 ⊢;rw [show (f2:Int)+1=((f2+1:Nat):Int) by omega] at F7;clear z02 fz2 F6;have HPf:Hid (∀ W,Below w7.heap.size w7 W→Calls Tryz.prog 102 #[.slice A n c,.string ⟨(97::58::fr).toArray⟩,.string ⟨(Ex.writA (f1,f2+1)).toArray⟩] W (DoIEnd W (Trie.put t (Nib.of (97::58::fr)) (Ex.writA (f1,f2+1))) (if Ex.noRoom t (97::58::fr)=true then 2 else 0))):=ι (fun W hW=>items_PutL W t HGd.out.1 HGd.out.2.1 A n c (I7.out.next hW) _ _ (Ex.putCode_a HNm.out (by have:=HGd.out.2.2; unfold Ex.maxA at this; simp only; omega) (by have:=HF2.out; unfold Ex.maxA at this; simp only; omega)) (by have:=HNm.out; simp only [List.length_cons]; omega) (by have:=(Ex.writA_len (p:=(f1,f2+1)) (by have:=HGd.out.2.2; unfold Ex.maxA at this; simp only; omega) (by have:=HF2.out; unfold Ex.maxA at this; simp only; omega)).2; omega));have HE2:Hid (∃ t',Y=(t',if Ex.noRoom t (97::58::fr)=true then 2 else 0)∧((if Ex.noRoom t (97::58::fr)=true then 2 else 0)=0→t'=Trie.put t (Nib.of (97::58::fr)) (Ex.writA (f1,f2+1)))):=ι (by
    have h:=HTwo.out t _ HE.out HFu.out HMi.out;by_cases hr:Ex.noRoom t (97::58::fr)=true
    ·rw [if_pos hr]; exact ⟨t,by rw [h]; exact if_pos hr,fun e=>by cases e⟩
    ·rw [if_neg hr]; exact ⟨_,by rw [h]; exact if_neg hr,fun _=>rfl⟩)
   generalize (if Ex.noRoom t (97::58::fr)=true then 2 else 0)=cdL at HPf HE2;have hsumf:2+fr.length≤9223372036854775807:=by have:=HNm.out; omega
   have hsumf2:fr.length+2≤9223372036854775807:=by omega
   have hsumf3:fr.length+1+1≤9223372036854775807:=by omega
   have hnf1:(9223372036854775807<2+fr.length)=False:=by simp; omega
   have hnf2:(9223372036854775807<fr.length+2)=False:=by simp; omega
   have hnf3:(9223372036854775807<fr.length+1+1)=False:=by simp; omega
   clear HE HGd HF2 HF1 HNm HCn HGo HIt HRd I7 HTwo HOne HNo HFu HMi;generalize Ex.writA (f1,f2+1)=wr at *;generalize Trie.put t (Nib.of (97::58::fr)) wr=tr at *;exact z_8
  rw [if_neg g2] at hkw;have g2b:(dt==fr)=false:=by rw [beq_eq_false_iff_ne]; exact g2
  have g1':((f1:Int)<(amn:Int))=False:=by simp; omega
  have hwa:IntKind.i64.wrap ((t1:Int)+(amn:Int))=(t1:Int)+(amn:Int):=IntWalk.i64_in _ (by unfold Ex.maxA at htl; omega);by_cases g3:(1099511627776:Int) - (amn:Int)<t1
  ·rw [if_pos g3] at hkw;have HE:Hid (X=(t,1)):=ι (by rw [←hX2,hkw]; rfl);have g3':(1099511627776:Int)<(t1:Int)+(amn:Int):=by omega
   clear hkw hX2 hgd hsp hx hf hle hm htt htl ha1 ha2 hnd g1 g2 g3;go_enter Tryz.func158,Tryz.ntmps158
   go_upto_region 1 with fail
   have F0:=Live.ha (ι (Live.start w)) #[.int .i64 1,fr,f2,dt,amn,ky,vl,.slice B mm.length m] 101;generalize World.alloc w _=W0 at F0 ⊢;generalize w.heap.size=xb at F0 ⊢;obtain ⟨k0_0,k0_1,k0_2,k0_3,k0_4,k0_5,k0_6,k0_7⟩:=(F0.out.blk 0 rfl).c8;go_wp2_with fail
   refine (HFn.out _ F0.out.b).mono ?_;rintro e w1 ⟨rfl,hb⟩;have F1:=Live.hb F0 hb;clear hb F0 HFn k0_0 k0_1 k0_2 k0_3 k0_4 k0_5 k0_6 k0_7;obtain ⟨k0_0,k0_1,k0_2,k0_3,k0_4,k0_5,k0_6,k0_7⟩:=(F1.out.blk 0 rfl).c8;go_wp2_with fail
   refine (HAf.out _ F1.out.b).mono ?_;rintro e w2 ⟨rfl,hb⟩;have F2:=Live.hb F1 hb;clear hb F1 HAf k0_0 k0_1 k0_2 k0_3 k0_4 k0_5 k0_6 k0_7;go_upto_region 4 with fail
   have F3:=Live.ha F2 #[fr,f1,f2] 92;generalize World.alloc w2 _=w3 at F3 ⊢;generalize w2.heap.size=fb at F3 ⊢;clear F2;obtain ⟨k0_0,k0_1,k0_2⟩:=(F3.out.blk 0 rfl).c3;go_upto_region 5 with fail
   have F4:=Live.ha F3 #[fr,f1,f2] 92;generalize World.alloc w3 _=w4 at F4 ⊢;generalize w3.heap.size=tb at F4 ⊢;clear F3 k0_0 k0_1 k0_2;obtain ⟨k0_0,k0_1,k0_2⟩:=(F4.out.blk 0 rfl).c3;obtain ⟨k1_0,k1_1,k1_2⟩:=(F4.out.blk 1 rfl).c3;obtain ⟨k2_0,k2_1,k2_2,k2_3,k2_4,k2_5,k2_6,k2_7⟩:=(F4.out.blk 2 rfl).c8;go_wp2_with fail
   refine (HAd.out _ F4.out.b).mono ?_;rintro e w5 ⟨rfl,hb⟩;have F5:=Live.hb F4 hb;clear hb F4 HAd k0_0 k0_1 k0_2 k1_0 k1_1 k1_2 k2_0 k2_1 k2_2 k2_3 k2_4 k2_5 k2_6 k2_7;have fz0:=F5.out.frozen 0 0 rfl;have fz1:=F5.out.frozen 0 1 rfl;have fz2:=F5.out.frozen 0 2 rfl;have y0:=(F5.out.blk 0 rfl).d0;have y1:=(F5.out.blk 0 rfl).d1;have y2:=(F5.out.blk 0 rfl).d2;go_upto_region 7 with fail
   have F6:Hid (Live w (((w5.setCell ⟨tb,0,none⟩ (.string ⟨dt.toArray⟩)).setCell ⟨tb,1,none⟩ (.int .i64 (t1:Int))).setCell ⟨tb,2,none⟩ (.int .i64 (t2:Int))) [(tb,92,#[dt,t1,t2]),(fb,92,#[fr,f1,f2]),(xb,101,#[.int .i64 1,fr,f2,dt,amn,ky,vl,.slice B mm.length m])]):=ι (((F5.out.set 0 0 _ rfl).set 0 1 _ rfl).set 0 2 _ rfl);generalize ((w5.setCell ⟨tb,0,none⟩ (.string ⟨dt.toArray⟩)).setCell ⟨tb,1,none⟩ (.int .i64 (t1:Int))).setCell ⟨tb,2,none⟩ (.int .i64 (t2:Int))=w6 at F6 ⊢;clear F5 fz0 fz1 fz2 y0 y1 y2;obtain ⟨k0_0,k0_1,k0_2⟩:=(F6.out.blk 0 rfl).c3;obtain ⟨k1_0,k1_1,k1_2⟩:=(F6.out.blk 1 rfl).c3;obtain ⟨k2_0,k2_1,k2_2,k2_3,k2_4,k2_5,k2_6,k2_7⟩:=(F6.out.blk 2 rfl).c8;go_wp2_with fail
   exact HP.out t 1 none 0 0 _ (HNo.out 1 (by rw [HE.out]) (by decide)) F6.out.b (fun h=>absurd h (by decide)) (fun _=>rfl)
  rw [if_neg g3] at hkw;have g3':((1099511627776:Int)<(t1:Int)+(amn:Int))=False:=by simp; omega
  have hws:IntKind.i64.wrap ((f1:Int) - (amn:Int))=(f1:Int) - (amn:Int):=IntWalk.i64_in _ (by unfold Ex.maxA at hle; omega);have hmi0:=Ex.midW_eq (x:=⟨1,fr,f2,dt,(amn:Int),ky,vl,mm⟩) hf (show Ex.accTo t ⟨1,fr,f2,dt,(amn:Int),ky,vl,mm⟩=some (t1,t2) by unfold Ex.accTo; rw [if_pos rfl]; exact htt) hkw;have hfu0:Ex.full1 t ⟨1,fr,f2,dt,(amn:Int),ky,vl,mm⟩=Ex.noRoom t (97::58::dt):=by simp [Ex.full1,Ex.keyX,g2,Ex.aKey]
  have hmr:Ex.full1 t ⟨1,fr,f2,dt,(amn:Int),ky,vl,mm⟩=false→_:=Ex.mid_room HGo.out HCn.out hx (f:=(f1,f2)) (tt:=(t1,t2)) hle.1 htl;rw [hkw] at hmr;rw [hkw] at hX2 hgd;obtain ⟨ta,hta⟩:∃ ta,t1+amn=ta:=⟨_,rfl⟩
  obtain ⟨fa,hfa⟩:∃ fa,f1 - amn=fa:=⟨_,rfl⟩
  rw [hta,hfa] at hX2 hgd;simp only [Int.toNat_natCast] at hmr hmi0;rw [hta] at hmr hmi0;have HTa:Hid (((t1:Int)+(amn:Int))=(ta:Int)∧((f1:Int) - (amn:Int))=(fa:Int)):=ι ⟨by omega,by omega⟩;have HE:Hid (X=(Trie.put (Trie.put t (Nib.of (97::58::dt)) (Ex.writA (ta,t2))) (Nib.of (Ex.aKey fr)) (Ex.writA (fa,f2+1)),0)):=ι (by rw [←hX2]; exact if_pos rfl);have HP1:Hid (Ex.noRoom t (97::58::dt)=false→(Trie.Good (Trie.put t (Nib.of (97::58::dt)) (Ex.writA (ta,t2)))∧Trie.count (Trie.put t (Nib.of (97::58::dt)) (Ex.writA (ta,t2)))≤1024∧fa≤Ex.maxA)∧Ex.full1 t ⟨1,fr,f2,dt,(amn:Int),ky,vl,mm⟩=false∧Ex.midW t ⟨1,fr,f2,dt,(amn:Int),ky,vl,mm⟩=Trie.put t (Nib.of (97::58::dt)) (Ex.writA (ta,t2))):=ι (fun e=>⟨⟨hgd.1,hmr (hfu0.trans e),hgd.2.2⟩,hfu0.trans e,hmi0⟩);have HFl:Hid (Ex.noRoom t (97::58::dt)=true→Y=(t,2)):=ι (fun e=>HOne.out (by rw [HE.out]) (hfu0.trans e));clear hmr hmi0 hfu0;have hdl:=(Ex.nameW_len hnd).2;have hta2:ta≤2000000000000∧t2≤2000000000000:=by unfold Ex.maxA at htl; omega
  have HVt:Hid (∀ W,Calls Tryz.prog 103 #[.agg #[dt,ta,t2]] W (Ret W (.string ⟨(Ex.writA (ta,t2)).toArray⟩))):=ι (fun W=>ref16_Value W dt ta t2 (by omega) (by omega));have HPt:Hid (∀ W,Below w.heap.size w W→Calls Tryz.prog 102 #[.slice A n c,.string ⟨(97::58::dt).toArray⟩,.string ⟨(Ex.writA (ta,t2)).toArray⟩] W (DoIEnd W (Trie.put t (Nib.of (97::58::dt)) (Ex.writA (ta,t2))) (if Ex.noRoom t (97::58::dt)=true then 2 else 0))):=ι (fun W hW=>items_PutL W t HGo.out HCn.out A n c (HIt.out.next hW) _ _ (Ex.putCode_a hdl hta2.1 hta2.2) (by simp only [List.length_cons]; omega) (by have:=(Ex.writA_len (p:=(ta,t2)) hta2.1 hta2.2).2; omega));have hsum:2+dt.length≤9223372036854775807:=by omega
  have hsum2:dt.length+2≤9223372036854775807:=by omega
  have hsum3:dt.length+1+1≤9223372036854775807:=by omega
  have hnd1:(9223372036854775807<2+dt.length)=False:=by simp; omega
  have hnd2:(9223372036854775807<dt.length+2)=False:=by simp; omega
  have hnd3:(9223372036854775807<dt.length+1+1)=False:=by simp; omega
  obtain ⟨cdP,hcp⟩:∃ c,(if Ex.noRoom t (97::58::dt)=true then 2 else 0)=c:=⟨_,rfl⟩
  have HCp:Hid ((cdP=0→Ex.noRoom t (97::58::dt)=false)∧(cdP≠0→Ex.noRoom t (97::58::dt)=true∧cdP=2)):=ι (by
   rw [←hcp];cases Ex.noRoom t (97::58::dt) with
   |true=>exact ⟨fun (e:(2:Nat)=0)=>absurd e (by decide),fun _=>⟨rfl,rfl⟩⟩
   |false=>exact ⟨fun _=>rfl,fun e=>absurd rfl e⟩)
  rw [hcp] at HPt;clear hcp;generalize Ex.writA (ta,t2)=wt at *;generalize Trie.put t (Nib.of (97::58::dt)) wt=tp at *;clear hkw hX2 hgd hsp hx hf hle hm htt htl ha1 ha2 hnd g1 g2 g3 hdl hta2 hta hfa;go_enter Tryz.func158,Tryz.ntmps158
  go_upto_region 1 with fail
  have F0:=Live.ha (ι (Live.start w)) #[.int .i64 1,fr,f2,dt,amn,ky,vl,.slice B mm.length m] 101;generalize World.alloc w _=W0 at F0 ⊢;generalize w.heap.size=xb at F0 ⊢;obtain ⟨k0_0,k0_1,k0_2,k0_3,k0_4,k0_5,k0_6,k0_7⟩:=(F0.out.blk 0 rfl).c8;go_wp2_with fail
  refine (HFn.out _ F0.out.b).mono ?_;rintro e w1 ⟨rfl,hb⟩;have F1:=Live.hb F0 hb;clear hb F0 HFn k0_0 k0_1 k0_2 k0_3 k0_4 k0_5 k0_6 k0_7;obtain ⟨k0_0,k0_1,k0_2,k0_3,k0_4,k0_5,k0_6,k0_7⟩:=(F1.out.blk 0 rfl).c8;go_wp2_with fail
  refine (HAf.out _ F1.out.b).mono ?_;rintro e w2 ⟨rfl,hb⟩;have F2:=Live.hb F1 hb;clear hb F1 HAf k0_0 k0_1 k0_2 k0_3 k0_4 k0_5 k0_6 k0_7;go_upto_region 4 with fail
  have F3:=Live.ha F2 #[fr,f1,f2] 92;generalize World.alloc w2 _=w3 at F3 ⊢;generalize w2.heap.size=fb at F3 ⊢;clear F2;obtain ⟨k0_0,k0_1,k0_2⟩:=(F3.out.blk 0 rfl).c3;go_upto_region 5 with fail
  have F4:=Live.ha F3 #[fr,f1,f2] 92;generalize World.alloc w3 _=w4 at F4 ⊢;generalize w3.heap.size=tb at F4 ⊢;clear F3 k0_0 k0_1 k0_2;obtain ⟨k0_0,k0_1,k0_2⟩:=(F4.out.blk 0 rfl).c3;obtain ⟨k1_0,k1_1,k1_2⟩:=(F4.out.blk 1 rfl).c3;obtain ⟨k2_0,k2_1,k2_2,k2_3,k2_4,k2_5,k2_6,k2_7⟩:=(F4.out.blk 2 rfl).c8;go_wp2_with fail
  refine (HAd.out _ F4.out.b).mono ?_;rintro e w5 ⟨rfl,hb⟩;have F5:=Live.hb F4 hb;clear hb F4 HAd k0_0 k0_1 k0_2 k1_0 k1_1 k1_2 k2_0 k2_1 k2_2 k2_3 k2_4 k2_5 k2_6 k2_7;have fz0:=F5.out.frozen 0 0 rfl;have fz1:=F5.out.frozen 0 1 rfl;have fz2:=F5.out.frozen 0 2 rfl;have y0:=(F5.out.blk 0 rfl).d0;have y1:=(F5.out.blk 0 rfl).d1;have y2:=(F5.out.blk 0 rfl).d2;go_upto_region 7 with fail
  have F6:Hid (Live w (((w5.setCell ⟨tb,0,none⟩ (.string ⟨dt.toArray⟩)).setCell ⟨tb,1,none⟩ (.int .i64 (t1:Int))).setCell ⟨tb,2,none⟩ (.int .i64 (t2:Int))) [(tb,92,#[dt,t1,t2]),(fb,92,#[fr,f1,f2]),(xb,101,#[.int .i64 1,fr,f2,dt,amn,ky,vl,.slice B mm.length m])]):=ι (((F5.out.set 0 0 _ rfl).set 0 1 _ rfl).set 0 2 _ rfl);generalize ((w5.setCell ⟨tb,0,none⟩ (.string ⟨dt.toArray⟩)).setCell ⟨tb,1,none⟩ (.int .i64 (t1:Int))).setCell ⟨tb,2,none⟩ (.int .i64 (t2:Int))=w6 at F6 ⊢;clear F5 fz0 fz1 fz2 y0 y1 y2;obtain ⟨k0_0,k0_1,k0_2⟩:=(F6.out.blk 0 rfl).c3;obtain ⟨k1_0,k1_1,k1_2⟩:=(F6.out.blk 1 rfl).c3;obtain ⟨k2_0,k2_1,k2_2,k2_3,k2_4,k2_5,k2_6,k2_7⟩:=(F6.out.blk 2 rfl).c8;have fz1:=F6.out.frozen 0 1 rfl;go_upto_region 24 with fail
  have F7:=Live.hs F6 0 1 (.int .i64 ((t1:Int)+(amn:Int))) rfl;simp only [List.set_cons_zero,List.setIfInBounds_toArray,List.set_cons_succ] at F7;generalize w6.setCell ⟨tb,1,none⟩ _=w7 at F7 ⊢;clear F6 fz1 k0_0 k0_1 k0_2 k1_0 k1_1 k1_2 k2_0 k2_1 k2_2 k2_3 k2_4 k2_5 k2_6 k2_7;have k1_1:=(F7.out.blk 1 rfl).d1;have k2_4:=(F7.out.blk 2 rfl).d4;have fz1:=F7.out.frozen 1 1 rfl;go_upto_region 25 with fail
  have F8:=Live.hs F7 1 1 (.int .i64 ((f1:Int) - (amn:Int))) rfl;simp only [List.set_cons_zero,List.setIfInBounds_toArray,List.set_cons_succ] at F8;generalize w7.setCell ⟨fb,1,none⟩ _=w8 at F8 ⊢;clear F7 fz1 k1_1 k2_4;rw [HTa.out.1,HTa.out.2] at F8;clear HTa hwa hws g3';have FX:=F8;have d0:=(FX.out.blk 0 rfl).d0; have d1:=(FX.out.blk 0 rfl).d1; have d2:=(FX.out.blk 0 rfl).d2; have d3:=(FX.out.blk 2 rfl).d3
  go_region_held3 (fun w'=>w'.cell? ⟨tb,0,none⟩=some (dt:Value)∧w'.cell? ⟨tb,1,none⟩=some (.int .i64 (ta:Int))∧w'.cell? ⟨tb,2,none⟩=some (.int .i64 (t2:Int))∧w'.cell? ⟨xb,3,none⟩=some (dt:Value)) (first|go_keep|(refine ⟨?_,?_,?_,?_⟩<;>assumption)) (first|(go_at_call 103; ((with_reducible refine (HVt.out _).mono ?_); (rintro e w9 ⟨rfl,hb⟩; (first|have FX:=Live.hb FX hb|have FX:=Live.hbd FX hb); clear hb; have d0:=(FX.out.blk 0 rfl).d0; have d1:=(FX.out.blk 0 rfl).d1; have d2:=(FX.out.blk 0 rfl).d2; have d3:w9.cell? ⟨xb,3,none⟩=some (dt:Value):=FX.out.cell 2 3 rfl rfl)))|(go_at_call 102; ((with_reducible refine (HPt.out _ ?_).mono ?_); (first|exact FX.out.b|exact FX.out.b.drew); (rintro e w9 ⟨A9,n9,c9,rfl,hb,hI,_⟩; have I9:=ι hI; have FRE:Hid (cdP=0→∀ a,A9=some a→a.block≠fb):=ι (fun e0 a e=>by have h1:=(I9.out e0).2 a e; have h2:=FX.out.lt 1 rfl; have h3:fb<a.block:=Nat.lt_of_lt_of_le h2 h1; omega); (first|have FX:=Live.hb FX hb|have FX:=Live.hbd FX hb); clear hb hI; have d0:=(FX.out.blk 0 rfl).d0; have d1:=(FX.out.blk 0 rfl).d1; have d2:=(FX.out.blk 0 rfl).d2; have d3:w9.cell? ⟨xb,3,none⟩=some (dt:Value):=FX.out.cell 2 3 rfl rfl))))
  all_goals
   by_cases hcp:cdP=0;rotate_left
   ·have hcp1:((cdP:Int) !=0)=true:=by simp; exact hcp
    have HC:=ι hcp;clear hcp;go_wp2_with fail
    exact HP.out t cdP none 0 0 _ (by rw [(HCp.out.2 HC.out).2]; exact HFl.out (HCp.out.2 HC.out).1) FX.out.b (fun h=>absurd h HC.out) (fun _=>rfl)
   subst hcp;obtain ⟨hgd9,hfu9,hmi9⟩:=HP1.out (HCp.out.1 rfl);have HGd:=ι hgd9;have HFu:=ι hfu9;have HMi:=ι hmi9;clear hgd9 hfu9 hmi9 HP1 HFl HCp;have I9b:Hid (IAt w9 A9 n9 c9 tp∧∀ a,A9=some a→a.block≠fb):=ι ⟨(I9.out rfl).1,FRE.out rfl⟩;clear I9 FRE F8 d0 d1 d2 d3 hsum hsum2 hsum3 hnd1 hnd2 hnd3 HVt HPt;have HVf:Hid (∀ W,Calls Tryz.prog 103 #[.agg #[fr,fa,.int .i64 ((f2+1:Nat):Int)]] W (Ret W (.string ⟨(Ex.writA (fa,f2+1)).toArray⟩))):=ι (fun W=>ref16_Value W fr fa (f2+1) (by have:=HGd.out.2.2; unfold Ex.maxA at this; omega) (by have:=HF2.out; unfold Ex.maxA at this; omega));have z02:=(FX.out.blk 1 rfl).d2;have fz2:=FX.out.frozen 1 2 rfl;go_upto_region 33 with fail
   have F7:=Live.hs FX 1 2 (.int .i64 ((f2:Int)+1)) rfl;simp only [List.set_cons_zero,List.setIfInBounds_toArray,List.set_cons_succ] at F7;have I7:=ι (I9b.out.1.grown (grown_cell (World.grownBy.refl w9 (some fb)) 2 (.int .i64 ((f2:Int)+1))) I9b.out.2);generalize w9.setCell ⟨fb,2,none⟩ _=w7 at F7 I7 ⊢;rw [show (f2:Int)+1=((f2+1:Nat):Int) by omega] at F7;clear z02 fz2 FX;have HPf:Hid (∀ W,Below w7.heap.size w7 W→Calls Tryz.prog 102 #[.slice A9 n9 c9,.string ⟨(97::58::fr).toArray⟩,.string ⟨(Ex.writA (fa,f2+1)).toArray⟩] W (DoIEnd W (Trie.put tp (Nib.of (97::58::fr)) (Ex.writA (fa,f2+1))) (if Ex.noRoom tp (97::58::fr)=true then 2 else 0))):=ι (fun W hW=>items_PutL W tp HGd.out.1 HGd.out.2.1 A9 n9 c9 (I7.out.next hW) _ _ (Ex.putCode_a HNm.out (by have:=HGd.out.2.2; unfold Ex.maxA at this; simp only; omega) (by have:=HF2.out; unfold Ex.maxA at this; simp only; omega)) (by have:=HNm.out; simp only [List.length_cons]; omega) (by have:=(Ex.writA_len (p:=(fa,f2+1)) (by have:=HGd.out.2.2; unfold Ex.maxA at this; simp only; omega) (by have:=HF2.out; unfold Ex.maxA at this; simp only; omega)).2; omega));have HE2:Hid (∃ t',Y=(t',if Ex.noRoom tp (97::58::fr)=true then 2 else 0)∧((if Ex.noRoom tp (97::58::fr)=true then 2 else 0)=0→t'=Trie.put tp (Nib.of (97::58::fr)) (Ex.writA (fa,f2+1)))):=ι (by
    have h:=HTwo.out tp _ HE.out HFu.out HMi.out;by_cases hr:Ex.noRoom tp (97::58::fr)=true
    ·rw [if_pos hr]; exact ⟨t,by rw [h]; exact if_pos hr,fun e=>by cases e⟩
    ·rw [if_neg hr]; exact ⟨_,by rw [h]; exact if_neg hr,fun _=>rfl⟩)
   generalize (if Ex.noRoom tp (97::58::fr)=true then 2 else 0)=cdL at HPf HE2;have hsumf:2+fr.length≤9223372036854775807:=by have:=HNm.out; omega
   have hsumf2:fr.length+2≤9223372036854775807:=by omega
   have hsumf3:fr.length+1+1≤9223372036854775807:=by omega
   have hnf1:(9223372036854775807<2+fr.length)=False:=by simp; omega
   have hnf2:(9223372036854775807<fr.length+2)=False:=by simp; omega
   have hnf3:(9223372036854775807<fr.length+1+1)=False:=by simp; omega
   clear HE HGd HF2 HF1 HNm HCn HGo HIt HRd I7 HTwo HOne HNo HFu HMi;generalize Ex.writA (fa,f2+1)=wr at *;generalize Trie.put tp (Nib.of (97::58::fr)) wr=tr at *;generalize f2+1=f3 at *;have F:=ι (Live.start w7);have HFw:=ι F7.out.b;have d0:=(F7.out.blk 1 rfl).d0;have d1:=(F7.out.blk 1 rfl).d1;have d2:=(F7.out.blk 1 rfl).d2;have d3:=(F7.out.blk 2 rfl).d1;have FX:=F7;go_region_held3 (fun w'=>w'.cell? ⟨fb,0,none⟩=some (fr:Value)∧w'.cell? ⟨fb,1,none⟩=some (.int .i64 ((fa:Nat):Int))∧w'.cell? ⟨fb,2,none⟩=some (.int .i64 ((f3:Nat):Int))∧w'.cell? ⟨xb,1,none⟩=some (fr:Value)) (first|go_keep|(refine ⟨?_,?_,?_,?_⟩<;>assumption)) (first|(go_at_call 103; ((with_reducible refine (HVf.out _).mono ?_); (rintro e w8 ⟨rfl,hb⟩; (first|have F:=Live.hb F hb|have F:=Live.hbd F hb); (first|have FX:=Live.hb FX hb|have FX:=Live.hbd FX hb); clear hb; have d0:=(FX.out.blk 1 rfl).d0; have d1:=(FX.out.blk 1 rfl).d1; have d2:=(FX.out.blk 1 rfl).d2; have d3:w8.cell? ⟨xb,1,none⟩=some (fr:Value):=FX.out.cell 2 1 rfl rfl)))|(go_at_call 102; ((with_reducible refine (HPf.out _ ?_).mono ?_); (first|exact F.out.b|exact F.out.b.drew); (rintro e w9 ⟨A9,n9,c9,rfl,hb,hI,hN⟩; have I9:=ι hI; have N9:=ι hN; have FY:=FX; (first|have FX:=Live.hb FX hb|have FX:=Live.hbd FX hb); have FRE:Hid (cdL=0→∀ a,A9=some a→w.heap.size≤a.block):=ι (fun e0 a e=>Nat.le_trans FY.out.b.size ((I9.out e0).2 a e)); clear hb hI hN FY; have d0:=(FX.out.blk 1 rfl).d0; have d1:=(FX.out.blk 1 rfl).d1; have d2:=(FX.out.blk 1 rfl).d2; have d3:w9.cell? ⟨xb,1,none⟩=some (fr:Value):=FX.out.cell 2 1 rfl rfl))))
   all_goals go_wp2_with fail
   all_goals
    obtain ⟨t9,y1,y2⟩:=HE2.out;exact HP.out t9 cdL _ _ _ _ y1 FX.out.b (fun e=>by rw [y2 e]; exact ⟨(I9.out e).1,FRE.out e⟩) N9.out
 have k1':(kd==1)=false:=by simp; exact k1
 have hto:Ex.accTo t ⟨kd,fr,sq,dt,am,ky,vl,mm⟩=some (0,0):=by unfold Ex.accTo; rw [if_neg k1]
 rw [hto] at hX2;simp only at hX2;clear HAd;by_cases hs:(f2:Int)=sq;rotate_left
 ·have hs1:((f2:Int) !=sq)=true:=by simp; exact hs
  rw [if_pos (Or.inl hs)] at hX2;have HE:Hid (X=(t,160)):=ι hX2.symm;clear hX2 hsp hx hf hle hs;go_enter Tryz.func158,Tryz.ntmps158
  go_upto_region 1 with fail
  have F0:=Live.ha (ι (Live.start w)) #[kd,fr,sq,dt,am,ky,vl,.slice B mm.length m] 101;exact z_9
 subst hs;have hs1:((f2:Int) !=f2)=false:=by simp
 by_cases hm:f2=Ex.maxA
 ·have hm1:((f2:Int)==1099511627776)=true:=by rw [hm]; rfl
  rw [if_pos (Or.inr hm)] at hX2;have HE:Hid (X=(t,160)):=ι hX2.symm;clear hX2 hsp hx hf hle hm;go_enter Tryz.func158,Tryz.ntmps158
  go_upto_region 1 with fail
  have F0:=Live.ha (ι (Live.start w)) #[kd,fr,f2,dt,am,ky,vl,.slice B mm.length m] 101;exact z_9
 have hm1:((f2:Int)==1099511627776)=false:=by rw [beq_eq_false_iff_ne]; unfold Ex.maxA at hm; omega
 rw [if_neg (by rintro (h|h); exact h rfl; exact hm h)] at hX2;have HF1:=ι hle.1;have HF2:=ι hle.2;have hwq:IntKind.i64.wrap ((f2:Int)+1)=(f2:Int)+1:=IntWalk.i64_in _ (by unfold Ex.maxA at hle; omega);have hgd:=Ex.kindW_good HGo.out hx (f:=(f1,f2)) (tt:=(0,0)) hle.1 ⟨by simp,by simp⟩;rcases hsp.2.2.2 with ⟨k,_⟩|⟨k,z1,z2,z3,v1,v2,q1,q2⟩|⟨k,z1,z2,z3,z4,q1,q2⟩|⟨k,z1,z2,z3,z4,hmm⟩
 ·exact absurd k k1
 ·subst k;clear z1 z2 z3;have hkw:=Ex.kindW_2 (t:=t) (x:=⟨2,fr,f2,dt,am,ky,vl,mm⟩) (f:=(f1,f2)) (tt:=(0,0)) rfl;simp only at hkw;have hmi0:=Ex.midW_eq (x:=⟨2,fr,f2,dt,am,ky,vl,mm⟩) hf hto hkw;have hfu0:Ex.full1 t ⟨2,fr,f2,dt,am,ky,vl,mm⟩=Ex.noRoom t (100::58::ky):=rfl;have hmr:Ex.full1 t ⟨2,fr,f2,dt,am,ky,vl,mm⟩=false→_:=Ex.mid_room HGo.out HCn.out hx (f:=(f1,f2)) (tt:=(0,0)) hle.1 ⟨by simp,by simp⟩;rw [hkw] at hmr;rw [hkw] at hX2 hgd;have HE:Hid (X=(Trie.put (Trie.put t (Nib.of (Ex.dKey ky)) vl) (Nib.of (Ex.aKey fr)) (Ex.writA (f1,f2+1)),0)):=ι (by rw [←hX2]; exact if_pos rfl);have HP1:Hid (Ex.noRoom t (100::58::ky)=false→(Trie.Good (Trie.put t (Nib.of (100::58::ky)) vl)∧Trie.count (Trie.put t (Nib.of (100::58::ky)) vl)≤1024∧f1≤Ex.maxA)∧Ex.full1 t ⟨2,fr,f2,dt,am,ky,vl,mm⟩=false∧Ex.midW t ⟨2,fr,f2,dt,am,ky,vl,mm⟩=(Trie.put t (Nib.of (100::58::ky)) vl)):=ι (fun e=>⟨⟨hgd.1,hmr (hfu0.trans e),HF1.out⟩,hfu0.trans e,hmi0⟩);have HFl:Hid (Ex.noRoom t (100::58::ky)=true→Y=(t,2)):=ι (fun e=>HOne.out (by rw [HE.out]) (hfu0.trans e));clear hmr hmi0 hfu0 hto;have HPt:Hid (∀ W,Below w.heap.size w W→Calls Tryz.prog 102 #[.slice A n c,.string ⟨(100::58::ky).toArray⟩,vl] W (DoIEnd W (Trie.put t (Nib.of (100::58::ky)) vl) (if Ex.noRoom t (100::58::ky)=true then 2 else 0))):=ι (fun W hW=>items_PutL W t HGo.out HCn.out A n c (HIt.out.next hW) _ _ (Ex.putCode_v (Ex.keyed_d q2) v1 v2) (by simp only [List.length_cons]; omega) (by omega));have hsum:2+ky.length≤9223372036854775807:=by omega
  have hsum2:ky.length+2≤9223372036854775807:=by omega
  have hsum3:ky.length+1+1≤9223372036854775807:=by omega
  obtain ⟨cdP,hcp⟩:∃ c,(if Ex.noRoom t (100::58::ky)=true then 2 else 0)=c:=⟨_,rfl⟩
  have HCp:Hid ((cdP=0→Ex.noRoom t (100::58::ky)=false)∧(cdP≠0→Ex.noRoom t (100::58::ky)=true∧cdP=2)):=ι (by
   rw [←hcp];cases Ex.noRoom t (100::58::ky) with
   |true=>exact ⟨fun (e:(2:Nat)=0)=>absurd e (by decide),fun _=>⟨rfl,rfl⟩⟩
   |false=>exact ⟨fun _=>rfl,fun e=>absurd rfl e⟩)
  rw [hcp] at HPt;clear hcp;clear hkw hX2 hgd hsp hx hf hle hm v1 v2 q1 q2 k1 k1';go_enter Tryz.func158,Tryz.ntmps158
  go_upto_region 1 with fail
  have F0:=Live.ha (ι (Live.start w)) #[.int .i64 2,fr,f2,dt,am,ky,vl,.slice B mm.length m] 101;generalize World.alloc w _=W0 at F0 ⊢;generalize w.heap.size=xb at F0 ⊢;obtain ⟨k0_0,k0_1,k0_2,k0_3,k0_4,k0_5,k0_6,k0_7⟩:=(F0.out.blk 0 rfl).c8;go_wp2_with fail
  refine (HFn.out _ F0.out.b).mono ?_;rintro e w1 ⟨rfl,hb⟩;have F1:=Live.hb F0 hb;clear hb F0 HFn k0_0 k0_1 k0_2 k0_3 k0_4 k0_5 k0_6 k0_7;obtain ⟨k0_0,k0_1,k0_2,k0_3,k0_4,k0_5,k0_6,k0_7⟩:=(F1.out.blk 0 rfl).c8;go_wp2_with fail
  refine (HAf.out _ F1.out.b).mono ?_;rintro e w2 ⟨rfl,hb⟩;have F2:=Live.hb F1 hb;clear hb F1 HAf k0_0 k0_1 k0_2 k0_3 k0_4 k0_5 k0_6 k0_7;go_upto_region 4 with fail
  have F3:=Live.ha F2 #[fr,f1,f2] 92;generalize World.alloc w2 _=w3 at F3 ⊢;generalize w2.heap.size=fb at F3 ⊢;clear F2;obtain ⟨k0_0,k0_1,k0_2⟩:=(F3.out.blk 0 rfl).c3;go_upto_region 5 with fail
  have F4:=Live.ha F3 #[fr,f1,f2] 92;generalize World.alloc w3 _=w4 at F4 ⊢;generalize w3.heap.size=tb at F4 ⊢;clear F3 k0_0 k0_1 k0_2;obtain ⟨k0_0,k0_1,k0_2⟩:=(F4.out.blk 0 rfl).c3;obtain ⟨k1_0,k1_1,k1_2⟩:=(F4.out.blk 1 rfl).c3;obtain ⟨k2_0,k2_1,k2_2,k2_3,k2_4,k2_5,k2_6,k2_7⟩:=(F4.out.blk 2 rfl).c8;go_wp2_with fail
  refine (HPt.out _ F4.out.b).mono ?_;rintro e w6 ⟨A6,n6,c6,rfl,hb,hI,_⟩;have I6c:Hid (cdP=0→IAt w6 A6 n6 c6 (Trie.put t (Nib.of (100::58::ky)) vl)∧∀ a,A6=some a→a.block≠fb):=ι (fun e0=>⟨(hI e0).1,fun a e=>by have:=(hI e0).2 a e; have:=F4.out.lt 1 rfl; omega⟩);have F6:=Live.hb F4 hb;clear hb hI F4 HPt k0_0 k0_1 k0_2 k1_0 k1_1 k1_2 k2_0 k2_1 k2_2 k2_3 k2_4 k2_5 k2_6 k2_7 hsum hsum2 hsum3;by_cases hcp:cdP=0;rotate_left
  ·have hcp1:((cdP:Int) !=0)=true:=by simp; exact hcp
   have HC:=ι hcp;clear hcp;go_wp2_with fail
   exact HP.out t cdP none 0 0 _ (by rw [(HCp.out.2 HC.out).2]; exact HFl.out (HCp.out.2 HC.out).1) F6.out.b (fun h=>absurd h HC.out) (fun _=>rfl)
  subst hcp;obtain ⟨hgd9,hfu9,hmi9⟩:=HP1.out (HCp.out.1 rfl);have HGd:=ι hgd9;have HFu:=ι hfu9;have HMi:=ι hmi9;clear hgd9 hfu9 hmi9 HP1 HFl HCp;have I6:=ι (I6c.out rfl);clear I6c;have HVf:Hid (∀ W,Calls Tryz.prog 103 #[.agg #[fr,f1,.int .i64 ((f2+1:Nat):Int)]] W (Ret W (.string ⟨(Ex.writA (f1,f2+1)).toArray⟩))):=ι (fun W=>ref16_Value W fr f1 (f2+1) (by have:=HGd.out.2.2; unfold Ex.maxA at this; omega) (by have:=HF2.out; unfold Ex.maxA at this; omega));have z02:=(F6.out.blk 1 rfl).d2;have fz2:=F6.out.frozen 1 2 rfl;go_upto_region 33 with fail
  have F7:=Live.hs F6 1 2 (.int .i64 ((f2:Int)+1)) rfl;simp only [List.set_cons_zero,List.setIfInBounds_toArray,List.set_cons_succ] at F7;have I7:=ι (I6.out.1.grown (grown_cell (World.grownBy.refl w6 (some fb)) 2 (.int .i64 ((f2:Int)+1))) I6.out.2);generalize w6.setCell ⟨fb,2,none⟩ _=w7 at F7 I7 ⊢;rw [show (f2:Int)+1=((f2+1:Nat):Int) by omega] at F7;clear z02 fz2 F6;have HPf:Hid (∀ W,Below w7.heap.size w7 W→Calls Tryz.prog 102 #[.slice A6 n6 c6,.string ⟨(97::58::fr).toArray⟩,.string ⟨(Ex.writA (f1,f2+1)).toArray⟩] W (DoIEnd W (Trie.put (Trie.put t (Nib.of (100::58::ky)) vl) (Nib.of (97::58::fr)) (Ex.writA (f1,f2+1))) (if Ex.noRoom (Trie.put t (Nib.of (100::58::ky)) vl) (97::58::fr)=true then 2 else 0))):=ι (fun W hW=>items_PutL W (Trie.put t (Nib.of (100::58::ky)) vl) HGd.out.1 HGd.out.2.1 A6 n6 c6 (I7.out.next hW) _ _ (Ex.putCode_a HNm.out (by have:=HGd.out.2.2; unfold Ex.maxA at this; simp only; omega) (by have:=HF2.out; unfold Ex.maxA at this; simp only; omega)) (by have:=HNm.out; simp only [List.length_cons]; omega) (by have:=(Ex.writA_len (p:=(f1,f2+1)) (by have:=HGd.out.2.2; unfold Ex.maxA at this; simp only; omega) (by have:=HF2.out; unfold Ex.maxA at this; simp only; omega)).2; omega));have HE2:Hid (∃ t',Y=(t',if Ex.noRoom (Trie.put t (Nib.of (100::58::ky)) vl) (97::58::fr)=true then 2 else 0)∧((if Ex.noRoom (Trie.put t (Nib.of (100::58::ky)) vl) (97::58::fr)=true then 2 else 0)=0→t'=Trie.put (Trie.put t (Nib.of (100::58::ky)) vl) (Nib.of (97::58::fr)) (Ex.writA (f1,f2+1)))):=ι (by
   have h:=HTwo.out (Trie.put t (Nib.of (100::58::ky)) vl) _ HE.out HFu.out HMi.out;by_cases hr:Ex.noRoom (Trie.put t (Nib.of (100::58::ky)) vl) (97::58::fr)=true
   ·rw [if_pos hr]; exact ⟨t,by rw [h]; exact if_pos hr,fun e=>by cases e⟩
   ·rw [if_neg hr]; exact ⟨_,by rw [h]; exact if_neg hr,fun _=>rfl⟩)
  generalize (if Ex.noRoom (Trie.put t (Nib.of (100::58::ky)) vl) (97::58::fr)=true then 2 else 0)=cdL at HPf HE2;have hsumf:2+fr.length≤9223372036854775807:=by have:=HNm.out; omega
  have hsumf2:fr.length+2≤9223372036854775807:=by omega
  have hsumf3:fr.length+1+1≤9223372036854775807:=by omega
  have hnf1:(9223372036854775807<2+fr.length)=False:=by simp; omega
  have hnf2:(9223372036854775807<fr.length+2)=False:=by simp; omega
  have hnf3:(9223372036854775807<fr.length+1+1)=False:=by simp; omega
  clear HE HGd HF2 HF1 HNm HCn HGo HIt HRd I7 HTwo HOne HNo HFu HMi;generalize Ex.writA (f1,f2+1)=wr at *;generalize Trie.put (Trie.put t (Nib.of (100::58::ky)) vl) (Nib.of (97::58::fr)) wr=tr at *;exact z_8
 ·subst k;clear z1 z2 z3 z4;have hkw:=Ex.kindW_3 (t:=t) (x:=⟨3,fr,f2,dt,am,ky,vl,mm⟩) (f:=(f1,f2)) (tt:=(0,0)) rfl;simp only at hkw;have hsum:2+ky.length≤9223372036854775807:=by omega
  have hsum2:ky.length+2≤9223372036854775807:=by omega
  have hsum3:ky.length+1+1≤9223372036854775807:=by omega
  have HDl:Hid (∀ W,Below w.heap.size w W→Calls Tryz.prog 183 #[.slice A n c,.string ⟨(100::58::ky).toArray⟩] W (DoIEnd W (Trie.del t (Nib.of (100::58::ky))) (Trie.getW t (100::58::ky)).2)):=ι (fun W hW=>items_DelL W t HGo.out HCn.out A n c (HIt.out.next hW) _ (by simp only [List.length_cons]; omega));by_cases g1:(Trie.getW t (Ex.dKey ky)).2=0
  ·rw [if_pos g1] at hkw;have hmi0:=Ex.midW_eq (x:=⟨3,fr,f2,dt,am,ky,vl,mm⟩) hf hto hkw;have hmr:=Ex.mid_room HGo.out HCn.out hx (f:=(f1,f2)) (tt:=(0,0)) hle.1 ⟨by simp,by simp⟩ rfl;rw [hkw] at hmr;have HFu:Hid (Ex.full1 t ⟨3,fr,f2,dt,am,ky,vl,mm⟩=false):=ι rfl;have HMi:Hid (Ex.midW t ⟨3,fr,f2,dt,am,ky,vl,mm⟩=(Trie.del t (Nib.of (100::58::ky)))):=ι hmi0;rw [hkw] at hX2 hgd;have HE:Hid (X=(Trie.put (Trie.del t (Nib.of (Ex.dKey ky))) (Nib.of (Ex.aKey fr)) (Ex.writA (f1,f2+1)),0)):=ι (by rw [←hX2]; exact if_pos rfl);have HGd:Hid (Trie.Good (Trie.del t (Nib.of (100::58::ky)))∧Trie.count (Trie.del t (Nib.of (100::58::ky)))≤1024∧f1≤Ex.maxA):=ι ⟨hgd.1,hmr,HF1.out⟩;clear hmr hmi0;simp only [Ex.dKey] at g1;rw [g1] at HDl;clear hkw hX2 hgd hsp hx hf hle hm g1 q1 q2 k1 k1';go_enter Tryz.func158,Tryz.ntmps158
   go_upto_region 1 with fail
   have F0:=Live.ha (ι (Live.start w)) #[.int .i64 3,fr,f2,dt,am,ky,vl,.slice B mm.length m] 101;generalize World.alloc w _=W0 at F0 ⊢;generalize w.heap.size=xb at F0 ⊢;obtain ⟨k0_0,k0_1,k0_2,k0_3,k0_4,k0_5,k0_6,k0_7⟩:=(F0.out.blk 0 rfl).c8;go_wp2_with fail
   refine (HFn.out _ F0.out.b).mono ?_;rintro e w1 ⟨rfl,hb⟩;have F1:=Live.hb F0 hb;clear hb F0 HFn k0_0 k0_1 k0_2 k0_3 k0_4 k0_5 k0_6 k0_7;obtain ⟨k0_0,k0_1,k0_2,k0_3,k0_4,k0_5,k0_6,k0_7⟩:=(F1.out.blk 0 rfl).c8;go_wp2_with fail
   refine (HAf.out _ F1.out.b).mono ?_;rintro e w2 ⟨rfl,hb⟩;have F2:=Live.hb F1 hb;clear hb F1 HAf k0_0 k0_1 k0_2 k0_3 k0_4 k0_5 k0_6 k0_7;go_upto_region 4 with fail
   have F3:=Live.ha F2 #[fr,f1,f2] 92;generalize World.alloc w2 _=w3 at F3 ⊢;generalize w2.heap.size=fb at F3 ⊢;clear F2;obtain ⟨k0_0,k0_1,k0_2⟩:=(F3.out.blk 0 rfl).c3;go_upto_region 5 with fail
   have F4:=Live.ha F3 #[fr,f1,f2] 92;generalize World.alloc w3 _=w4 at F4 ⊢;generalize w3.heap.size=tb at F4 ⊢;clear F3 k0_0 k0_1 k0_2;obtain ⟨k0_0,k0_1,k0_2⟩:=(F4.out.blk 0 rfl).c3;obtain ⟨k1_0,k1_1,k1_2⟩:=(F4.out.blk 1 rfl).c3;obtain ⟨k2_0,k2_1,k2_2,k2_3,k2_4,k2_5,k2_6,k2_7⟩:=(F4.out.blk 2 rfl).c8;go_wp2_with fail
   refine (HDl.out _ F4.out.b).mono ?_;rintro e w6 ⟨A6,n6,c6,rfl,hb,hI,_⟩;have I6:Hid (IAt w6 A6 n6 c6 (Trie.del t (Nib.of (100::58::ky)))∧∀ a,A6=some a→a.block≠fb):=ι ⟨(hI rfl).1,fun a e=>by have:=(hI rfl).2 a e; have:=F4.out.lt 1 rfl; omega⟩;have F6:=Live.hb F4 hb;clear hb hI F4 HDl k0_0 k0_1 k0_2 k1_0 k1_1 k1_2 k2_0 k2_1 k2_2 k2_3 k2_4 k2_5 k2_6 k2_7 hsum hsum2 hsum3;have HVf:Hid (∀ W,Calls Tryz.prog 103 #[.agg #[fr,f1,.int .i64 ((f2+1:Nat):Int)]] W (Ret W (.string ⟨(Ex.writA (f1,f2+1)).toArray⟩))):=ι (fun W=>ref16_Value W fr f1 (f2+1) (by have:=HGd.out.2.2; unfold Ex.maxA at this; omega) (by have:=HF2.out; unfold Ex.maxA at this; omega));have z02:=(F6.out.blk 1 rfl).d2;have fz2:=F6.out.frozen 1 2 rfl;go_upto_region 33 with fail
   have F7:=Live.hs F6 1 2 (.int .i64 ((f2:Int)+1)) rfl;simp only [List.set_cons_zero,List.setIfInBounds_toArray,List.set_cons_succ] at F7;have I7:=ι (I6.out.1.grown (grown_cell (World.grownBy.refl w6 (some fb)) 2 (.int .i64 ((f2:Int)+1))) I6.out.2);generalize w6.setCell ⟨fb,2,none⟩ _=w7 at F7 I7 ⊢;rw [show (f2:Int)+1=((f2+1:Nat):Int) by omega] at F7;clear z02 fz2 F6;have HPf:Hid (∀ W,Below w7.heap.size w7 W→Calls Tryz.prog 102 #[.slice A6 n6 c6,.string ⟨(97::58::fr).toArray⟩,.string ⟨(Ex.writA (f1,f2+1)).toArray⟩] W (DoIEnd W (Trie.put (Trie.del t (Nib.of (100::58::ky))) (Nib.of (97::58::fr)) (Ex.writA (f1,f2+1))) (if Ex.noRoom (Trie.del t (Nib.of (100::58::ky))) (97::58::fr)=true then 2 else 0))):=ι (fun W hW=>items_PutL W (Trie.del t (Nib.of (100::58::ky))) HGd.out.1 HGd.out.2.1 A6 n6 c6 (I7.out.next hW) _ _ (Ex.putCode_a HNm.out (by have:=HGd.out.2.2; unfold Ex.maxA at this; simp only; omega) (by have:=HF2.out; unfold Ex.maxA at this; simp only; omega)) (by have:=HNm.out; simp only [List.length_cons]; omega) (by have:=(Ex.writA_len (p:=(f1,f2+1)) (by have:=HGd.out.2.2; unfold Ex.maxA at this; simp only; omega) (by have:=HF2.out; unfold Ex.maxA at this; simp only; omega)).2; omega));have HE2:Hid (∃ t',Y=(t',if Ex.noRoom (Trie.del t (Nib.of (100::58::ky))) (97::58::fr)=true then 2 else 0)∧((if Ex.noRoom (Trie.del t (Nib.of (100::58::ky))) (97::58::fr)=true then 2 else 0)=0→t'=Trie.put (Trie.del t (Nib.of (100::58::ky))) (Nib.of (97::58::fr)) (Ex.writA (f1,f2+1)))):=ι (by
    have h:=HTwo.out (Trie.del t (Nib.of (100::58::ky))) _ HE.out HFu.out HMi.out;by_cases hr:Ex.noRoom (Trie.del t (Nib.of (100::58::ky))) (97::58::fr)=true
    ·rw [if_pos hr]; exact ⟨t,by rw [h]; exact if_pos hr,fun e=>by cases e⟩
    ·rw [if_neg hr]; exact ⟨_,by rw [h]; exact if_neg hr,fun _=>rfl⟩)
   generalize (if Ex.noRoom (Trie.del t (Nib.of (100::58::ky))) (97::58::fr)=true then 2 else 0)=cdL at HPf HE2;have hsumf:2+fr.length≤9223372036854775807:=by have:=HNm.out; omega
   have hsumf2:fr.length+2≤9223372036854775807:=by omega
   have hsumf3:fr.length+1+1≤9223372036854775807:=by omega
   have hnf1:(9223372036854775807<2+fr.length)=False:=by simp; omega
   have hnf2:(9223372036854775807<fr.length+2)=False:=by simp; omega
   have hnf3:(9223372036854775807<fr.length+1+1)=False:=by simp; omega
   clear HE HGd HF2 HF1 HNm HCn HGo HIt HRd I7 HTwo HOne HNo HFu HMi;generalize Ex.writA (f1,f2+1)=wr at *;generalize Trie.put (Trie.del t (Nib.of (100::58::ky))) (Nib.of (97::58::fr)) wr=tr at *;exact z_8
  ·rw [if_neg g1] at hkw;have HE:Hid (X=(t,(Trie.getW t (100::58::ky)).2)):=ι (by rw [←hX2,hkw]; exact if_neg g1);simp only [Ex.dKey] at g1;generalize (Trie.getW t (100::58::ky)).2=cc at HE HDl g1;have HC:=ι g1;have hcc:((cc:Int) !=0)=true:=by simp; exact g1
   clear hkw hX2 hgd hsp hx hf hle hm g1 q1 q2 k1 k1';go_enter Tryz.func158,Tryz.ntmps158
   go_upto_region 1 with fail
   have F0:=Live.ha (ι (Live.start w)) #[.int .i64 3,fr,f2,dt,am,ky,vl,.slice B mm.length m] 101;generalize World.alloc w _=W0 at F0 ⊢;generalize w.heap.size=xb at F0 ⊢;obtain ⟨k0_0,k0_1,k0_2,k0_3,k0_4,k0_5,k0_6,k0_7⟩:=(F0.out.blk 0 rfl).c8;go_wp2_with fail
   refine (HFn.out _ F0.out.b).mono ?_;rintro e w1 ⟨rfl,hb⟩;have F1:=Live.hb F0 hb;clear hb F0 HFn k0_0 k0_1 k0_2 k0_3 k0_4 k0_5 k0_6 k0_7;obtain ⟨k0_0,k0_1,k0_2,k0_3,k0_4,k0_5,k0_6,k0_7⟩:=(F1.out.blk 0 rfl).c8;go_wp2_with fail
   refine (HAf.out _ F1.out.b).mono ?_;rintro e w2 ⟨rfl,hb⟩;have F2:=Live.hb F1 hb;clear hb F1 HAf k0_0 k0_1 k0_2 k0_3 k0_4 k0_5 k0_6 k0_7;go_upto_region 4 with fail
   have F3:=Live.ha F2 #[fr,f1,f2] 92;generalize World.alloc w2 _=w3 at F3 ⊢;generalize w2.heap.size=fb at F3 ⊢;clear F2;obtain ⟨k0_0,k0_1,k0_2⟩:=(F3.out.blk 0 rfl).c3;go_upto_region 5 with fail
   have F4:=Live.ha F3 #[fr,f1,f2] 92;generalize World.alloc w3 _=w4 at F4 ⊢;generalize w3.heap.size=tb at F4 ⊢;clear F3 k0_0 k0_1 k0_2;obtain ⟨k0_0,k0_1,k0_2⟩:=(F4.out.blk 0 rfl).c3;obtain ⟨k1_0,k1_1,k1_2⟩:=(F4.out.blk 1 rfl).c3;obtain ⟨k2_0,k2_1,k2_2,k2_3,k2_4,k2_5,k2_6,k2_7⟩:=(F4.out.blk 2 rfl).c8;go_wp2_with fail
   refine (HDl.out _ F4.out.b).mono ?_;rintro e w6 ⟨A6,n6,c6,rfl,hb,_,_⟩;have F6:=Live.hb F4 hb;clear hb F4 HDl k0_0 k0_1 k0_2 k1_0 k1_1 k1_2 k2_0 k2_1 k2_2 k2_3 k2_4 k2_5 k2_6 k2_7 hsum hsum2 hsum3;go_wp2_with fail
   exact HP.out t cc none 0 0 _ (HNo.out cc (by rw [HE.out]) HC.out) F6.out.b (fun h=>absurd h HC.out) (fun _=>rfl)
 ·subst k;clear z1 z2 z3 z4;have hkw:=Ex.kindW_4 (t:=t) (x:=⟨4,fr,f2,dt,am,ky,vl,mm⟩) (f:=(f1,f2)) (tt:=(0,0)) rfl;simp only at hkw;by_cases g1:fr=Ex.rootB
  ·rw [if_pos g1] at hkw;have hmi0:=Ex.midW_eq (x:=⟨4,fr,f2,dt,am,ky,vl,mm⟩) hf hto hkw;have hfu0:Ex.full1 t ⟨4,fr,f2,dt,am,ky,vl,mm⟩=Ex.noRoom t [115]:=rfl;have hmr:Ex.full1 t ⟨4,fr,f2,dt,am,ky,vl,mm⟩=false→_:=Ex.mid_room HGo.out HCn.out hx (f:=(f1,f2)) (tt:=(0,0)) hle.1 ⟨by simp,by simp⟩;rw [hkw] at hmr;rw [hkw] at hX2 hgd;have HE:Hid (X=(Trie.put (Trie.put t (Nib.of [115]) (Pw.digM mm)) (Nib.of (Ex.aKey fr)) (Ex.writA (f1,f2+1)),0)):=ι (by rw [←hX2]; exact if_pos rfl);have HP1:Hid (Ex.noRoom t [115]=false→(Trie.Good (Trie.put t (Nib.of [115]) (Pw.digM mm))∧Trie.count (Trie.put t (Nib.of [115]) (Pw.digM mm))≤1024∧f1≤Ex.maxA)∧Ex.full1 t ⟨4,fr,f2,dt,am,ky,vl,mm⟩=false∧Ex.midW t ⟨4,fr,f2,dt,am,ky,vl,mm⟩=(Trie.put t (Nib.of [115]) (Pw.digM mm))):=ι (fun e=>⟨⟨hgd.1,hmr (hfu0.trans e),HF1.out⟩,hfu0.trans e,hmi0⟩);have HFl:Hid (Ex.noRoom t [115]=true→Y=(t,2)):=ι (fun e=>HOne.out (by rw [HE.out]) (hfu0.trans e));clear hmr hmi0 hfu0 hto;have HPt:Hid (∀ W,Below w.heap.size w W→Calls Tryz.prog 102 #[.slice A n c,.string ⟨#[115]⟩,.string ⟨(Pw.digM mm).toArray⟩] W (DoIEnd W (Trie.put t (Nib.of [115]) (Pw.digM mm)) (if Ex.noRoom t [115]=true then 2 else 0))):=ι (fun W hW=>items_PutL W t HGo.out HCn.out A n c (HIt.out.next hW) [115] (Pw.digM mm) (Ex.putCode_v Ex.keyed_s (by rw [Pw.digM_len hmm]; omega) (by rw [Pw.digM_len hmm]; omega)) (by simp) (by rw [Pw.digM_len hmm]; omega));have HDg:Hid (∀ W,Below w.heap.size w W→Calls Tryz.prog 72 #[.slice B mm.length m] W (Ret W (.string ⟨(Pw.digM mm).toArray⟩))):=ι (fun W hW=>ref05_Digest W mm HRd.out.1 B m ((HRd.out.2.below hW).more hW.size));have g1b:(fr== [114,111,111,116])=true:=by rw [g1]; rfl
   clear hkw hX2 hgd hsp hx hf hle hm g1 hmm k1 k1';obtain ⟨cdP,hcp⟩:∃ c,(if Ex.noRoom t [115]=true then 2 else 0)=c:=⟨_,rfl⟩
   have HCp:Hid ((cdP=0→Ex.noRoom t [115]=false)∧(cdP≠0→Ex.noRoom t [115]=true∧cdP=2)):=ι (by
    rw [←hcp];cases Ex.noRoom t [115] with
    |true=>exact ⟨fun (e:(2:Nat)=0)=>absurd e (by decide),fun _=>⟨rfl,rfl⟩⟩
    |false=>exact ⟨fun _=>rfl,fun e=>absurd rfl e⟩)
   rw [hcp] at HPt;clear hcp;generalize Pw.digM mm=dg at *;go_enter Tryz.func158,Tryz.ntmps158
   go_upto_region 1 with fail
   have F0:=Live.ha (ι (Live.start w)) #[.int .i64 4,fr,f2,dt,am,ky,vl,.slice B mm.length m] 101;generalize World.alloc w _=W0 at F0 ⊢;generalize w.heap.size=xb at F0 ⊢;obtain ⟨k0_0,k0_1,k0_2,k0_3,k0_4,k0_5,k0_6,k0_7⟩:=(F0.out.blk 0 rfl).c8;go_wp2_with fail
   refine (HFn.out _ F0.out.b).mono ?_;rintro e w1 ⟨rfl,hb⟩;have F1:=Live.hb F0 hb;clear hb F0 HFn k0_0 k0_1 k0_2 k0_3 k0_4 k0_5 k0_6 k0_7;obtain ⟨k0_0,k0_1,k0_2,k0_3,k0_4,k0_5,k0_6,k0_7⟩:=(F1.out.blk 0 rfl).c8;go_wp2_with fail
   refine (HAf.out _ F1.out.b).mono ?_;rintro e w2 ⟨rfl,hb⟩;have F2:=Live.hb F1 hb;clear hb F1 HAf k0_0 k0_1 k0_2 k0_3 k0_4 k0_5 k0_6 k0_7;go_upto_region 4 with fail
   have F3:=Live.ha F2 #[fr,f1,f2] 92;generalize World.alloc w2 _=w3 at F3 ⊢;generalize w2.heap.size=fb at F3 ⊢;clear F2;obtain ⟨k0_0,k0_1,k0_2⟩:=(F3.out.blk 0 rfl).c3;go_upto_region 5 with fail
   have F4:=Live.ha F3 #[fr,f1,f2] 92;generalize World.alloc w3 _=w4 at F4 ⊢;generalize w3.heap.size=tb at F4 ⊢;clear F3 k0_0 k0_1 k0_2;obtain ⟨k0_0,k0_1,k0_2⟩:=(F4.out.blk 0 rfl).c3;obtain ⟨k1_0,k1_1,k1_2⟩:=(F4.out.blk 1 rfl).c3;obtain ⟨k2_0,k2_1,k2_2,k2_3,k2_4,k2_5,k2_6,k2_7⟩:=(F4.out.blk 2 rfl).c8;go_wp2_with fail
   refine (HDg.out _ F4.out.b).mono ?_;rintro e w5 ⟨rfl,hb⟩;have F5:=Live.hb F4 hb;clear hb F4 HDg k0_0 k0_1 k0_2 k1_0 k1_1 k1_2 k2_0 k2_1 k2_2 k2_3 k2_4 k2_5 k2_6 k2_7;go_wp2_with fail
   refine (HPt.out _ F5.out.b).mono ?_;rintro e w6 ⟨A6,n6,c6,rfl,hb,hI,_⟩;have I6c:Hid (cdP=0→IAt w6 A6 n6 c6 (Trie.put t (Nib.of [115]) dg)∧∀ a,A6=some a→a.block≠fb):=ι (fun e0=>⟨(hI e0).1,fun a e=>by have:=(hI e0).2 a e; have:=F5.out.lt 1 rfl; omega⟩);have F6:=Live.hb F5 hb;clear hb hI F5 HPt;by_cases hcp:cdP=0;rotate_left
   ·have hcp1:((cdP:Int) !=0)=true:=by simp; exact hcp
    have HC:=ι hcp;clear hcp;go_wp2_with fail
    exact HP.out t cdP none 0 0 _ (by rw [(HCp.out.2 HC.out).2]; exact HFl.out (HCp.out.2 HC.out).1) F6.out.b (fun h=>absurd h HC.out) (fun _=>rfl)
   subst hcp;obtain ⟨hgd9,hfu9,hmi9⟩:=HP1.out (HCp.out.1 rfl);have HGd:=ι hgd9;have HFu:=ι hfu9;have HMi:=ι hmi9;clear hgd9 hfu9 hmi9 HP1 HFl HCp;have I6:=ι (I6c.out rfl);clear I6c;have HVf:Hid (∀ W,Calls Tryz.prog 103 #[.agg #[fr,f1,.int .i64 ((f2+1:Nat):Int)]] W (Ret W (.string ⟨(Ex.writA (f1,f2+1)).toArray⟩))):=ι (fun W=>ref16_Value W fr f1 (f2+1) (by have:=HGd.out.2.2; unfold Ex.maxA at this; omega) (by have:=HF2.out; unfold Ex.maxA at this; omega));have z02:=(F6.out.blk 1 rfl).d2;have fz2:=F6.out.frozen 1 2 rfl;go_upto_region 33 with fail
   have F7:=Live.hs F6 1 2 (.int .i64 ((f2:Int)+1)) rfl;simp only [List.set_cons_zero,List.setIfInBounds_toArray,List.set_cons_succ] at F7;have I7:=ι (I6.out.1.grown (grown_cell (World.grownBy.refl w6 (some fb)) 2 (.int .i64 ((f2:Int)+1))) I6.out.2);generalize w6.setCell ⟨fb,2,none⟩ _=w7 at F7 I7 ⊢;rw [show (f2:Int)+1=((f2+1:Nat):Int) by omega] at F7;clear z02 fz2 F6;have HPf:Hid (∀ W,Below w7.heap.size w7 W→Calls Tryz.prog 102 #[.slice A6 n6 c6,.string ⟨(97::58::fr).toArray⟩,.string ⟨(Ex.writA (f1,f2+1)).toArray⟩] W (DoIEnd W (Trie.put (Trie.put t (Nib.of [115]) dg) (Nib.of (97::58::fr)) (Ex.writA (f1,f2+1))) (if Ex.noRoom (Trie.put t (Nib.of [115]) dg) (97::58::fr)=true then 2 else 0))):=ι (fun W hW=>items_PutL W (Trie.put t (Nib.of [115]) dg) HGd.out.1 HGd.out.2.1 A6 n6 c6 (I7.out.next hW) _ _ (Ex.putCode_a HNm.out (by have:=HGd.out.2.2; unfold Ex.maxA at this; simp only; omega) (by have:=HF2.out; unfold Ex.maxA at this; simp only; omega)) (by have:=HNm.out; simp only [List.length_cons]; omega) (by have:=(Ex.writA_len (p:=(f1,f2+1)) (by have:=HGd.out.2.2; unfold Ex.maxA at this; simp only; omega) (by have:=HF2.out; unfold Ex.maxA at this; simp only; omega)).2; omega));have HE2:Hid (∃ t',Y=(t',if Ex.noRoom (Trie.put t (Nib.of [115]) dg) (97::58::fr)=true then 2 else 0)∧((if Ex.noRoom (Trie.put t (Nib.of [115]) dg) (97::58::fr)=true then 2 else 0)=0→t'=Trie.put (Trie.put t (Nib.of [115]) dg) (Nib.of (97::58::fr)) (Ex.writA (f1,f2+1)))):=ι (by
    have h:=HTwo.out (Trie.put t (Nib.of [115]) dg) _ HE.out HFu.out HMi.out;by_cases hr:Ex.noRoom (Trie.put t (Nib.of [115]) dg) (97::58::fr)=true
    ·rw [if_pos hr]; exact ⟨t,by rw [h]; exact if_pos hr,fun e=>by cases e⟩
    ·rw [if_neg hr]; exact ⟨_,by rw [h]; exact if_neg hr,fun _=>rfl⟩)
   generalize (if Ex.noRoom (Trie.put t (Nib.of [115]) dg) (97::58::fr)=true then 2 else 0)=cdL at HPf HE2;have hsumf:2+fr.length≤9223372036854775807:=by have:=HNm.out; omega
   have hsumf2:fr.length+2≤9223372036854775807:=by omega
   have hsumf3:fr.length+1+1≤9223372036854775807:=by omega
   have hnf1:(9223372036854775807<2+fr.length)=False:=by simp; omega
   have hnf2:(9223372036854775807<fr.length+2)=False:=by simp; omega
   have hnf3:(9223372036854775807<fr.length+1+1)=False:=by simp; omega
   clear HE HGd HF2 HF1 HNm HCn HGo HIt HRd I7 HTwo HOne HNo HFu HMi;generalize Ex.writA (f1,f2+1)=wr at *;generalize Trie.put (Trie.put t (Nib.of [115]) dg) (Nib.of (97::58::fr)) wr=tr at *;exact z_8
  ·rw [if_neg g1] at hkw;have HE:Hid (X=(t,162)):=ι (by rw [←hX2,hkw]; rfl);have g1b:(fr== [114,111,111,116])=false:=by rw [beq_eq_false_iff_ne]; exact g1
   clear hkw hX2 hgd hsp hx hf hle hm g1 hmm k1 k1';go_enter Tryz.func158,Tryz.ntmps158
   go_upto_region 1 with fail
   have F0:=Live.ha (ι (Live.start w)) #[.int .i64 4,fr,f2,dt,am,ky,vl,.slice B mm.length m] 101;generalize World.alloc w _=W0 at F0 ⊢;generalize w.heap.size=xb at F0 ⊢;obtain ⟨k0_0,k0_1,k0_2,k0_3,k0_4,k0_5,k0_6,k0_7⟩:=(F0.out.blk 0 rfl).c8;go_wp2_with fail
   refine (HFn.out _ F0.out.b).mono ?_;rintro e w1 ⟨rfl,hb⟩;have F1:=Live.hb F0 hb;clear hb F0 HFn k0_0 k0_1 k0_2 k0_3 k0_4 k0_5 k0_6 k0_7;obtain ⟨k0_0,k0_1,k0_2,k0_3,k0_4,k0_5,k0_6,k0_7⟩:=(F1.out.blk 0 rfl).c8;go_wp2_with fail
   refine (HAf.out _ F1.out.b).mono ?_;rintro e w2 ⟨rfl,hb⟩;have F2:=Live.hb F1 hb;clear hb F1 HAf k0_0 k0_1 k0_2 k0_3 k0_4 k0_5 k0_6 k0_7;go_upto_region 4 with fail
   have F3:=Live.ha F2 #[fr,f1,f2] 92;generalize World.alloc w2 _=w3 at F3 ⊢;generalize w2.heap.size=fb at F3 ⊢;clear F2;obtain ⟨k0_0,k0_1,k0_2⟩:=(F3.out.blk 0 rfl).c3;go_upto_region 5 with fail
   have F4:=Live.ha F3 #[fr,f1,f2] 92;generalize World.alloc w3 _=w4 at F4 ⊢;generalize w3.heap.size=tb at F4 ⊢;clear F3 k0_0 k0_1 k0_2;obtain ⟨k0_0,k0_1,k0_2⟩:=(F4.out.blk 0 rfl).c3;obtain ⟨k1_0,k1_1,k1_2⟩:=(F4.out.blk 1 rfl).c3;obtain ⟨k2_0,k2_1,k2_2,k2_3,k2_4,k2_5,k2_6,k2_7⟩:=(F4.out.blk 2 rfl).c8;go_wp2_with fail
   exact HP.out t 162 none 0 0 _ (HNo.out 162 (by rw [HE.out]) (by decide)) F4.out.b (fun h=>absurd h (by decide)) (fun _=>rfl)
end
end Go.Proofs.YtdkiloganbhfkaaGreatDoor