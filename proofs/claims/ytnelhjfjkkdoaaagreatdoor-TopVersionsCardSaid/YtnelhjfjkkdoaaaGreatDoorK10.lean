import Derived.Test.YtnelhjfjkkdoaaaGreatDoorK09
set_option linter.unusedSimpArgs false
set_option linter.unusedVariables false
set_option maxHeartbeats 4000000
set_option maxRecDepth 100000
namespace Go.Proofs.YtnelhjfjkkdoaaaGreatDoor
section
open Go.RowKit Go.Instr
attribute [local go_sem] ba_get ByteArray.mk_append_mk
theorem Blk.range {w:World} {g:Nat} {t:TypeId} {cs:List Value} (h:Blk w g t cs.toArray):w.rangeAt g 0 cs:=fun j u hu=>by
 rw [Nat.zero_add,h.cell]; simpa using hu
theorem z_7 {P:Prop} (h:P:=by
 clear F5 F6 g35 gf RA;generalize w6.setCell ⟨g,35,none⟩ (.string ⟨TX.toArray⟩)=w7 at F7 ⊢;have RA:=(KnotAt.of Hsl.out Hps.out F7.out.1).node.all;go_wp2_with (first|(refine wpList_load_mid rfl 133 _ rfl g 0 rfl _ _ RA Tryz.underlying133 rfl SZ1 ?_)|(go_at_call 164; refine (HD _ F7.out.2.2).mono ?_; rintro e w8 ⟨rfl,hb⟩; have F8:=ι (And.intro (F7.out.1.below hb F7.out.1.lt) (F7.out.2.1.trans (hb.mono (by rw [←hB]; exact F7.out.2.1.size)))); clear hb; have g36:=(KnotAt.of Hsl.out Hps.out F8.out.1).c36; have gf:=(KnotAt.of Hsl.out Hps.out F8.out.1).free 36))
 refine HP.out g _ ?_ (F8.out.2.setCell (by have:=HG.out; simp; omega) _)
 have:=F8.out.1.set_ 36 (.string ⟨SM.toArray⟩)
 rw [knotL_set_sum _ _ _ _ Hsl.out _ Hps.out] at this;rw [HKC.out];exact this):P:=h
theorem trie_tied (t:Trie.T) (hn:t≠ .nil) (hw:Trie.wf t) (hs:Trie.small t) (hct:Trie.count t≤1000000) (K0:List (List UInt8)) (hK:K0.length=16) (h0:∀ i:Fin 16,Trie.kidsT t i= .nil→K0.getD i.val []= []) (ps:List Value) (hps:ps.length=16)
  (w:World) (hT:Tbl w) (hk:∀ i:Fin 16,KnotP w (Trie.kidsT t i) (ps.getD i.val undef)):
  Calls Tryz.prog 136 #[.agg (nodeV (Trie.kindT t) (Trie.pathT t) (Trie.valT t) K0).toArray,.agg ps.toArray] w (KnotEnd w t):=by
 have HP:Hid (∀ g w',Blk w' g 136 (knotC t ps).toArray→Below w.heap.size w w'→KnotEnd w t (.returned (.pointer (some ⟨g,0,none⟩))) w'):=ι (fun g w' h1 h2=>⟨_,rfl,.knot t g ps hn hps h1 (fun i=>(hk i).next h2),h2⟩);have hf:=Trie.fineT hn hw hs;have hce:=Trie.count_eq hn hw;have hb16:Trie.belowT t 16≤1000000:=by omega
 have hsl:=Trie.sumsT_length t;have hss:∀ s∈Trie.sumsT t,s.length≤9223372036854775807:=fun s h=>by have:=Trie.sumsT_short t s h; omega
 have HE:=node_Encode (Trie.kindT t) (Trie.pathT t) (Trie.valT t) (Trie.sumsT t) hsl hss hf;have HD:=node_Digest (Trie.kindT t) (Trie.pathT t) (Trie.valT t) (Trie.sumsT t) hsl hss hf;have HKC:Hid (knotC t ps=knotL (Trie.kindT t) (Trie.pathT t) (Trie.valT t) (Trie.sumsT t) ps (nodeText (Trie.kindT t) (Trie.pathT t) (Trie.valT t) (Trie.sumsT t)) (nodeSum (Trie.kindT t) (Trie.pathT t) (Trie.valT t) (Trie.sumsT t)) (Trie.belowT t 16+if (Trie.valT t).isEmpty then 0 else 1)):=ι (by unfold knotC Trie.textT; rw [Trie.sumT_eq hn,hce]);have HLoop:=ι (tied_loop t hb16 (Trie.kindT t) (Trie.pathT t) (Trie.valT t) K0 hK h0 ps hps w hk);have HTb:=ι hT;have HN0:=ι (nodeV_size (k:=Trie.kindT t) (p:=Trie.pathT t) (v:=Trie.valT t) hK);have HN1:=ι (nodeV_size (k:=Trie.kindT t) (p:=Trie.pathT t) (v:=Trie.valT t) hsl);have HBD:=ι (built_knot1 (nodeV (Trie.kindT t) (Trie.pathT t) (Trie.valT t) K0) ps HN0.out hps);have Hps:=ι hps;have HK0:=ι hK;have Hsl:=ι hsl;clear hT hn hw hs hct h0 hk hf hce hss hps hK hsl;generalize KnotEnd w t=P at HP ⊢;generalize Trie.sumsT t=K1 at *;generalize nodeText (Trie.kindT t) (Trie.pathT t) (Trie.valT t) K1=TX at *;generalize nodeSum (Trie.kindT t) (Trie.pathT t) (Trie.valT t) K1=SM at *;generalize Trie.kindT t=kk at *;generalize Trie.pathT t=p at *;generalize Trie.valT t=v at *;generalize Trie.belowT t 16=m at *;go_enter Tryz.func136,Tryz.ntmps136
 go_upto_region 1 with fail
 have SZ:(Tryz.prog.info? 133).map (·.size)=some (nodeV kk p v K0).length:=by rw [HN0.out]; exact info_node
 have SZP:(Tryz.prog.info? 134).map (·.size)=some ps.length:=by rw [Hps.out]; exact info_ptrs
 have F0:Hid (Blk ((w.alloc (.cells (nodeV kk p v K0).toArray 133)).alloc (.cells ps.toArray 134)) w.heap.size 133 (nodeV kk p v K0).toArray∧Blk ((w.alloc (.cells (nodeV kk p v K0).toArray 133)).alloc (.cells ps.toArray 134)) (w.heap.size+1) 134 ps.toArray∧Below w.heap.size w ((w.alloc (.cells (nodeV kk p v K0).toArray 133)).alloc (.cells ps.toArray 134))):=by
  refine ι ⟨(Blk.new _ _ _).alloc _,?_,by go_grown⟩
  have:=Blk.new (w.alloc (.cells (nodeV kk p v K0).toArray 133)) 134 ps.toArray
  simpa using this
 generalize (w.alloc (.cells (nodeV kk p v K0).toArray 133)).alloc (.cells ps.toArray 134)=W2 at F0 ⊢;have HB:=ι (And.intro F0.out.1.lt F0.out.2.1.lt);have RA:=F0.out.1.range;have RP:=F0.out.2.1.range;have HT2:Hid (Tbl W2):=ι (HTb.out.next F0.out.2.2);generalize hB:w.heap.size=B at *;have HBD2:=HBD.out;go_upto_region 2 with (first|(refine wpList_load_mid rfl 133 _ rfl B 0 rfl _ _ RA Tryz.underlying133 rfl SZ ?_)|(refine wpList_load_mid rfl 134 _ rfl (B+1) 0 rfl _ _ RP Tryz.underlying134 rfl SZP ?_; go_must (refine wpList_build_eq rfl 136 #[(0,.tmp 8),(1,.tmp 9)] rfl (knotL kk p v K0 ps [] [] 0).toArray ?hb ?_; (case hb=>refine Eq.trans (congrArg _ ?_) HBD2; go_simp))))
 clear HBD2;have F3:Hid (Blk (W2.alloc (.cells (knotL kk p v K0 ps [] [] 0).toArray 136)) W2.heap.size 136 (knotL kk p v K0 ps [] [] 0).toArray∧Blk (W2.alloc (.cells (knotL kk p v K0 ps [] [] 0).toArray 136)) B 133 (nodeV kk p v K0).toArray∧Blk (W2.alloc (.cells (knotL kk p v K0 ps [] [] 0).toArray 136)) (B+1) 134 ps.toArray∧Below B w (W2.alloc (.cells (knotL kk p v K0 ps [] [] 0).toArray 136))∧Tbl (W2.alloc (.cells (knotL kk p v K0 ps [] [] 0).toArray 136))):=
  ι ⟨Blk.new _ _ _,F0.out.1.alloc _,F0.out.2.1.alloc _,F0.out.2.2.alloc (by have:=HB.out.1; omega) _,HT2.out.next (by go_grown)⟩
 have HG:Hid (B+1<W2.heap.size):=ι HB.out.2;clear RA RP F0 HT2 HB;generalize hg:W2.heap.size=g at *;generalize W2.alloc (.cells (knotL kk p v K0 ps [] [] 0).toArray 136)=W3 at F3 ⊢;clear hg;have RP:=F3.out.2.2.1.range;go_wp2_with (refine wpList_load_mid rfl 134 _ rfl (B+1) 0 rfl _ _ RP Tryz.underlying134 rfl SZP ?_)
 refine HLoop.out W3 g (by have:=HG.out; omega) F3.out.2.2.2.1 F3.out.1 B _ ?_ _ _ _ _ _ _ _ _ _ _ _ _ _ _ _ _ _ _ _ _ _ _ _ _ _ _ _ _ _ _ _ _ _ _ _ _ _ _ _ _ _ _ _ _ _ _ _ _ _ _ _ _ _ _ _ _ _ _ _ _ _ _ _ _ _ _ _;clear HLoop RP;intro s0 s1 s3 s4 s6 s7 s8 s9 s10 s11 s12 s13 s14 s15 s16 s17 s18 s19 s20 s21 s22 s23 s24 s25 s26 s27 s28 s29 s30 s31 s32 s33 s34 s35 s36 s37 s38 s39 s40 s41 s42 s43 s44 s45 s46 s47 s48 s49 s50 s51 s52 s53 s54 s55 s56 s57 s58 s59 s60 s61 s62 s63 s64 s65 s66 s67 s68 s69 s70 w4 hbg hgr;have F4:Hid (Blk w4 g 136 (knotL kk p v K1 ps [] [] m).toArray∧Blk w4 B 133 (nodeV kk p v K0).toArray∧Below B w w4∧Tbl w4):=
  ι ⟨hbg,F3.out.2.1.grown hgr (by intro e; injection e with e; have:=HG.out; omega),F3.out.2.2.2.1.grown hgr (by rw [←hB]; exact F3.out.2.2.2.1.size) (by intro j e; injection e with e; have:=HG.out; omega),F3.out.2.2.2.2.grown hgr (by have:=HG.out; omega)⟩
 clear hbg hgr F3;obtain ⟨_,_,q2,_,_⟩:=NodeAt.of (C:= []) (by rw [List.append_nil]; exact F4.out.2.1);by_cases hv0:v= []
 ·have HM:Hid (m=m+if v.isEmpty then 0 else 1):=ι (by subst hv0; simp);generalize (m+if v.isEmpty then 0 else 1)=m2 at *;subst hv0;go_upto_region 11 with fail
  have F5:Hid (Blk w4 g 136 (knotL kk p [] K1 ps [] [] m2).toArray∧Below B w w4∧Tbl w4):=ι ⟨by have:=F4.out.1; rwa [HM.out] at this,F4.out.2.2.1,F4.out.2.2.2⟩;clear F4 q2;generalize w4=w5 at F5 ⊢;have K5:=KnotAt.of Hsl.out Hps.out F5.out.1;have RA:=K5.node.all;clear K5;have SZ1:(Tryz.prog.info? 133).map (·.size)=some (nodeV kk p [] K1).length:=by rw [HN1.out]; exact info_node
  go_upto_region 12 with (first|(refine wpList_load_mid rfl 133 _ rfl g 0 rfl _ _ RA Tryz.underlying133 rfl SZ1 ?_)|(go_at_call 163; refine (HE _).mono ?_; rintro e w6 ⟨rfl,hb⟩; have F6:=ι (And.intro (F5.out.1.below hb F5.out.1.lt) (And.intro (F5.out.2.1.trans (hb.mono (by rw [←hB]; exact F5.out.2.1.size))) (F5.out.2.2.next hb))); clear hb; have g35:=(KnotAt.of Hsl.out Hps.out F6.out.1).c35; have gf:=(KnotAt.of Hsl.out Hps.out F6.out.1).free 35))
  have F7:Hid (Blk (w6.setCell ⟨g,35,none⟩ (.string ⟨TX.toArray⟩)) g 136 (knotL kk p [] K1 ps TX [] m2).toArray∧Below B w (w6.setCell ⟨g,35,none⟩ (.string ⟨TX.toArray⟩))∧Tbl (w6.setCell ⟨g,35,none⟩ (.string ⟨TX.toArray⟩))):=by
   have:=F6.out.1.set_ 35 (.string ⟨TX.toArray⟩)
   rw [knotL_set_text _ _ _ _ Hsl.out _ Hps.out] at this;refine ι ⟨this,F6.out.2.1.setCell (by have:=HG.out; simp; omega) _,F6.out.2.2.grown (g:=g) (only_setCell (World.grownBy.refl _ _) (.inl rfl) _) (by have:=HG.out; omega)⟩
  exact z_7
 ·have HM:Hid (m+1=m+if v.isEmpty then 0 else 1):=ι (by cases v<;>simp_all);have ne1:(v.toArray=#[])=False:=by simp [hv0]
  have ne2:v.isEmpty=false:=by cases v<;>simp_all
  rw [ne2,if_neg (by decide:¬(false=true))] at HM HKC;have K4:=KnotAt.of Hsl.out Hps.out F4.out.1;have g37:=K4.c37;have gf:=K4.free 37;clear K4;have em:IntKind.i64.wrap ((m:Int)+1)=(m:Int)+1:=IntWalk.i64_in _ (by omega);go_upto_region 11 with fail
  clear em;have F5:Hid (Blk (w4.setCell ⟨g,37,none⟩ (.int .i64 ((m:Int)+1))) g 136 (knotL kk p v K1 ps [] [] (m+1)).toArray∧Below B w (w4.setCell ⟨g,37,none⟩ (.int .i64 ((m:Int)+1)))∧Tbl (w4.setCell ⟨g,37,none⟩ (.int .i64 ((m:Int)+1)))):=by
   have:=F4.out.1.set_ 37 (.int .i64 ((m+1:Nat):Int))
   rw [knotL_set_many _ _ _ _ Hsl.out _ Hps.out] at this;refine ι ⟨this,F4.out.2.2.1.setCell (by have:=HG.out; simp; omega) _,F4.out.2.2.2.grown (g:=g) (only_setCell (World.grownBy.refl _ _) (.inl rfl) _) (by have:=HG.out; omega)⟩
  clear F4 q2 g37 gf;generalize w4.setCell ⟨g,37,none⟩ (.int .i64 ((m:Int)+1))=w5 at F5 ⊢;generalize hm2:m+1=m2 at *;clear hm2;have K5:=KnotAt.of Hsl.out Hps.out F5.out.1;have RA:=K5.node.all;clear K5;have SZ1:(Tryz.prog.info? 133).map (·.size)=some (nodeV kk p v K1).length:=by rw [HN1.out]; exact info_node
  go_upto_region 12 with (first|(refine wpList_load_mid rfl 133 _ rfl g 0 rfl _ _ RA Tryz.underlying133 rfl SZ1 ?_)|(go_at_call 163; refine (HE _).mono ?_; rintro e w6 ⟨rfl,hb⟩; have F6:=ι (And.intro (F5.out.1.below hb F5.out.1.lt) (And.intro (F5.out.2.1.trans (hb.mono (by rw [←hB]; exact F5.out.2.1.size))) (F5.out.2.2.next hb))); clear hb; have g35:=(KnotAt.of Hsl.out Hps.out F6.out.1).c35; have gf:=(KnotAt.of Hsl.out Hps.out F6.out.1).free 35))
  have F7:Hid (Blk (w6.setCell ⟨g,35,none⟩ (.string ⟨TX.toArray⟩)) g 136 (knotL kk p v K1 ps TX [] m2).toArray∧Below B w (w6.setCell ⟨g,35,none⟩ (.string ⟨TX.toArray⟩))∧Tbl (w6.setCell ⟨g,35,none⟩ (.string ⟨TX.toArray⟩))):=by
   have:=F6.out.1.set_ 35 (.string ⟨TX.toArray⟩)
   rw [knotL_set_text _ _ _ _ Hsl.out _ Hps.out] at this;refine ι ⟨this,F6.out.2.1.setCell (by have:=HG.out; simp; omega) _,F6.out.2.2.grown (g:=g) (only_setCell (World.grownBy.refl _ _) (.inl rfl) _) (by have:=HG.out; omega)⟩
  exact z_7
theorem KnotP.ptr {w:World} {t:Trie.T} {x:Value} (h:KnotP w t x) (hn:t≠ .nil):∃ b,x= .pointer (some ⟨b,0,none⟩):=by
 rcases h.form with ⟨h1,_⟩|⟨b,_,_,h2,_⟩
 ·exact absurd h1 hn
 ·exact ⟨b,h2⟩
theorem KnotEnd.base {w W:World} {t:Trie.T} {e:Ending} {w':World} (hb:Below w.heap.size w W) (h:KnotEnd W t e w'):KnotEnd w t e w':=by
 obtain ⟨x,h1,h2,h3⟩:=h;exact ⟨x,h1,h2,hb.nxt h3⟩
theorem knot_base {f:FuncId} {args:Array Value} {w:World} {t:Trie.T} (h:∀ W,Below w.heap.size w W→Calls Tryz.prog f args W (KnotEnd W t)):∀ W,Below w.heap.size w W→Calls Tryz.prog f args W (KnotEnd w t):=
 fun W hW=>(h W hW).mono (fun e w' he=>he.base hW)
theorem rep_getD {α:Type} (n i:Nat) (a d:α) (h:i<n):(List.replicate n a).getD i d=a:=by simp [List.getD_eq_getElem?_getD,h]
theorem trie_leaf (p v:List UInt8) (hw:Trie.wf (.leaf p v)) (hs:Trie.small (.leaf p v)) (w:World) (hT:Tbl w):
  Calls Tryz.prog 98 #[p,v] w (KnotEnd w (.leaf p v)):=by
 have HP:Hid (∀ x w',KnotP w' (.leaf p v) x→Below w.heap.size w w'→KnotEnd w (.leaf p v) (.returned x) w'):=ι (fun x w' h1 h2=>⟨x,rfl,h1,h2⟩);have HTied:Calls Tryz.prog 136 #[.agg #[.int .i64 1,p,v,ε,ε,ε,ε,ε,ε,ε,ε,ε,ε,ε,ε,ε,ε,ε,ε],.agg #[.pointer none,.pointer none,.pointer none,.pointer none,.pointer none,.pointer none,.pointer none,.pointer none,.pointer none,.pointer none,.pointer none,.pointer none,.pointer none,.pointer none,.pointer none,.pointer none]] w (KnotEnd w (.leaf p v)):=
  trie_tied (.leaf p v) (by simp) hw hs (by simp [Trie.count]) (List.replicate 16 []) rfl (fun i _=>rep_getD _ _ _ _ i.isLt) (List.replicate 16 (.pointer none)) rfl w hT (fun i=>by rw [rep_getD _ _ _ _ i.isLt]; exact .nil)
 generalize KnotEnd w (.leaf p v)=P at HP ⊢;clear hw hs hT;go_enter Tryz.func98,Tryz.ntmps98
 go_wp2_with (go_at_call 136; refine HTied.mono ?_; rintro e w1 ⟨x,rfl,hk,hb⟩)
 exact HP.out _ _ hk hb
theorem trie_branch (v:List UInt8) (kids:Fin 16→Trie.T) (hw:Trie.wf (.branch v kids)) (hs:Trie.small (.branch v kids)) (hc:Trie.count (.branch v kids)≤1000000) (ps:List Value) (hps:ps.length=16) (w:World) (hT:Tbl w)
  (hk:∀ i:Fin 16,KnotP w (kids i) (ps.getD i.val undef)):
  Calls Tryz.prog 99 #[v,.agg ps.toArray] w (KnotEnd w (.branch v kids)):=by
 have HP:Hid (∀ x w',KnotP w' (.branch v kids) x→Below w.heap.size w w'→KnotEnd w (.branch v kids) (.returned x) w'):=ι (fun x w' h1 h2=>⟨x,rfl,h1,h2⟩);have HTied:∀ W,Below w.heap.size w W→Calls Tryz.prog 136 #[.agg #[.int .i64 3,ε,v,ε,ε,ε,ε,ε,ε,ε,ε,ε,ε,ε,ε,ε,ε,ε,ε],.agg ps.toArray] W (KnotEnd w (.branch v kids)):=
  knot_base fun W hW=>trie_tied (.branch v kids) (by simp) hw hs hc (List.replicate 16 []) rfl (fun i _=>rep_getD _ _ _ _ i.isLt) ps hps W (hT.next hW) (fun i=>(hk i).next hW)
 have Hps:=ι hps;generalize KnotEnd w (.branch v kids)=P at HP ⊢;have HTd:=ι HTied;clear hw hs hT HTied hk hps hc;go_enter Tryz.func99,Tryz.ntmps99
 go_upto_region 1 with fail
 have SZP:(Tryz.prog.info? 134).map (·.size)=some ps.length:=by rw [Hps.out]; exact info_ptrs
 have F0:Hid (Blk (w.alloc (.cells ps.toArray 134)) w.heap.size 134 ps.toArray∧Below w.heap.size w (w.alloc (.cells ps.toArray 134))):=ι ⟨Blk.new _ _ _,by go_grown⟩;generalize w.alloc (.cells ps.toArray 134)=W0 at F0 ⊢;have RP:=F0.out.1.range;go_wp2_with (first|(refine wpList_load_mid rfl 134 _ rfl w.heap.size 0 rfl _ _ RP Tryz.underlying134 rfl SZP ?_)|(go_at_call 136; refine (HTd.out W0 F0.out.2).mono ?_; rintro e w1 ⟨x,rfl,hk,hb⟩))
 exact HP.out _ _ hk hb
theorem joined_nil (t:Trie.T) (x:Value) (w:World) (hk:KnotP w t x):
  Calls Tryz.prog 100 #[ε,x] w (KnotEnd w t):=by
 have HP:Hid (∀ w',w=w'→KnotEnd w t (.returned x) w'):=ι (fun w' h=>by subst h; exact ⟨x,rfl,hk,Below.refl _ _⟩);generalize KnotEnd w t=P at HP ⊢;clear hk;go_enter Tryz.func100,Tryz.ntmps100
 go_wp2
 exact HP.out _ rfl
theorem joined_leaf (path p v:List UInt8) (hp:path≠ []) (hw:Trie.wf (.leaf (path++p) v)) (hs:Trie.small (.leaf (path++p) v)) (b:Nat) (ps:List Value) (hps:ps.length=16) (w:World) (hT:Tbl w)
  (hbk:Blk w b 136 (knotC (.leaf p v) ps).toArray):
  Calls Tryz.prog 100 #[path,.pointer (some ⟨b,0,none⟩)] w (KnotEnd w (.leaf (path++p) v)):=by
 have HP:Hid (∀ x w',KnotP w' (.leaf (path++p) v) x→Below w.heap.size w w'→KnotEnd w (.leaf (path++p) v) (.returned x) w'):=ι (fun x w' h1 h2=>⟨x,rfl,h1,h2⟩);have hl:=(hs _ hw.1 (by simp [Trie.look]; exact hw.2)).1;rw [List.length_append] at hl;have HTd:Hid (∀ W,Below w.heap.size w W→Calls Tryz.prog 98 #[.string ⟨(path++p).toArray⟩,v] W (KnotEnd w (.leaf (path++p) v))):=
  ι (knot_base fun W hW=>trie_leaf (path++p) v hw hs W (hT.next hW))
 obtain ⟨⟨c0,c1,c2,_,_⟩,_,_,_,_,_⟩:=KnotAt.of (Trie.sumsT_length _) hps hbk;rename_i j1 j2 j3 j4 j5 j6 j7
 replace c0:w.cell? ⟨b,0,none⟩=some (.int .i64 1):=c0
 replace c1:w.cell? ⟨b,1,none⟩=some (p:Value):=c1
 replace c2:w.cell? ⟨b,2,none⟩=some (v:Value):=c2
 have ne1:(path.toArray=#[])=False:=by simp [hp]
 have ne2:path.isEmpty=false:=by cases path<;>simp_all
 have hsum:path.length+p.length≤9223372036854775000:=by omega
 have hnl:(9223372036854775807<path.length+p.length)=False:=by simp; omega
 have HBl:=ι hbk.lt;generalize KnotEnd w (.leaf (path++p) v)=P at HP ⊢;clear hw hs hT hbk hps hp hl j1 j2 j3 j4 j5 j6 j7;go_enter Tryz.func100,Tryz.ntmps100
 go_wp2
 go_region_held3 (fun w'=>w'.cell? ⟨b,1,none⟩=some (p:Value)∧w'.cell? ⟨b,2,none⟩=some (v:Value)) (first|go_keep|(constructor<;>assumption)) (first|(go_at_call 98; refine (HTd.out _ (by first|exact Below.refl _ _|exact (Below.refl _ _).drew)).mono ?_; rintro e w1 ⟨x,rfl,hk,hb⟩; have d1:=(hb.cell (p:=⟨b,1,none⟩) HBl.out).trans c1; have d2:=(hb.cell (p:=⟨b,2,none⟩) HBl.out).trans c2))
 go_wp2
 exact HP.out _ _ hk hb
theorem tied_ext (path:List UInt8) (t:Trie.T) (hw:Trie.wf (.ext path t)) (hs:Trie.small (.ext path t)) (hc:Trie.count t≤1000000) (x:Value) (w:World) (hT:Tbl w) (hk:KnotP w t x):
  ∀ W,Below w.heap.size w W→Calls Tryz.prog 136 #[.agg #[.int .i64 2,path,ε,ε,ε,ε,ε,ε,ε,ε,ε,ε,ε,ε,ε,ε,ε,ε,ε],.agg #[x,.pointer none,.pointer none,.pointer none,.pointer none,.pointer none,.pointer none,.pointer none,.pointer none,.pointer none,.pointer none,.pointer none,.pointer none,.pointer none,.pointer none,.pointer none]] W (KnotEnd w (.ext path t)):=
 knot_base fun W hW=>trie_tied (.ext path t) (by simp) hw hs hc (List.replicate 16 []) rfl (fun i _=>rep_getD _ _ _ _ i.isLt) (x::List.replicate 15 (.pointer none)) rfl W (hT.next hW) (fun i=>by
  rcases i with ⟨i,hi⟩
  rcases i with _|i
  ·exact hk.next hW
  ·rw [List.getD_cons_succ,rep_getD _ _ _ _ (by omega)];exact .nil)
theorem joined_ext (path p:List UInt8) (t:Trie.T) (hp:path≠ []) (hw:Trie.wf (.ext (path++p) t)) (hs:Trie.small (.ext (path++p) t)) (hc:Trie.count t≤1000000) (b:Nat) (ps:List Value) (hps:ps.length=16) (w:World) (hT:Tbl w)
  (hbk:Blk w b 136 (knotC (.ext p t) ps).toArray) (hk:KnotP w t (ps.getD 0 undef)):
  Calls Tryz.prog 100 #[path,.pointer (some ⟨b,0,none⟩)] w (KnotEnd w (.ext (path++p) t)):=by
 have HP:Hid (∀ x w',KnotP w' (.ext (path++p) t) x→Below w.heap.size w w'→KnotEnd w (.ext (path++p) t) (.returned x) w'):=ι (fun x w' h1 h2=>⟨x,rfl,h1,h2⟩);have hl:=Trie.small_ext_path hw hs;rw [List.length_append] at hl;have HTd:=ι (tied_ext (path++p) t hw hs hc (ps.getD 0 undef) w hT hk);obtain ⟨⟨c0,c1,c2,_,_⟩,kr,_,_,_,_⟩:=KnotAt.of (Trie.sumsT_length _) hps hbk;rename_i j1 j2 j4 j5 j6 j7
 replace c0:w.cell? ⟨b,0,none⟩=some (.int .i64 2):=c0
 replace c1:w.cell? ⟨b,1,none⟩=some (p:Value):=c1
 have c19:w.cell? ⟨b,19,none⟩=some (ps.getD 0 undef):=kr 0 _ (by rw [List.getD_eq_getElem?_getD,List.getElem?_eq_getElem (show 0<ps.length by omega)]; rfl);have h1c:=hk.one;have ne1:(path.toArray=#[])=False:=by simp [hp]
 have ne2:path.isEmpty=false:=by cases path<;>simp_all
 have hsum:path.length+p.length≤9223372036854775000:=by omega
 have hnl:(9223372036854775807<path.length+p.length)=False:=by simp; omega
 obtain ⟨b2,hy⟩:∃ b2,ps.getD 0 undef= .pointer (some ⟨b2,0,none⟩):=by
  rcases hk.form with ⟨h,_⟩|⟨b2,_,_,h,_⟩
  ·rw [h] at hw; exact absurd hw.2.2.1 (by simp [Trie.isBranch])
  ·exact ⟨b2,h⟩
 rw [hy] at c19 HTd;generalize KnotEnd w (.ext (path++p) t)=P at HP ⊢;clear hw hs hT hbk hps hp hl j1 j2 j4 j5 j6 j7 kr c2 hk;clear hy h1c;go_enter Tryz.func100,Tryz.ntmps100
 go_wp2
 go_region_held3 (fun w'=>w'.cell? ⟨b,1,none⟩=some (p:Value)∧w'.cell? ⟨b,19,none⟩=some (.pointer (some ⟨b2,0,none⟩))) (first|go_keep|(constructor<;>assumption)) (fail)
 go_wp2_with (go_at_call 136; refine (HTd.out _ (Below.refl _ _).drew).mono ?_; rintro e w1 ⟨x,rfl,hk,hb⟩)
 exact HP.out _ _ hk hb
theorem joined_branch (path v:List UInt8) (kids:Fin 16→Trie.T) (hp:path≠ []) (hw:Trie.wf (.ext path (.branch v kids))) (hs:Trie.small (.ext path (.branch v kids))) (hc:Trie.count (.branch v kids)≤1000000) (b:Nat) (ps:List Value) (hps:ps.length=16) (w:World) (hT:Tbl w)
  (hbk:Blk w b 136 (knotC (.branch v kids) ps).toArray) (hk:KnotP w (.branch v kids) (.pointer (some ⟨b,0,none⟩))):
  Calls Tryz.prog 100 #[path,.pointer (some ⟨b,0,none⟩)] w (KnotEnd w (.ext path (.branch v kids))):=by
 have HP:Hid (∀ x w',KnotP w' (.ext path (.branch v kids)) x→Below w.heap.size w w'→KnotEnd w (.ext path (.branch v kids)) (.returned x) w'):=ι (fun x w' h1 h2=>⟨x,rfl,h1,h2⟩);have HTd:=ι (tied_ext path _ hw hs hc _ w hT hk);obtain ⟨⟨c0,c1,c2,_,_⟩,kr,_,_,_,_⟩:=KnotAt.of (Trie.sumsT_length _) hps hbk;rename_i j1 j2 j4 j5 j6 j7
 replace c0:w.cell? ⟨b,0,none⟩=some (.int .i64 3):=c0
 have ne1:(path.toArray=#[])=False:=by simp [hp]
 have ne2:path.isEmpty=false:=by cases path<;>simp_all
 generalize KnotEnd w (.ext path (.branch v kids))=P at HP ⊢;clear hw hs hT hbk hps hp j1 j2 j4 j5 j6 j7 kr c2 c1 hk;go_enter Tryz.func100,Tryz.ntmps100
 go_wp2_with (go_at_call 136; refine (HTd.out _ (Below.refl _ _)).mono ?_; rintro e w1 ⟨x,rfl,hk,hb⟩)
 exact HP.out _ _ hk hb
theorem trie_joined (path:List UInt8) (t:Trie.T) (hn:t≠ .nil) (hw:Trie.wf (Trie.joined path t)) (hs:Trie.small (Trie.joined path t)) (hc:Trie.count t≤1000000) (x:Value) (w:World) (hT:Tbl w) (hk:KnotP w t x):
  Calls Tryz.prog 100 #[path,x] w (KnotEnd w (Trie.joined path t)):=by
 by_cases hp:path= []
 ·subst hp;rw [show Trie.joined [] t=t by simp [Trie.joined]];exact joined_nil t x w hk
 ·rcases hk.form with ⟨h,_⟩|⟨b,ps,_,rfl,hps,hbk,hks⟩
  ·exact absurd h hn
  ·cases t with
   |nil=>exact absurd rfl hn
   |leaf p v=>
    simp only [Trie.joined,if_neg hp] at hw hs ⊢;exact joined_leaf path p v hp hw hs b ps hps w hT hbk
   |ext p t=>
    simp only [Trie.joined,if_neg hp] at hw hs ⊢;exact joined_ext path p t hp hw hs hc b ps hps w hT hbk (hks 0)
   |branch v kids=>
    simp only [Trie.joined,if_neg hp] at hw hs ⊢;exact joined_branch path v kids hp hw hs hc b ps hps w hT hbk hk
end
namespace Trie
open Nib
theorem sum_one {α:Type} [DecidableEq α] (f:α→Nat) (i:α) (a:Nat):∀ l:List α,l.Nodup→i∈l→(l.map fun j=>if j=i then a else f j).sum+f i=(l.map f).sum+a
 | [],_,h=>by simp at h
 |x::l,hn,h=>by
  rw [List.nodup_cons] at hn;simp only [List.map_cons,List.sum_cons];by_cases e:x=i
  ·subst e
   have:(l.map fun j=>if j=x then a else f j)=l.map f:=List.map_congr_left fun j hj=>by
    rw [if_neg (show ¬j=x from fun e=>hn.1 (by rw [←e]; exact hj))]
   rw [this,if_pos rfl]; omega
  ·have hi:i∈l:=by
    rcases List.mem_cons.1 h with h|h
    ·exact absurd h.symm e
    ·exact h
   have:=sum_one f i a l hn.2 hi
   rw [if_neg e]; omega
def kidsCount (kids:Fin 16→T):Nat:=((List.finRange 16).map fun i=>count (kids i)).sum
theorem count_branch (v:List UInt8) (kids:Fin 16→T):count (.branch v kids)=(if v= [] then 0 else 1)+kidsCount kids:=rfl
theorem kidsCount_set (kids:Fin 16→T) (b:UInt8) (t:T):kidsCount (setKid kids b t)+count (kids (ix b))=kidsCount kids+count t:=by
 have:=sum_one (fun i=>count (kids i)) (ix b) (count t) (List.finRange 16) (List.nodup_finRange 16) (List.mem_finRange _)
 have e:(fun i=>count (setKid kids b t i))=fun j=>if j=ix b then count t else count (kids j):=by
  funext j; unfold setKid; split<;>rfl
 unfold kidsCount;rw [e]; exact this
theorem kidsCount_none:kidsCount noKids=0:=by
 unfold kidsCount;rw [show (fun i=>count (noKids i))=fun _=>0 from rfl,sum_zero]
theorem count_joined (path:List UInt8) (t:T):count (joined path t)=count t:=by
 unfold joined
 split
 ·rfl
 ·cases t<;>rfl
theorem count_oneKids (old:List UInt8) (f:List UInt8→T) (n:Nat) (h:∀ b r,old=b::r→count (f r)≤n):kidsCount (oneKids old f)≤n∧(old= []→kidsCount (oneKids old f)=0):=by
 cases old with
 |nil=>simp [oneKids,kidsCount_none]
 |cons b r=>
  have:=kidsCount_set noKids b (f r)
  have h2:=h b r rfl;rw [kidsCount_none,show count (noKids (ix b))=0 from rfl] at this;simp only [oneKids];exact ⟨by omega,by simp⟩
theorem count_partedG (old w path v:List UInt8) (f:List UInt8→T) (n:Nat) (h1:old= []→(if w= [] then 0 else 1)≤n) (h:∀ b r,old=b::r→count (f r)≤n):count (partedG old f w path v)≤n+1:=by
 obtain ⟨k1,k2⟩:=count_oneKids old f n h;cases path with
 |nil=>
  simp only [partedG,count_branch]
  split<;>omega
 |cons b r=>
  simp only [partedG,count_branch]
  have:=kidsCount_set (oneKids old f) b (.leaf r v)
  rw [show count (.leaf r v)=1 from rfl] at this;cases old with
  |nil=>
   have:=k2 rfl
   have:=h1 rfl
   rw [show oneOwn [] w=w from rfl];omega
  |cons a o=>simp only [oneOwn,if_true]; omega
theorem count_put (t:T):∀ q v,count (put t q v)≤count t+1:=by
 induction t with
 |nil=>intro q v; simp [put,count]
 |leaf p w=>
  intro q v;simp only [put]
  split
  ·simp [count]
  ·rw [count_joined];exact count_partedG _ _ _ _ _ 1 (fun _=>by split<;>omega) (fun b r _=>by simp [count])
 |ext p t ih=>
  intro q v;simp only [put]
  split
  ·rw [count_joined]; exact ih _ _
  ·rw [count_joined];exact count_partedG _ _ _ _ _ (count t) (fun _=>by simp) (fun b r _=>by rw [count_joined]; exact Nat.le_refl _)
 |branch w kids ih=>
  intro q v;cases q with
  |nil=>simp only [put,count_branch]; split<;>omega
  |cons b r=>
   simp only [put,count_branch]
   have:=kidsCount_set kids b (put (kids (ix b)) r v)
   have:=ih (ix b) r v
   omega
theorem count_kid (v:List UInt8) (kids:Fin 16→T) (i:Fin 16):count (kids i)≤count (.branch v kids):=by
 rw [count_branch]
 have:count (kids i)≤kidsCount kids:=by
  unfold kidsCount
  have:=sum_one (fun i=>count (kids i)) i 0 (List.finRange 16) (List.nodup_finRange 16) (List.mem_finRange _)
  simp only [Nat.add_zero] at this;omega
 omega
theorem small_put {t:T} {q v:List UInt8} (hw:wf t) (hs:small t) (hq:fit q=true) (hl:q.length≤16) (hv:v≠ []) (hvl:v.length≤32):wf (put t q v)∧small (put t q v):=by
 obtain ⟨h1,h2,_⟩:=put_spec t q v hw hq hv;refine ⟨h1,fun r hr hne=> ?_⟩;rw [h2 r hr] at hne ⊢
 split
 ·rename_i e; subst e; exact ⟨hl,hvl⟩
 ·rename_i e;rw [if_neg e] at hne;exact hs r hr hne
theorem of_joined_branch {path:List UInt8} {t:T} (hb:isBranch t=true) (hp:fit path=true) (hw:wf (joined path t)) (hs:small (joined path t)):wf t∧small t:=by
 by_cases h:path= []
 ·subst h;simp only [joined,if_true] at hw hs;exact ⟨hw,hs⟩
 ·obtain ⟨v,kids,rfl⟩:=branch_of hb;simp only [joined,if_neg h] at hw hs;exact ⟨hw.2.2.2,small_ext hp hs⟩
theorem isBranch_partedG (old w path v:List UInt8) (f:List UInt8→T):isBranch (partedG old f w path v)=true:=by cases path<;>rfl
theorem small_joined_tail {p o:List UInt8} {a:UInt8} {c:Nat} {s:T} (hd:p.drop c=a::o) (hp:fit p=true) (hn:s≠ .nil) (hs:small (.ext p s)):small (joined o s):=by
 intro r hr hne;have hfo:fit o=true:=by
  have:=fit_drop c hp
  rw [hd] at this;exact (fit_cons'.1 this).2
 rw [joined_look _ _ hn] at hne ⊢
 split at hne
 ·rename_i h;rw [if_pos h];have hfr:fit (r.drop o.length)=true:=fit_drop _ hr
  have:=hs (p++r.drop o.length) (fit_append.2 ⟨hp,hfr⟩) (by rw [look_ext]; exact hne)
  rw [look_ext,List.length_append] at this;have hl:=congrArg List.length hd;rw [List.length_drop,List.length_cons] at hl;have hr2:=congrArg List.length h;rw [List.length_append] at hr2;exact ⟨by omega,this.2⟩
 ·exact absurd rfl hne
end Trie
namespace Pw
abbrev Mem:=List UInt8 × Int
def risM:List UInt8→List Mem→Bool
 |_,[]=>true
 |last,m::r=>decide (m.1.length≤6) && Op.bytesLess last m.1 && decide (1≤m.2) && decide (m.2≤1000) && risM m.1 r
def okM (l:List Mem):Bool:=decide (1≤l.length) && decide (l.length≤7) && risM [] l
def memB (m:Mem):List UInt8:=textW m.1++numW m.2.toNat
def encM (l:List Mem):List UInt8:=numW l.length++(l.map memB).flatten
def digM (l:List Mem):List UInt8:=if okM l then shaW (4::encM l) else []
theorem flat_len:∀ (l:List Mem),(∀ m∈l,(memB m).length≤24)→(l.map memB).flatten.length≤24*l.length
 | [],_=>by simp
 |m::r,h=>by
  have h1:=h m (List.mem_cons_self ..);have h2:=flat_len r (fun x hx=>h x (List.mem_cons_of_mem _ hx));simp only [List.map_cons,List.flatten_cons,List.length_append,List.length_cons];omega
end Pw
namespace Skip
def nxt:Nat→Nat→Nat→Nat→Nat→Nat
 |0,_,_,_,at_=>at_
 |f+1,h,low,step,at_=>if h % step=0∧step≤h - low then nxt f h low (step*2) (h - step) else at_
def next (h low:Nat):Nat:=nxt 22 h low 2 (h - 1)
def linksF:Nat→Nat→Nat→List Nat
 |0,_,_=> []
 |f+1,h,step=>if h % step=0 then (h - step)::linksF f h (step*2) else []
def links (h:Nat):List Nat:=linksF 22 h 2
end Skip
structure Hd where
 hgt:Int
 epo:Int
 vw:Int
 last:Bool
 par:List UInt8
 st:List UInt8
 rc:List UInt8
 tx:List UInt8
 mem:List UInt8
 nxt:List UInt8
 sk:List (List UInt8)
namespace Hd
def linksH (h:Int):List Nat:=if 1≤h∧h≤1048576 then Skip.links h.toNat else []
def sumB (s:List UInt8):Bool:=decide (s.length=32)
def maybeB (s:List UInt8):Bool:=s.isEmpty||sumB s
def inB (n:Int):Bool:=decide (0≤n) && decide (n≤1048576)
def numsB (h:Hd):Bool:=inB h.hgt && inB h.epo && inB h.vw
def firstB (h:Hd):Bool:=if 0<h.hgt then sumB h.par else h.par.isEmpty && decide (h.epo=0) && decide (h.vw=0) && h.last
def skB (h:Hd):Bool:=decide (h.sk.length=(linksH h.hgt).length) && h.sk.all sumB
def restB (h:Hd):Bool:=sumB h.tx && sumB h.mem && sumB h.nxt && maybeB h.st && maybeB h.rc
def ok (h:Hd):Bool:=numsB h && firstB h && (skB h && restB h) && (h.last||decide (h.nxt=h.mem))
def flagW (b:Bool):List UInt8:= [if b then 1 else 0]
def enc (h:Hd):List UInt8:=
 numW h.hgt.toNat++numW h.epo.toNat++numW h.vw.toNat++flagW h.last++textW h.par++textW h.st++textW h.rc++h.tx++h.mem++h.nxt++h.sk.flatten
def dig (h:Hd):List UInt8:=if ok h then shaW (2::enc h) else []
theorem textW_len {s:List UInt8} (h:s.length≤32):(textW s).length≤41:=by
 have:=numW_len s.length (by omega)
 simp only [textW,List.length_append];omega
end Hd
section
open Go.RowKit Go.Instr
attribute [local go_sem] ba_get ByteArray.mk_append_mk
def rcOk (c:Int) (f:List UInt8) (q:Int):Prop:=0≤c∧c≤1000∧f≠ []∧f.length≤6∧0≤q∧q≤1099511627776
instance (c:Int) (f:List UInt8) (q:Int):Decidable (rcOk c f q):=by unfold rcOk; infer_instance
def encW (c:Int) (f:List UInt8) (q:Int):List UInt8 × Nat:=if rcOk c f q then (numW c.toNat++textW f++numW q.toNat,0) else ([],3)
end
end Go.Proofs.YtnelhjfjkkdoaaaGreatDoor