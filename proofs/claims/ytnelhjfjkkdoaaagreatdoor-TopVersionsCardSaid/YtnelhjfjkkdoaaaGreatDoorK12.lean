import Derived.Test.YtnelhjfjkkdoaaaGreatDoorK10
import Derived.Deep.DrawnRows
set_option linter.unusedSimpArgs false
set_option linter.unusedVariables false
set_option maxHeartbeats 4000000
set_option maxRecDepth 100000
namespace Go.Proofs.YtnelhjfjkkdoaaaGreatDoor
section
open Go.RowKit Go.Instr
attribute [local go_sem] ba_get ByteArray.mk_append_mk
attribute [local go_sem ↓] Go.wp_at_zero Go.wp_at_succ
def noPtrs:Array Value:=#[.pointer none,.pointer none,.pointer none,.pointer none,.pointer none,.pointer none,.pointer none,.pointer none,.pointer none,.pointer none,.pointer none,.pointer none,.pointer none,.pointer none,.pointer none,.pointer none]
theorem kids_one {w:World} {kids:Fin 16→Trie.T} {ps:List Value} (hps:ps.length=16) (hk:∀ i:Fin 16,KnotP w (kids i) (ps.getD i.val undef)):∀ v∈ps,v.oneCell'=true:=by
 intro v hv;obtain ⟨i,hi,rfl⟩:=List.getElem_of_mem hv
 have:=(hk ⟨i,by omega⟩).one
 rw [List.getD_eq_getElem?_getD] at this;simpa [hi] using this
theorem kids_set {w:World} {kids:Fin 16→Trie.T} {ps:List Value} (hps:ps.length=16) (hk:∀ i:Fin 16,KnotP w (kids i) (ps.getD i.val undef)) (b:UInt8) (hb:b≤15) (t:Trie.T) (x:Value) (hx:KnotP w t x):
  ∀ i:Fin 16,KnotP w (Trie.setKid kids b t i) ((ps.set b.toNat x).getD i.val undef):=by
 intro i;have hb':b.toNat<16:=by rw [UInt8.le_iff_toNat_le] at hb; simp at hb; omega
 have hi:=i.isLt;unfold Trie.setKid;by_cases h:i=Trie.ix b
 ·rw [if_pos h];have e:i.val=b.toNat:=by rw [h]; simp [Trie.ix]; omega
  rw [e,List.getD_eq_getElem?_getD,List.getElem?_set_self (by omega)];exact hx
 ·rw [if_neg h];have e:b.toNat≠i.val:=fun e=>h (Fin.ext (by simp [Trie.ix]; omega));rw [List.getD_eq_getElem?_getD,List.getElem?_set_ne e,←List.getD_eq_getElem?_getD];exact hk i
theorem KnotP.far {w w':World} {t:Trie.T} {x:Value} (hf:∀ b cs,Blk w b 136 cs→Blk w' b 136 cs) (h:KnotP w t x):KnotP w' t x:=by
 induction h with
 |nil=>exact .nil
 |knot t b ps h1 h2 h3 _ ih=>exact .knot t b ps h1 h2 (hf _ _ h3) ih
theorem KnotP.setKids {w:World} {t:Trie.T} {x:Value} {g:Nat} {cs:Array Value} (h:KnotP w t x) (hg:Blk w g 134 cs) (i:Nat) (u:Value):KnotP (w.setCell ⟨g,i,none⟩ u) t x:=
 h.far fun b cs' hb=>hb.far (p:=⟨g,i,none⟩) (Blk.ne_ hb hg (by decide)) u
theorem rangeAt_below {w w1:World} {B g o:Nat} {cs:List Value} (h:w.rangeAt g o cs) (hb:Below B w w1) (hg:g<B):w1.rangeAt g o cs:=fun j u hu=>(hb.cell (p:=⟨g,o+j,none⟩) hg).trans (h j u hu)
def KidIn (w:World) (g g2:Nat) (t:Trie.T) (ps:List Value) (i:Nat) (n:Trie.T) (wx:World):Prop:=
 ∃ b3,Blk wx g2 134 (ps.set i (.pointer (some ⟨b3,0,none⟩))).toArray∧KnotP wx n (.pointer (some ⟨b3,0,none⟩))∧Blk wx g 136 (knotC t ps).toArray∧Below w.heap.size w wx
theorem KidIn.of {w W2 w3:World} {g g2:Nat} {t:Trie.T} {ps:List Value} {i:Nat} {n:Trie.T} {b3:Nat} (h1:Blk W2 g2 134 ps.toArray) (h2:Blk W2 g 136 (knotC t ps).toArray) (h3:Below w.heap.size w W2) (hg:g<g2) (hw:w.heap.size≤g2) (hk:KnotP w3 n (.pointer (some ⟨b3,0,none⟩))) (hb:Below W2.heap.size W2 w3):
  KidIn w g g2 t ps i n (w3.setCell ⟨g2,i,none⟩ (.pointer (some ⟨b3,0,none⟩))):=by
 refine ⟨b3,?_,hk.setKids (h1.below hb h1.lt) _ _,(h2.below hb h2.lt).far (by simp; omega) _,(h3.nxt hb).setCell hw _⟩
 have:=(h1.below hb h1.lt).set_ i (.pointer (some ⟨b3,0,none⟩))
 rwa [List.setIfInBounds_toArray] at this
theorem KidIn.drew {w:World} {g g2:Nat} {t:Trie.T} {ps:List Value} {i:Nat} {n:Trie.T} {wx:World} (h:KidIn w g g2 t ps i n wx):KidIn w g g2 t ps i n wx.drew:=by
 obtain ⟨b3,h1,h2,h3,h4⟩:=h;exact ⟨b3,h1,h2.next (Below.refl _ _).drew,h3,h4.drew⟩
theorem put_kid (v0:List UInt8) (kids:Fin 16→Trie.T) (b:UInt8) (r v:List UInt8) (hb:b≤15) (hr:r.length≤1000)
  (hw:Trie.wf (.branch v0 (Trie.setKid kids b (Trie.put (kids (Trie.ix b)) r v)))) (hs:Trie.small (.branch v0 (Trie.setKid kids b (Trie.put (kids (Trie.ix b)) r v)))) (hc:Trie.count (.branch v0 (Trie.setKid kids b (Trie.put (kids (Trie.ix b)) r v)))≤1000000)
  (g:Nat) (ps:List Value) (hps:ps.length=16) (w:World) (hT:Tbl w)
  (hbk:Blk w g 136 (knotC (.branch v0 kids) ps).toArray) (hks:∀ i:Fin 16,KnotP w (kids i) (ps.getD i.val undef))
  (IH:∀ (x:Value) (W:World),Tbl W→KnotP W (kids (Trie.ix b)) x→Calls Tryz.prog 57 #[x,.string ⟨r.toArray⟩,.string ⟨v.toArray⟩] W (KnotEnd W (Trie.put (kids (Trie.ix b)) r v))):
  Calls Tryz.prog 57 #[.pointer (some ⟨g,0,none⟩),.string ⟨(b::r).toArray⟩,v] w (KnotEnd w (.branch v0 (Trie.setKid kids b (Trie.put (kids (Trie.ix b)) r v)))):=by
 have HP:Hid (∀ x w',KnotP w' (.branch v0 (Trie.setKid kids b (Trie.put (kids (Trie.ix b)) r v))) x→Below w.heap.size w w'→KnotEnd w (.branch v0 (Trie.setKid kids b (Trie.put (kids (Trie.ix b)) r v))) (.returned x) w'):=ι (fun x w' h1 h2=>⟨x,rfl,h1,h2⟩);have HB:Hid (∀ (ps':List Value) (W:World),ps'.length=16→Below w.heap.size w W→(∀ i:Fin 16,KnotP W (Trie.setKid kids b (Trie.put (kids (Trie.ix b)) r v) i) (ps'.getD i.val undef))→Calls Tryz.prog 99 #[v0,.agg ps'.toArray] W (KnotEnd W (.branch v0 (Trie.setKid kids b (Trie.put (kids (Trie.ix b)) r v))))):=
  ι (fun ps' W h1 h2 h3=>trie_branch v0 _ hw hs hc ps' h1 W (hT.next h2) h3)
 have HIH:Hid (∀ W,Below w.heap.size w W→Calls Tryz.prog 57 #[ps.getD b.toNat undef,.string ⟨r.toArray⟩,.string ⟨v.toArray⟩] W (KnotEnd W (Trie.put (kids (Trie.ix b)) r v))):=
  ι (fun W hW=>IH _ W (hT.next hW) (by
   have:=(hks (Trie.ix b)).next hW
   rwa [show (Trie.ix b).val=b.toNat by rw [UInt8.le_iff_toNat_le] at hb; simp at hb; simp [Trie.ix]; omega] at this))
 have HKs:=ι (fun W (hW:Below w.heap.size w W) x (hx:KnotP W (Trie.put (kids (Trie.ix b)) r v) x)=>kids_set hps (fun i=>(hks i).next hW) b hb _ x hx);have HBK:=ι hbk;have HNN:=ι (Trie.put_nn (kids (Trie.ix b)) r v);have HOne:=ι (kids_one hps hks);have Hps:=ι hps;have HCom:Hid (∀ W,Calls Tryz.prog 97 #[ε,.string ⟨(b::r).toArray⟩] W fun e w'=>e= .returned (.int .i64 0)∧Below W.heap.size W w'):=ι (fun W=>nib_Common [] (b::r) W (by simp) (by simp; omega));have hsl:=ι (Trie.sumsT_length (.branch v0 kids));have hb16:b.toNat<16:=by rw [UInt8.le_iff_toNat_le] at hb; simp at hb; omega
 have hbi:(b.toNat:Int)<16:=by omega
 have c1:w.cell? ⟨g,1,none⟩=some (.string ⟨#[]⟩):=(KnotAt.of hsl.out hps hbk).node.c1;generalize KnotEnd w (.branch v0 (Trie.setKid kids b (Trie.put (kids (Trie.ix b)) r v)))=P at HP ⊢;clear hw hs hc hT IH hks hbk hb hps;go_enter Tryz.func57,Tryz.ntmps57
 go_upto_region 4 with (go_at_call 97; refine (HCom.out _).mono ?_; rintro e w1 ⟨rfl,hb⟩)
 clear c1;have K1:=KnotAt.of hsl.out Hps.out (HBK.out.below hb HBK.out.lt);have HB1:=ι hb;have HBK1:=ι (HBK.out.below hb HBK.out.lt);clear hb;obtain ⟨⟨c0,c1,c2,_,_⟩,kr,_,_,_,_⟩:=K1;rename_i j1 j2 j4 j5 j6 j7
 replace c0:w1.cell? ⟨g,0,none⟩=some (.int .i64 3):=c0
 replace c1:w1.cell? ⟨g,1,none⟩=some (.string ⟨#[]⟩):=c1
 clear j1 j2 j4 j5 j6 j7 c2;have SZP:(Tryz.prog.info? 134).map (·.size)=some ps.toArray.size:=by rw [List.size_toArray,Hps.out]; exact info_ptrs
 have SZQ:(Tryz.prog.info? 134).map (·.size)=some ps.length:=by rw [Hps.out]; exact info_ptrs
 have SN:noPtrs.size=ps.toArray.size:=by show 16=ps.length; rw [Hps.out]
 unfold noPtrs at SN;have AP:ps.toArray.all (·.oneCell')=true:=all_oneCell_toArray HOne.out;go_upto_region 9 with (first|(with_reducible refine at_load 57 ?_; refine wpList_load_mid rfl 134 _ rfl g 19 rfl _ _ kr Tryz.underlying134 rfl SZQ ?_)|(with_reducible refine at_store 57 ?_; refine wpList_store_row rfl 134 _ _ rfl w1.heap.size _ rfl rfl _ _ (heap_alloc_new w1 _) SZP SN AP ?_))
 have F2:Hid (Blk ((w1.alloc (.cells noPtrs 134)).setRow w1.heap.size ps.toArray) w1.heap.size 134 ps.toArray∧Blk ((w1.alloc (.cells noPtrs 134)).setRow w1.heap.size ps.toArray) g 136 (knotC (.branch v0 kids) ps).toArray∧Below w.heap.size w ((w1.alloc (.cells noPtrs 134)).setRow w1.heap.size ps.toArray)):=
  ι ⟨setRow_heap _ _ _ _ _ _ (heap_alloc_new w1 _),(setRow_other _ _ _ _ (by have:=HBK1.out.lt; omega)).trans (HBK1.out.alloc _),below_setRow (HB1.out.alloc HB1.out.size _) HB1.out.size _⟩
 have HG:Hid (g<w1.heap.size∧w.heap.size≤w1.heap.size):=ι ⟨HBK1.out.lt,HB1.out.size⟩;clear c0 c1 kr SZP SN AP HB1 HBK1;unfold noPtrs at F2;generalize hW2:World.setRow _ w1.heap.size ps.toArray=W2 at F2 ⊢;generalize w1.heap.size=g2 at *;clear hW2;have cb:W2.cell? ⟨g2,b.toNat,none⟩=some (ps.getD b.toNat undef):=by
  rw [F2.out.1.cell,List.getD_eq_getElem?_getD,List.getElem?_toArray,List.getElem?_eq_getElem (by rw [Hps.out]; exact hb16)]; rfl
 have fb:=F2.out.1.frozen b.toNat;have hbx:0≤(b.toNat:Int):=by omega
 generalize ps.getD b.toNat undef=y at *;have HTl:=run_tail b r;have HG2:Hid (g2<W2.heap.size):=ι F2.out.1.lt;simp only [Act.put];go_cut [67] (fun s67 wx=>KidIn w g g2 (.branch v0 kids) ps b.toNat (Trie.put (kids (Trie.ix b)) r v) wx)
 case first=>
  go_region_with (go_at_call 57; refine (HIH.out _ (by first|exact F2.out.2.2|exact F2.out.2.2.drew)).mono ?_; rintro e w3 ⟨x,rfl,hk,hb⟩; obtain ⟨b3,rfl⟩:=hk.ptr HNN.out; have hb2:Below W2.heap.size W2 w3:=(by first|exact hb|exact hb.start); clear hb; have d1:=(hb2.cell (p:=⟨g2,b.toNat,none⟩) HG2.out).trans cb; have d2:=(hb2.frozen (p:=⟨g2,b.toNat,none⟩) HG2.out).trans fb)
  all_goals go_wp2
  all_goals go_meet
  all_goals first|exact KidIn.of F2.out.1 F2.out.2.1 F2.out.2.2 HG.out.1 HG.out.2 hk hb2|exact (KidIn.of F2.out.1 F2.out.2.1 F2.out.2.2 HG.out.1 HG.out.2 hk hb2).drew
 case rest=>
  obtain ⟨b3,h1,h2,h3,h4⟩:=hcut;have HKids:=ι (HKs.out wc h4 _ h2);have Hlen:Hid ((ps.set b.toNat (.pointer (some ⟨b3,0,none⟩))).length=16):=ι (by rw [List.length_set]; exact Hps.out);have HA:=ι (kids_one Hlen.out HKids.out);have HBr:=ι (fun W hW=>HB.out _ W Hlen.out (h4.nxt hW) (fun i=>(HKids.out i).next hW));have c2:wc.cell? ⟨g,2,none⟩=some (v0:Value):=(KnotAt.of hsl.out Hps.out h3).node.c2;have RP:=h1.range;have SZR:(Tryz.prog.info? 134).map (·.size)=some (ps.set b.toNat (.pointer (some ⟨b3,0,none⟩))).length:=by rw [Hlen.out]; exact info_ptrs
  have HU:=Tryz.underlying134;have Hlen2:=Hlen.out;have HA2:=HA.out;have HLt:Hid (g<wc.heap.size∧g2<wc.heap.size):=ι ⟨h3.lt,h1.lt⟩;have HX:=ι (And.intro h1 (And.intro h2 (And.intro h3 h4)));clear h1 h2 h3 h4 HKs HB HIH HBK HOne HCom HTl fb cb F2 SZQ;generalize ps.set b.toNat (.pointer (some ⟨b3,0,none⟩))=qs at *;go_wp2_with fail
  go_region_held3 (fun w'=>w'.cell? ⟨g,2,none⟩=some (v0:Value)∧w'.rangeAt g2 0 qs) (first|go_keep_ranges|(constructor<;>assumption)) (first|(go_at_call 99; refine (HBr.out _ (by first|exact Below.refl _ _|exact (Below.refl _ _).drew)).mono ?_; rintro e w5 ⟨x,rfl,hk,hb⟩; have hbx:Below wc.heap.size wc w5:=(by first|exact hb|exact hb.start); clear hb; have d1:=(hbx.cell (p:=⟨g,2,none⟩) HLt.out.1).trans c2; have d2:=rangeAt_below RP hbx HLt.out.2))
  go_wp2
  exact HP.out _ _ hk (HX.out.2.2.2.nxt hbx)
theorem put_nil (q v:List UInt8) (hw:Trie.wf (.leaf q v)) (hs:Trie.small (.leaf q v)) (w:World) (hT:Tbl w):
  Calls Tryz.prog 57 #[.pointer none,q,v] w (KnotEnd w (.leaf q v)):=by
 have HP:Hid (∀ x w',KnotP w' (.leaf q v) x→Below w.heap.size w w'→KnotEnd w (.leaf q v) (.returned x) w'):=ι (fun x w' h1 h2=>⟨x,rfl,h1,h2⟩);have HL:=ι (trie_leaf q v hw hs w hT);generalize KnotEnd w (.leaf q v)=P at HP ⊢;clear hw hs hT;go_enter Tryz.func57,Tryz.ntmps57
 go_wp2_with (go_at_call 98; refine HL.out.mono ?_; rintro e w1 ⟨x,rfl,hk,hb⟩)
 exact HP.out _ _ hk hb
theorem put_own (v0:List UInt8) (kids:Fin 16→Trie.T) (v:List UInt8)
  (hw:Trie.wf (.branch v kids)) (hs:Trie.small (.branch v kids)) (hc:Trie.count (.branch v kids)≤1000000)
  (g:Nat) (ps:List Value) (hps:ps.length=16) (w:World) (hT:Tbl w)
  (hbk:Blk w g 136 (knotC (.branch v0 kids) ps).toArray) (hks:∀ i:Fin 16,KnotP w (kids i) (ps.getD i.val undef)):
  Calls Tryz.prog 57 #[.pointer (some ⟨g,0,none⟩),ε,v] w (KnotEnd w (.branch v kids)):=by
 have HP:Hid (∀ x w',KnotP w' (.branch v kids) x→Below w.heap.size w w'→KnotEnd w (.branch v kids) (.returned x) w'):=ι (fun x w' h1 h2=>⟨x,rfl,h1,h2⟩);have HB:Hid (∀ (W:World),Below w.heap.size w W→Calls Tryz.prog 99 #[v,.agg ps.toArray] W (KnotEnd W (.branch v kids))):=
  ι (fun W h2=>trie_branch v _ hw hs hc ps hps W (hT.next h2) (fun i=>(hks i).next h2))
 have HBK:=ι hbk;have Hps:=ι hps;have HCom:Hid (∀ W,Calls Tryz.prog 97 #[ε,ε] W fun e w'=>e= .returned (.int .i64 0)∧Below W.heap.size W w'):=ι (fun W=>nib_Common [] [] W (by simp) (by simp));have hsl:=ι (Trie.sumsT_length (.branch v0 kids));have c1:w.cell? ⟨g,1,none⟩=some (.string ⟨#[]⟩):=(KnotAt.of hsl.out hps hbk).node.c1;generalize KnotEnd w (.branch v kids)=P at HP ⊢;clear hw hs hc hT hks hbk hps;go_enter Tryz.func57,Tryz.ntmps57
 go_upto_region 4 with (go_at_call 97; refine (HCom.out _).mono ?_; rintro e w1 ⟨rfl,hb⟩)
 clear c1;have K1:=KnotAt.of hsl.out Hps.out (HBK.out.below hb HBK.out.lt);have HB1:=ι hb;clear hb;obtain ⟨⟨c0,c1,c2,_,_⟩,kr,_,_,_,_⟩:=K1;rename_i j1 j2 j4 j5 j6 j7
 replace c0:w1.cell? ⟨g,0,none⟩=some (.int .i64 3):=c0
 replace c1:w1.cell? ⟨g,1,none⟩=some (.string ⟨#[]⟩):=c1
 clear j1 j2 j4 j5 j6 j7 c2;have SZQ:(Tryz.prog.info? 134).map (·.size)=some ps.length:=by rw [Hps.out]; exact info_ptrs
 go_wp2_with (first|(with_reducible refine at_load 45 ?_; refine wpList_load_mid rfl 134 _ rfl g 19 rfl _ _ kr Tryz.underlying134 rfl SZQ ?_)|(go_at_call 99; refine (HB.out _ HB1.out).mono ?_; rintro e w5 ⟨x,rfl,hk,hb⟩))
 exact HP.out _ _ hk (HB1.out.nxt hb)
theorem put_same (p v0 v:List UInt8) (hp:p.length≤1000) (hw:Trie.wf (.leaf p v)) (hs:Trie.small (.leaf p v)) (g:Nat) (ps:List Value) (hps:ps.length=16) (w:World) (hT:Tbl w)
  (hbk:Blk w g 136 (knotC (.leaf p v0) ps).toArray):
  Calls Tryz.prog 57 #[.pointer (some ⟨g,0,none⟩),p,v] w (KnotEnd w (.leaf p v)):=by
 have HP:Hid (∀ x w',KnotP w' (.leaf p v) x→Below w.heap.size w w'→KnotEnd w (.leaf p v) (.returned x) w'):=ι (fun x w' h1 h2=>⟨x,rfl,h1,h2⟩);have HL:Hid (∀ (W:World),Below w.heap.size w W→Calls Tryz.prog 98 #[p,v] W (KnotEnd W (.leaf p v))):=ι (fun W h2=>trie_leaf p v hw hs W (hT.next h2));have HBK:=ι hbk;have Hps:=ι hps;have hcs:Nib.common p p=p.length:=by have:=Trie.common_self_append p []; rwa [List.append_nil] at this
 have HCom:Hid (∀ W,Calls Tryz.prog 97 #[p,p] W fun e w'=>e= .returned (.int .i64 (p.length:Int))∧Below W.heap.size W w'):=ι (fun W=>by
  have:=nib_Common p p W (by omega) (by omega)
  rwa [hcs] at this)
 have hsl:=ι (Trie.sumsT_length (.leaf p v0));have c1:w.cell? ⟨g,1,none⟩=some (p:Value):=(KnotAt.of hsl.out hps hbk).node.c1;generalize KnotEnd w (.leaf p v)=P at HP ⊢;clear hw hs hT hbk hps hcs;go_enter Tryz.func57,Tryz.ntmps57
 go_upto_region 4 with (go_at_call 97; refine (HCom.out _).mono ?_; rintro e w1 ⟨rfl,hb⟩)
 clear c1;have K1:=KnotAt.of hsl.out Hps.out (HBK.out.below hb HBK.out.lt);have HB1:=ι hb;clear hb;obtain ⟨⟨c0,c1,c2,_,_⟩,kr,_,_,_,_⟩:=K1;rename_i j1 j2 j4 j5 j6 j7
 replace c0:w1.cell? ⟨g,0,none⟩=some (.int .i64 1):=c0
 replace c1:w1.cell? ⟨g,1,none⟩=some (p:Value):=c1
 clear j1 j2 j4 j5 j6 j7 c2 kr;go_wp2_with (go_at_call 98; refine (HL.out _ HB1.out).mono ?_; rintro e w5 ⟨x,rfl,hk,hb⟩)
 exact HP.out _ _ hk (HB1.out.nxt hb)
theorem put_below (p q v:List UInt8) (s n:Trie.T) (hp:p.length≤1000) (hq:q.length≤1000) (hcm:Nib.common p q=p.length) (hns:s≠ .nil) (hnn:n≠ .nil)
  (hw:Trie.wf (Trie.joined p n)) (hs:Trie.small (Trie.joined p n)) (hc:Trie.count n≤1000000)
  (g:Nat) (ps:List Value) (hps:ps.length=16) (w:World) (hT:Tbl w)
  (hbk:Blk w g 136 (knotC (.ext p s) ps).toArray) (hk0:KnotP w s (ps.getD 0 undef))
  (IH:∀ (x:Value) (W:World),Tbl W→KnotP W s x→Calls Tryz.prog 57 #[x,.string ⟨(q.drop (Nib.common p q)).toArray⟩,.string ⟨v.toArray⟩] W (KnotEnd W n)):
  Calls Tryz.prog 57 #[.pointer (some ⟨g,0,none⟩),q,v] w (KnotEnd w (Trie.joined p n)):=by
 have HP:Hid (∀ x w',KnotP w' (Trie.joined p n) x→Below w.heap.size w w'→KnotEnd w (Trie.joined p n) (.returned x) w'):=ι (fun x w' h1 h2=>⟨x,rfl,h1,h2⟩);have HJ:Hid (∀ (x:Value) (W:World),Below w.heap.size w W→KnotP W n x→Calls Tryz.prog 100 #[p,x] W (KnotEnd W (Trie.joined p n))):=
  ι (fun x W h1 h2=>trie_joined p n hnn hw hs hc x W (hT.next h1) h2)
 obtain ⟨b2,hy⟩:=hk0.ptr hns;rw [hy] at hk0;have hcl:=Nib.common_le p q;have HTl:=run_drop q (Nib.common p q) hcl.2;have HIH:Hid (∀ W,Below w.heap.size w W→Calls Tryz.prog 57 #[.pointer (some ⟨b2,0,none⟩),.string ⟨(q.drop (Nib.common p q)).toArray⟩,v] W (KnotEnd W n)):=
  ι (fun W h=>IH _ W (hT.next h) (hk0.next h))
 have HBK:=ι hbk;have Hps:=ι hps;have HCom:Hid (∀ W,Calls Tryz.prog 97 #[p,q] W fun e w'=>e= .returned (.int .i64 ((Nib.common p q:Nat):Int))∧Below W.heap.size W w'):=ι (fun W=>nib_Common p q W (by omega) (by omega));have hsl:=ι (Trie.sumsT_length (.ext p s));have c1:w.cell? ⟨g,1,none⟩=some (p:Value):=(KnotAt.of hsl.out hps hbk).node.c1;have HY:=ι hy;have hwh:(((Nib.common p q:Nat):Int)==((p.length:Nat):Int))=true:=by rw [hcm]; simp
 have hcq:((Nib.common p q:Nat):Int)≤q.length:=by omega
 have HNN:=ι hnn;generalize q.drop (Nib.common p q)=qd at *;generalize Nib.common p q=c at *;clear hcm;generalize KnotEnd w (Trie.joined p n)=P at HP ⊢;clear hw hs hT hbk hps hy hk0 IH hc hns hnn;go_enter Tryz.func57,Tryz.ntmps57
 go_upto_region 4 with (go_at_call 97; refine (HCom.out _).mono ?_; rintro e w1 ⟨rfl,hb⟩)
 clear c1;have K1:=KnotAt.of hsl.out Hps.out (HBK.out.below hb HBK.out.lt);have HB1:=ι hb;have HLt:Hid (g<w1.heap.size):=ι (HBK.out.below hb HBK.out.lt).lt;clear hb;obtain ⟨⟨c0,c1,c2,_,_⟩,kr,_,_,_,_⟩:=K1;rename_i j1 j2 j4 j5 j6 j7
 replace c0:w1.cell? ⟨g,0,none⟩=some (.int .i64 2):=c0
 replace c1:w1.cell? ⟨g,1,none⟩=some (p:Value):=c1
 have c19:w1.cell? ⟨g,19,none⟩=some (.pointer (some ⟨b2,0,none⟩)):=by
  rw [←HY.out];exact kr 0 _ (by have:=Hps.out; rw [List.getD_eq_getElem?_getD,List.getElem?_eq_getElem (show 0<ps.length by omega)]; rfl)
 clear j1 j2 j4 j5 j6 j7 c2 kr;go_upto_region 12 with fail
 go_region_held3 (fun w'=>w'.cell? ⟨g,1,none⟩=some (p:Value)∧w'.cell? ⟨g,19,none⟩=some (.pointer (some ⟨b2,0,none⟩))) (first|go_keep|(constructor<;>assumption)) (first|(go_at_call 57; refine (HIH.out _ (by first|exact HB1.out|exact HB1.out.drew)).mono ?_; rintro e w3 ⟨x,rfl,hk,hb⟩; obtain ⟨b3,rfl⟩:=hk.ptr HNN.out; have hb3:Below w1.heap.size w1 w3:=(by first|exact hb|exact hb.start); clear hb; have d1:=(hb3.cell (p:=⟨g,1,none⟩) HLt.out).trans c1; have d2:=(hb3.cell (p:=⟨g,19,none⟩) HLt.out).trans c19)|(go_at_call 100; refine (HJ.out _ _ (by first|exact HB1.out.nxt hb3|exact (HB1.out.nxt hb3).drew) (by first|exact hk|exact hk.next (Below.refl _ _).drew)).mono ?_; rintro e w4 ⟨x4,rfl,hk4,hb⟩; have hb4:Below w3.heap.size w3 w4:=(by first|exact hb|exact hb.start); clear hb; have d3:=(hb4.cell (p:=⟨g,1,none⟩) (Nat.lt_of_lt_of_le HLt.out hb3.size)).trans d1; have d4:=(hb4.cell (p:=⟨g,19,none⟩) (Nat.lt_of_lt_of_le HLt.out hb3.size)).trans d2))
 go_wp2
 exact HP.out _ _ hk4 ((HB1.out.nxt hb3).nxt hb4)
theorem z_8 {P:Prop} (h:P:=by
 clear j1 j2 j4 j5 j6 j7 c2 kr;go_upto_region 15 with fail
 go_region_held3 (fun w'=>w'.cell? ⟨g,1,none⟩=some (p:Value)) (first|go_keep|assumption) (first|(go_at_call 101; refine (HPT.out _ (by first|exact HB1.out|exact HB1.out.drew)).mono ?_; rintro e w3 ⟨x,rfl,hk,hb⟩; obtain ⟨b3,rfl⟩:=hk.ptr HNN.out; have hb3:Below w1.heap.size w1 w3:=(by first|exact hb|exact hb.start); clear hb; have d1:=(hb3.cell (p:=⟨g,1,none⟩) HLt.out).trans c1)|(go_at_call 100; refine (HJ.out _ _ (by first|exact HB1.out.nxt hb3|exact (HB1.out.nxt hb3).drew) (by first|exact hk|exact hk.next (Below.refl _ _).drew)).mono ?_; rintro e w4 ⟨x4,rfl,hk4,hb⟩; have hb4:Below w3.heap.size w3 w4:=(by first|exact hb|exact hb.start); clear hb; have d3:=(hb4.cell (p:=⟨g,1,none⟩) (Nat.lt_of_lt_of_le HLt.out hb3.size)).trans d1))
 go_wp2
 exact HP.out _ _ hk4 ((HB1.out.nxt hb3).nxt hb4)):P:=h
theorem put_part (t n:Trie.T) (p q v:List UInt8) (hpt:Trie.pathT t=p) (hkt:Trie.kindT t=1∨Trie.kindT t=2) (hp:p.length≤1000) (hq:q.length≤1000) (hne:Nib.common p q≠p.length) (hnn:n≠ .nil)
  (hw:Trie.wf (Trie.joined (q.take (Nib.common p q)) n)) (hs:Trie.small (Trie.joined (q.take (Nib.common p q)) n)) (hc:Trie.count n≤1000000)
  (g:Nat) (ps:List Value) (hps:ps.length=16) (w:World) (hT:Tbl w) (hbk:Blk w g 136 (knotC t ps).toArray)
  (HPt:∀ W,Below w.heap.size w W→Calls Tryz.prog 101 #[.pointer (some ⟨g,0,none⟩),.int .i64 ((Nib.common p q:Nat):Int),.string ⟨(q.drop (Nib.common p q)).toArray⟩,v] W (KnotEnd W n)):
  Calls Tryz.prog 57 #[.pointer (some ⟨g,0,none⟩),q,v] w (KnotEnd w (Trie.joined (q.take (Nib.common p q)) n)):=by
 have HP:Hid (∀ x w',KnotP w' (Trie.joined (q.take (Nib.common p q)) n) x→Below w.heap.size w w'→KnotEnd w (Trie.joined (q.take (Nib.common p q)) n) (.returned x) w'):=ι (fun x w' h1 h2=>⟨x,rfl,h1,h2⟩);have HJ:Hid (∀ (x:Value) (W:World),Below w.heap.size w W→KnotP W n x→Calls Tryz.prog 100 #[.string ⟨(q.take (Nib.common p q)).toArray⟩,x] W (KnotEnd W (Trie.joined (q.take (Nib.common p q)) n))):=
  ι (fun x W h1 h2=>trie_joined _ n hnn hw hs hc x W (hT.next h1) h2)
 have hcl:=Nib.common_le p q;have HTl:=run_drop q (Nib.common p q) hcl.2;have HTk:=run_take q (Nib.common p q) hcl.2;have HBK:=ι hbk;have Hps:=ι hps;have HPT:=ι HPt;have HCom:Hid (∀ W,Calls Tryz.prog 97 #[p,q] W fun e w'=>e= .returned (.int .i64 ((Nib.common p q:Nat):Int))∧Below W.heap.size W w'):=ι (fun W=>nib_Common p q W (by omega) (by omega));have hsl:=ι (Trie.sumsT_length t);have c1:w.cell? ⟨g,1,none⟩=some (p:Value):=by
  have:=(KnotAt.of hsl.out hps hbk).node.c1
  rwa [hpt] at this
 have hcq:((Nib.common p q:Nat):Int)≤q.length:=by omega
 have HNN:=ι hnn;have Hpt:=ι hpt;have hwh:(((Nib.common p q:Nat):Int)==((p.length:Nat):Int))=false:=by rw [beq_eq_false_iff_ne]; omega
 generalize q.drop (Nib.common p q)=qd at *;generalize q.take (Nib.common p q)=qt at *;generalize Nib.common p q=c at *;generalize KnotEnd w (Trie.joined qt n)=P at HP ⊢;clear hw hs hT hbk hps hc hnn HPt hpt;go_enter Tryz.func57,Tryz.ntmps57
 go_upto_region 4 with (go_at_call 97; refine (HCom.out _).mono ?_; rintro e w1 ⟨rfl,hb⟩)
 clear c1;have K1:=KnotAt.of hsl.out Hps.out (HBK.out.below hb HBK.out.lt);have HB1:=ι hb;have HLt:Hid (g<w1.heap.size):=ι (HBK.out.below hb HBK.out.lt).lt;clear hb;obtain ⟨⟨c0,c1,c2,_,_⟩,kr,_,_,_,_⟩:=K1;rename_i j1 j2 j4 j5 j6 j7;rw [Hpt.out] at c1;have e3:(((Trie.kindT t:Nat):Int)==3)=false:=by rcases hkt with h|h<;>rw [h]<;>rfl
 exact z_8
theorem put_longer (t n:Trie.T) (p q v:List UInt8) (hpt:Trie.pathT t=p) (hkt:Trie.kindT t=1) (hp:p.length≤1000) (hq:q.length≤1000) (hcm:Nib.common p q=p.length) (hne:Nib.common p q≠q.length) (hnn:n≠ .nil)
  (hw:Trie.wf (Trie.joined (q.take (Nib.common p q)) n)) (hs:Trie.small (Trie.joined (q.take (Nib.common p q)) n)) (hc:Trie.count n≤1000000)
  (g:Nat) (ps:List Value) (hps:ps.length=16) (w:World) (hT:Tbl w) (hbk:Blk w g 136 (knotC t ps).toArray)
  (HPt:∀ W,Below w.heap.size w W→Calls Tryz.prog 101 #[.pointer (some ⟨g,0,none⟩),.int .i64 ((Nib.common p q:Nat):Int),.string ⟨(q.drop (Nib.common p q)).toArray⟩,v] W (KnotEnd W n)):
  Calls Tryz.prog 57 #[.pointer (some ⟨g,0,none⟩),q,v] w (KnotEnd w (Trie.joined (q.take (Nib.common p q)) n)):=by
 have HP:Hid (∀ x w',KnotP w' (Trie.joined (q.take (Nib.common p q)) n) x→Below w.heap.size w w'→KnotEnd w (Trie.joined (q.take (Nib.common p q)) n) (.returned x) w'):=ι (fun x w' h1 h2=>⟨x,rfl,h1,h2⟩);have HJ:Hid (∀ (x:Value) (W:World),Below w.heap.size w W→KnotP W n x→Calls Tryz.prog 100 #[.string ⟨(q.take (Nib.common p q)).toArray⟩,x] W (KnotEnd W (Trie.joined (q.take (Nib.common p q)) n))):=
  ι (fun x W h1 h2=>trie_joined _ n hnn hw hs hc x W (hT.next h1) h2)
 have hcl:=Nib.common_le p q;have HTl:=run_drop q (Nib.common p q) hcl.2;have HTk:=run_take q (Nib.common p q) hcl.2;have HBK:=ι hbk;have Hps:=ι hps;have HPT:=ι HPt;have HCom:Hid (∀ W,Calls Tryz.prog 97 #[p,q] W fun e w'=>e= .returned (.int .i64 ((Nib.common p q:Nat):Int))∧Below W.heap.size W w'):=ι (fun W=>nib_Common p q W (by omega) (by omega));have hsl:=ι (Trie.sumsT_length t);have c1:w.cell? ⟨g,1,none⟩=some (p:Value):=by
  have:=(KnotAt.of hsl.out hps hbk).node.c1
  rwa [hpt] at this
 have hcq:((Nib.common p q:Nat):Int)≤q.length:=by omega
 have HNN:=ι hnn;have Hpt:=ι hpt;have hwh:(((Nib.common p q:Nat):Int)==((p.length:Nat):Int))=true:=(by rw [hcm]; simp); clear hcm;generalize q.drop (Nib.common p q)=qd at *;generalize q.take (Nib.common p q)=qt at *;generalize Nib.common p q=c at *;generalize KnotEnd w (Trie.joined qt n)=P at HP ⊢;clear hw hs hT hbk hps hc hnn HPt hpt;go_enter Tryz.func57,Tryz.ntmps57
 go_upto_region 4 with (go_at_call 97; refine (HCom.out _).mono ?_; rintro e w1 ⟨rfl,hb⟩)
 clear c1;have K1:=KnotAt.of hsl.out Hps.out (HBK.out.below hb HBK.out.lt);have HB1:=ι hb;have HLt:Hid (g<w1.heap.size):=ι (HBK.out.below hb HBK.out.lt).lt;clear hb;obtain ⟨⟨c0,c1,c2,_,_⟩,kr,_,_,_,_⟩:=K1;rename_i j1 j2 j4 j5 j6 j7;rw [Hpt.out] at c1
 (rw [hkt] at c0; replace c0:w1.cell? ⟨g,0,none⟩=some (.int .i64 1):=c0; have hwq:(((c:Nat):Int)==((q.length:Nat):Int))=false:=by rw [beq_eq_false_iff_ne]; omega)
 exact z_8
end
end Go.Proofs.YtnelhjfjkkdoaaaGreatDoor