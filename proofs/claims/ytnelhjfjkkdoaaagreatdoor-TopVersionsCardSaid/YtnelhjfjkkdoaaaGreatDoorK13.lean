import Derived.Test.YtnelhjfjkkdoaaaGreatDoorK12
import Derived.Deep.CutBlock
set_option linter.unusedSimpArgs false
set_option linter.unusedVariables false
set_option maxHeartbeats 4000000
set_option maxRecDepth 100000
namespace Go.Proofs.YtnelhjfjkkdoaaaGreatDoor
section
open Go.RowKit Go.Instr
attribute [local go_sem] ba_get ByteArray.mk_append_mk
attribute [local go_sem ↓] Go.wp_at_zero Go.wp_at_succ
def KidsIn (w:World) (gk:Nat) (ks:Fin 16→Trie.T) (wx:World):Prop:=
 ∃ ps1:List Value,ps1.length=16∧Blk wx gk 134 ps1.toArray∧(∀ i:Fin 16,KnotP wx (ks i) (ps1.getD i.val undef))∧Below w.heap.size w wx
theorem KidsIn.next {w wx wy:World} {gk:Nat} {ks:Fin 16→Trie.T} (h:KidsIn w gk ks wx) (hb:Below wx.heap.size wx wy):KidsIn w gk ks wy:=by
 obtain ⟨ps,h1,h2,h3,h4⟩:=h;exact ⟨ps,h1,h2.below hb h2.lt,fun i=>(h3 i).next hb,h4.nxt hb⟩
theorem KidsIn.set {w wx:World} {gk:Nat} {ks:Fin 16→Trie.T} (h:KidsIn w gk ks wx) (hg:w.heap.size≤gk) (b:UInt8) (hb:b≤15) (t:Trie.T) (x:Value) (hx:KnotP wx t x):KidsIn w gk (Trie.setKid ks b t) (wx.setCell ⟨gk,b.toNat,none⟩ x):=by
 obtain ⟨ps,h1,h2,h3,h4⟩:=h;refine ⟨ps.set b.toNat x,by rw [List.length_set]; exact h1,?_,fun i=>(kids_set h1 h3 b hb t x hx i).setKids h2 _ _,h4.setCell hg _⟩
 have:=h2.set_ b.toNat x
 rwa [List.setIfInBounds_toArray] at this
theorem KidsIn.made (w:World):KidsIn w w.heap.size Trie.noKids (w.alloc (.cells #[.pointer none,.pointer none,.pointer none,.pointer none,.pointer none,.pointer none,.pointer none,.pointer none,.pointer none,.pointer none,.pointer none,.pointer none,.pointer none,.pointer none,.pointer none,.pointer none] 134)):=
 ⟨List.replicate 16 (.pointer none),rfl,Blk.new _ _ _,fun i=>by rw [rep_getD _ _ _ _ i.isLt]; exact .nil,by go_grown⟩
theorem z_9 {P:Prop} (h:P:=by
 have RP:=h2.range;have SZR:(Tryz.prog.info? 134).map (·.size)=some ps1.length:=by rw [h1]; exact info_ptrs
 have HX:=ι (And.intro h1 (And.intro h2 (And.intro h3 h4)));clear h1 h2 h3 h4;go_wp2_with (first|(with_reducible refine at_load 67 ?_; refine wpList_load_mid rfl 134 _ rfl w.heap.size 0 rfl _ _ RP Tryz.underlying134 rfl SZR ?_)|(go_at_call 99; refine (HBr.out _ (Below.refl _ _)).mono ?_; rintro e w5 ⟨x,rfl,hk,hb⟩))
 exact HP.out _ _ hk (HX.out.2.2.2.nxt hb)):P:=h
theorem parted_leaf0 (p w0 q v:List UInt8) (c:Nat) (hcp:c≤p.length) (hp:p.length≤1000) (hd:p.drop c= []) (hfq:Nib.fit q=true)
  (hw:Trie.wf (Trie.partedG (p.drop c) (fun r=> .leaf r w0) w0 q v)) (hs:Trie.small (Trie.partedG (p.drop c) (fun r=> .leaf r w0) w0 q v)) (hc:Trie.count (Trie.partedG (p.drop c) (fun r=> .leaf r w0) w0 q v)≤1000000)
  (g:Nat) (ps:List Value) (hps:ps.length=16) (w:World) (hT:Tbl w) (hbk:Blk w g 136 (knotC (.leaf p w0) ps).toArray):
  Calls Tryz.prog 101 #[.pointer (some ⟨g,0,none⟩),c,q,v] w (KnotEnd w (Trie.partedG (p.drop c) (fun r=> .leaf r w0) w0 q v)):=by
 have HP:Hid (∀ x w',KnotP w' (Trie.partedG (p.drop c) (fun r=> .leaf r w0) w0 q v) x→Below w.heap.size w w'→KnotEnd w (Trie.partedG (p.drop c) (fun r=> .leaf r w0) w0 q v) (.returned x) w'):=ι (fun x w' h1 h2=>⟨x,rfl,h1,h2⟩);have HW:=ι (And.intro hw (And.intro hs hc));have HTb:=ι hT;have Hfq:=ι hfq;have Hd:=ι hd;have HTd:=run_drop p c hcp;rw [hd] at HTd;have hcq:(c:Int)≤p.length:=by omega
 obtain ⟨⟨c0,c1,c2,_,_⟩,kr,_,_,_,_⟩:=KnotAt.of (Trie.sumsT_length _) hps hbk;rename_i j1 j2 j4 j5 j6 j7
 replace c0:w.cell? ⟨g,0,none⟩=some (.int .i64 1):=c0
 replace c1:w.cell? ⟨g,1,none⟩=some (p:Value):=c1
 replace c2:w.cell? ⟨g,2,none⟩=some (w0:Value):=c2
 have hgl:g<w.heap.size:=hbk.lt;have HMade:=ι (KidsIn.made w);generalize KnotEnd w (Trie.partedG (p.drop c) (fun r=> .leaf r w0) w0 q v)=P at HP ⊢;clear hw hs hT hbk hps hc hd hfq j1 j2 j4 j5 j6 j7 kr;go_enter Tryz.func101,Tryz.ntmps101
 go_upto_block 0 with fail
 go_cut [10] (fun s10 wx=>s10= .string ⟨(Trie.oneOwn (p.drop c) w0).toArray⟩∧KidsIn w w.heap.size (Trie.oneKids (p.drop c) (fun r=> .leaf r w0)) wx)
 case first=>
  go_wp2
  go_meet
  exact ⟨by rw [Hd.out]; rfl,by rw [Hd.out]; exact HMade.out⟩
 case rest=>
  obtain ⟨rfl,hK⟩:=hcut;cases q with
  |nil=>
   have HR:Hid (Trie.partedG (p.drop c) (fun r=> .leaf r w0) w0 [] v= .branch v (Trie.oneKids (p.drop c) (fun r=> .leaf r w0))):=ι rfl;obtain ⟨ps1,h1,h2,h3,h4⟩:=hK;have HBr:Hid (∀ W,Below wc.heap.size wc W→Calls Tryz.prog 99 #[v,.agg ps1.toArray] W (KnotEnd W (Trie.partedG (p.drop c) (fun r=> .leaf r w0) w0 [] v))):=
    ι (fun W hW=>by
     have hw':=HW.out.1; have hs':=HW.out.2.1; have hc':=HW.out.2.2
     rw [HR.out] at hw' hs' hc' ⊢;exact trie_branch v _ hw' hs' hc' ps1 h1 W (HTb.out.next (h4.nxt hW)) (fun i=>(h3 i).next hW))
   exact z_9
  |cons b r=>
   have hb15:b≤15:=(Trie.fit_cons'.1 Hfq.out).1;have hb16:b.toNat<16:=by rw [UInt8.le_iff_toNat_le] at hb15; simp at hb15; omega
   have hbi:(b.toNat:Int)<16:=by omega
   have hbx:0≤(b.toNat:Int):=by omega
   have Hb15:=ι hb15;clear hb15;have HR:Hid (Trie.partedG (p.drop c) (fun r=> .leaf r w0) w0 (b::r) v= .branch (Trie.oneOwn (p.drop c) w0) (Trie.setKid (Trie.oneKids (p.drop c) (fun r=> .leaf r w0)) b (.leaf r v))):=ι rfl;have HLf:Hid (∀ W,Below w.heap.size w W→Calls Tryz.prog 98 #[r,v] W (KnotEnd W (.leaf r v))):=
    ι (fun W hW=>by
     have hw':=HW.out.1; have hs':=HW.out.2.1
     rw [HR.out] at hw' hs';have hw2:=hw'.1 (Trie.ix b);have hs2:=Trie.small_kid hs' (Trie.ix b);rw [Trie.setKid_same] at hw2 hs2;exact trie_leaf r v hw2 hs2 W (HTb.out.next hW))
   have HK:=ι hK;have HWc:Hid (Below w.heap.size w wc∧w.heap.size<wc.heap.size):=ι (by obtain ⟨ps1,h1,h2,h3,h4⟩:=hK; exact ⟨h4,h2.lt⟩);clear hK;have cb:∃ y,wc.cell? ⟨w.heap.size,b.toNat,none⟩=some y:=by
    obtain ⟨ps1,h1,h2,h3,h4⟩:=HK.out;exact ⟨ps1[b.toNat]'(by omega),by rw [h2.cell,List.getElem?_toArray,List.getElem?_eq_getElem (by omega)]⟩
   obtain ⟨y,cb⟩:=cb;have fb:wc.frozen? ⟨w.heap.size,b.toNat,none⟩=false:=by
    obtain ⟨ps1,h1,h2,h3,h4⟩:=HK.out;exact h2.frozen _
   have HTl:=run_tail b r;go_upto_region 11 with fail
   go_cut [64] (fun s64 wx=>KidsIn w w.heap.size (Trie.setKid (Trie.oneKids (p.drop c) (fun r=> .leaf r w0)) b (.leaf r v)) wx)
   case first=>
    go_region_with (go_at_call 98; refine (HLf.out _ (by first|exact HWc.out.1|exact HWc.out.1.drew)).mono ?_; rintro e w3 ⟨x,rfl,hk,hb⟩; obtain ⟨b3,rfl⟩:=hk.ptr (by simp); have hb2:Below wc.heap.size wc w3:=(by first|exact hb|exact hb.start); clear hb; have d1:=(hb2.cell (p:=⟨w.heap.size,b.toNat,none⟩) HWc.out.2).trans cb; have d2:=(hb2.frozen (p:=⟨w.heap.size,b.toNat,none⟩) HWc.out.2).trans fb)
    all_goals go_wp2
    all_goals go_meet
    all_goals first|exact (HK.out.next hb2).set (Nat.le_refl _) b Hb15.out _ _ hk|exact ((HK.out.next hb2).set (Nat.le_refl _) b Hb15.out _ _ hk).next (Below.refl _ _).drew
   case rest=>
    clear cb fb HTl HK HWc;obtain ⟨ps1,h1,h2,h3,h4⟩:=hcut;rename World=>wd;have HBr:Hid (∀ W,Below wd.heap.size wd W→Calls Tryz.prog 99 #[.string ⟨(Trie.oneOwn (p.drop c) w0).toArray⟩,.agg ps1.toArray] W (KnotEnd W (Trie.partedG (p.drop c) (fun r=> .leaf r w0) w0 (b::r) v))):=
     ι (fun W hW=>by
      have hw':=HW.out.1; have hs':=HW.out.2.1; have hc':=HW.out.2.2
      rw [HR.out] at hw' hs' hc' ⊢;exact trie_branch _ _ hw' hs' hc' ps1 h1 W (HTb.out.next (h4.nxt hW)) (fun i=>(h3 i).next hW))
    exact z_9
theorem z_10 {P:Prop} (h:P:=by
 have RP:=h2.range;have SZR:(Tryz.prog.info? 134).map (·.size)=some ps1.length:=by rw [h1]; exact info_ptrs
 have HX:=ι (And.intro h1 (And.intro h2 (And.intro h3 h4)));clear h1 h2 h3 h4;go_wp2_with (first|(with_reducible refine at_load 67 ?_; refine wpList_load_mid rfl 134 _ rfl w.heap.size 0 rfl _ _ RP Tryz.underlying134 rfl SZR ?_)|(go_at_call 99; refine (HBr.out _ (Below.refl _ _)).mono ?_; rintro e w5 ⟨x,rfl,hk,hb⟩))
 exact HP.out _ _ hk (HX.out.2.2.2.nxt hb)):P:=h
theorem parted_leaf1 (p w0:List UInt8) (q v:List UInt8) (c:Nat) (hcp:c≤p.length) (hp:p.length≤1000) (a:UInt8) (o:List UInt8) (hd:p.drop c=a::o) (hfp:Nib.fit p=true) (hfq:Nib.fit q=true)
  (hw:Trie.wf (Trie.partedG (p.drop c) (fun r=> .leaf r w0) w0 q v)) (hs:Trie.small (Trie.partedG (p.drop c) (fun r=> .leaf r w0) w0 q v)) (hc:Trie.count (Trie.partedG (p.drop c) (fun r=> .leaf r w0) w0 q v)≤1000000) (hsub:Trie.wf (.leaf o w0)∧Trie.small (.leaf o w0))
  (g:Nat) (ps:List Value) (hps:ps.length=16) (w:World) (hT:Tbl w) (hbk:Blk w g 136 (knotC (.leaf p w0) ps).toArray) :
  Calls Tryz.prog 101 #[.pointer (some ⟨g,0,none⟩),c,q,v] w (KnotEnd w (Trie.partedG (p.drop c) (fun r=> .leaf r w0) w0 q v)):=by
 have HP:Hid (∀ x w',KnotP w' (Trie.partedG (p.drop c) (fun r=> .leaf r w0) w0 q v) x→Below w.heap.size w w'→KnotEnd w (Trie.partedG (p.drop c) (fun r=> .leaf r w0) w0 q v) (.returned x) w'):=ι (fun x w' h1 h2=>⟨x,rfl,h1,h2⟩);have HW:=ι (And.intro hw (And.intro hs hc));have HTb:=ι hT;have Hfq:=ι hfq;have Hd:=ι hd;have HTd:=run_drop p c hcp;rw [hd] at HTd;have HTa:=run_tail a o;have hcq:(c:Int)≤p.length:=by omega
 have ha15:a≤15:=by
  have:=Trie.fit_drop c hfp
  rw [hd] at this;exact (Trie.fit_cons'.1 this).1
 have Ha15:=ι ha15;have ha16:a.toNat<16:=by rw [UInt8.le_iff_toNat_le] at ha15; simp at ha15; omega
 have hai:(a.toNat:Int)<16:=by omega
 have hax:0≤(a.toNat:Int):=by omega
 have HSub:Hid (∀ W,Below w.heap.size w W→Calls Tryz.prog 98 #[o,w0] W (KnotEnd W (.leaf o w0))):=
  ι (fun W hW=>trie_leaf o w0 hsub.1 hsub.2 W (hT.next hW))
 have HSN:Hid (Trie.T.leaf o w0≠ .nil):=ι (by simp);have HBK:=ι hbk;have Hps:=ι hps;have HMade:=ι (KidsIn.made w);generalize KnotEnd w (Trie.partedG (p.drop c) (fun r=> .leaf r w0) w0 q v)=P at HP ⊢;clear hw hs hT hbk hps hc hd hfq hfp ha15 hsub;go_enter Tryz.func101,Tryz.ntmps101
 go_upto_region 2 with fail
 have HMade2:Hid (KidsIn w w.heap.size Trie.noKids (w.alloc (.cells #[.pointer none,.pointer none,.pointer none,.pointer none,.pointer none,.pointer none,.pointer none,.pointer none,.pointer none,.pointer none,.pointer none,.pointer none,.pointer none,.pointer none,.pointer none,.pointer none] 134))):=ι HMade.out;have HBK2:Hid (Blk (w.alloc (.cells #[.pointer none,.pointer none,.pointer none,.pointer none,.pointer none,.pointer none,.pointer none,.pointer none,.pointer none,.pointer none,.pointer none,.pointer none,.pointer none,.pointer none,.pointer none,.pointer none] 134)) g 136 (knotC (.leaf p w0) ps).toArray):=ι (HBK.out.alloc _);clear HMade;generalize World.alloc w _=W0 at HMade2 HBK2 ⊢;obtain ⟨⟨c0,c1,c2,_,_⟩,kr,_,_,_,_⟩:=KnotAt.of (Trie.sumsT_length _) Hps.out HBK2.out;rename_i j1 j2 j4 j5 j6 j7
 replace c0:W0.cell? ⟨g,0,none⟩=some (.int .i64 1):=c0
 replace c1:W0.cell? ⟨g,1,none⟩=some (p:Value):=c1
 replace c2:W0.cell? ⟨g,2,none⟩=some (w0:Value):=c2
 clear j1 j2 j4 j5 j6 j7 kr;have HWc:Hid (Below w.heap.size w W0∧w.heap.size<W0.heap.size∧g<W0.heap.size):=ι (by obtain ⟨ps1,h1,h2,h3,h4⟩:=HMade2.out; exact ⟨h4,h2.lt,HBK2.out.lt⟩);have cb:∃ y,W0.cell? ⟨w.heap.size,a.toNat,none⟩=some y:=by
  obtain ⟨ps1,h1,h2,h3,h4⟩:=HMade2.out;exact ⟨ps1[a.toNat]'(by omega),by rw [h2.cell,List.getElem?_toArray,List.getElem?_eq_getElem (by omega)]⟩
 obtain ⟨y,cb⟩:=cb;have fb:W0.frozen? ⟨w.heap.size,a.toNat,none⟩=false:=by
  obtain ⟨ps1,h1,h2,h3,h4⟩:=HMade2.out;exact h2.frozen _
 go_upto_block 0 with fail
 go_cut [10] (fun s10 wx=>s10= .string ⟨(Trie.oneOwn (p.drop c) w0).toArray⟩∧KidsIn w w.heap.size (Trie.oneKids (p.drop c) (fun r=> .leaf r w0)) wx)
 case first=>
  go_wp2_with fail
  go_region_with (go_at_call 98; refine (HSub.out _ (by first|exact HWc.out.1|exact HWc.out.1.drew)).mono ?_; rintro e w3 ⟨x,rfl,hk,hb⟩; obtain ⟨b3,rfl⟩:=hk.ptr HSN.out; have hb2:Below W0.heap.size W0 w3:=(by first|exact hb|exact hb.start); clear hb; have d1:=(hb2.cell (p:=⟨w.heap.size,a.toNat,none⟩) HWc.out.2.1).trans cb; have d2:=(hb2.frozen (p:=⟨w.heap.size,a.toNat,none⟩) HWc.out.2.1).trans fb; have d3:=(hb2.cell (p:=⟨g,2,none⟩) HWc.out.2.2).trans c2)
  all_goals go_wp2
  all_goals go_meet
  all_goals rw [Hd.out]
  all_goals first|exact ⟨rfl,(HMade2.out.next hb2).set (Nat.le_refl _) a Ha15.out _ _ hk⟩|exact ⟨rfl,((HMade2.out.next hb2).set (Nat.le_refl _) a Ha15.out _ _ hk).next (Below.refl _ _).drew⟩
 case rest=>
  obtain ⟨rfl,hK⟩:=hcut;cases q with
  |nil=>
   have HR:Hid (Trie.partedG (p.drop c) (fun r=> .leaf r w0) w0 [] v= .branch v (Trie.oneKids (p.drop c) (fun r=> .leaf r w0))):=ι rfl;obtain ⟨ps1,h1,h2,h3,h4⟩:=hK;have HBr:Hid (∀ W,Below wc.heap.size wc W→Calls Tryz.prog 99 #[v,.agg ps1.toArray] W (KnotEnd W (Trie.partedG (p.drop c) (fun r=> .leaf r w0) w0 [] v))):=
    ι (fun W hW=>by
     have hw':=HW.out.1; have hs':=HW.out.2.1; have hc':=HW.out.2.2
     rw [HR.out] at hw' hs' hc' ⊢;exact trie_branch v _ hw' hs' hc' ps1 h1 W (HTb.out.next (h4.nxt hW)) (fun i=>(h3 i).next hW))
   exact z_10
  |cons b r=>
   have hb15:b≤15:=(Trie.fit_cons'.1 Hfq.out).1;have hb16:b.toNat<16:=by rw [UInt8.le_iff_toNat_le] at hb15; simp at hb15; omega
   have hbi:(b.toNat:Int)<16:=by omega
   have hbx:0≤(b.toNat:Int):=by omega
   have Hb15:=ι hb15;clear hb15;have HR:Hid (Trie.partedG (p.drop c) (fun r=> .leaf r w0) w0 (b::r) v= .branch (Trie.oneOwn (p.drop c) w0) (Trie.setKid (Trie.oneKids (p.drop c) (fun r=> .leaf r w0)) b (.leaf r v))):=ι rfl;have HLf:Hid (∀ W,Below w.heap.size w W→Calls Tryz.prog 98 #[r,v] W (KnotEnd W (.leaf r v))):=
    ι (fun W hW=>by
     have hw':=HW.out.1; have hs':=HW.out.2.1
     rw [HR.out] at hw' hs';have hw2:=hw'.1 (Trie.ix b);have hs2:=Trie.small_kid hs' (Trie.ix b);rw [Trie.setKid_same] at hw2 hs2;exact trie_leaf r v hw2 hs2 W (HTb.out.next hW))
   have HK:=ι hK;have HWc:Hid (Below w.heap.size w wc∧w.heap.size<wc.heap.size):=ι (by obtain ⟨ps1,h1,h2,h3,h4⟩:=hK; exact ⟨h4,h2.lt⟩);clear hK;have cb:∃ y,wc.cell? ⟨w.heap.size,b.toNat,none⟩=some y:=by
    obtain ⟨ps1,h1,h2,h3,h4⟩:=HK.out;exact ⟨ps1[b.toNat]'(by omega),by rw [h2.cell,List.getElem?_toArray,List.getElem?_eq_getElem (by omega)]⟩
   obtain ⟨y,cb⟩:=cb;have fb:wc.frozen? ⟨w.heap.size,b.toNat,none⟩=false:=by
    obtain ⟨ps1,h1,h2,h3,h4⟩:=HK.out;exact h2.frozen _
   have HTl:=run_tail b r;go_upto_region 11 with fail
   go_cut [64] (fun s64 wx=>KidsIn w w.heap.size (Trie.setKid (Trie.oneKids (p.drop c) (fun r=> .leaf r w0)) b (.leaf r v)) wx)
   case first=>
    go_region_with (go_at_call 98; refine (HLf.out _ (by first|exact HWc.out.1|exact HWc.out.1.drew)).mono ?_; rintro e w3 ⟨x,rfl,hk,hb⟩; obtain ⟨b3,rfl⟩:=hk.ptr (by simp); have hb2:Below wc.heap.size wc w3:=(by first|exact hb|exact hb.start); clear hb; have d1:=(hb2.cell (p:=⟨w.heap.size,b.toNat,none⟩) HWc.out.2).trans cb; have d2:=(hb2.frozen (p:=⟨w.heap.size,b.toNat,none⟩) HWc.out.2).trans fb)
    all_goals go_wp2
    all_goals go_meet
    all_goals first|exact (HK.out.next hb2).set (Nat.le_refl _) b Hb15.out _ _ hk|exact ((HK.out.next hb2).set (Nat.le_refl _) b Hb15.out _ _ hk).next (Below.refl _ _).drew
   case rest=>
    clear cb fb HTl HK HWc;obtain ⟨ps1,h1,h2,h3,h4⟩:=hcut;rename World=>wd;have HBr:Hid (∀ W,Below wd.heap.size wd W→Calls Tryz.prog 99 #[.string ⟨(Trie.oneOwn (p.drop c) w0).toArray⟩,.agg ps1.toArray] W (KnotEnd W (Trie.partedG (p.drop c) (fun r=> .leaf r w0) w0 (b::r) v))):=
     ι (fun W hW=>by
      have hw':=HW.out.1; have hs':=HW.out.2.1; have hc':=HW.out.2.2
      rw [HR.out] at hw' hs' hc' ⊢;exact trie_branch _ _ hw' hs' hc' ps1 h1 W (HTb.out.next (h4.nxt hW)) (fun i=>(h3 i).next hW))
    exact z_10
theorem z_11 {P:Prop} (h:P:=by
 have RP:=h2.range;have SZR:(Tryz.prog.info? 134).map (·.size)=some ps1.length:=by rw [h1]; exact info_ptrs
 have HX:=ι (And.intro h1 (And.intro h2 (And.intro h3 h4)));clear h1 h2 h3 h4;go_wp2_with (first|(with_reducible refine at_load 67 ?_; refine wpList_load_mid rfl 134 _ rfl w.heap.size 0 rfl _ _ RP Tryz.underlying134 rfl SZR ?_)|(go_at_call 99; refine (HBr.out _ (Below.refl _ _)).mono ?_; rintro e w5 ⟨x,rfl,hk,hb⟩))
 exact HP.out _ _ hk (HX.out.2.2.2.nxt hb)):P:=h
theorem parted_ext (p:List UInt8) (s:Trie.T) (q v:List UInt8) (c:Nat) (hcp:c≤p.length) (hp:p.length≤1000) (a:UInt8) (o:List UInt8) (hd:p.drop c=a::o) (hfp:Nib.fit p=true) (hfq:Nib.fit q=true)
  (hw:Trie.wf (Trie.partedG (p.drop c) (fun r=>Trie.joined r s) [] q v)) (hs:Trie.small (Trie.partedG (p.drop c) (fun r=>Trie.joined r s) [] q v)) (hc:Trie.count (Trie.partedG (p.drop c) (fun r=>Trie.joined r s) [] q v)≤1000000) (hns:s≠ .nil) (hsub:Trie.wf (Trie.joined o s)∧Trie.small (Trie.joined o s)∧Trie.count s≤1000000)
  (g:Nat) (ps:List Value) (hps:ps.length=16) (w:World) (hT:Tbl w) (hbk:Blk w g 136 (knotC (.ext p s) ps).toArray) (hk0:KnotP w s (ps.getD 0 undef)):
  Calls Tryz.prog 101 #[.pointer (some ⟨g,0,none⟩),c,q,v] w (KnotEnd w (Trie.partedG (p.drop c) (fun r=>Trie.joined r s) [] q v)):=by
 have HP:Hid (∀ x w',KnotP w' (Trie.partedG (p.drop c) (fun r=>Trie.joined r s) [] q v) x→Below w.heap.size w w'→KnotEnd w (Trie.partedG (p.drop c) (fun r=>Trie.joined r s) [] q v) (.returned x) w'):=ι (fun x w' h1 h2=>⟨x,rfl,h1,h2⟩);have HW:=ι (And.intro hw (And.intro hs hc));have HTb:=ι hT;have Hfq:=ι hfq;have Hd:=ι hd;have HTd:=run_drop p c hcp;rw [hd] at HTd;have HTa:=run_tail a o;have hcq:(c:Int)≤p.length:=by omega
 have ha15:a≤15:=by
  have:=Trie.fit_drop c hfp
  rw [hd] at this;exact (Trie.fit_cons'.1 this).1
 have Ha15:=ι ha15;have ha16:a.toNat<16:=by rw [UInt8.le_iff_toNat_le] at ha15; simp at ha15; omega
 have hai:(a.toNat:Int)<16:=by omega
 have hax:0≤(a.toNat:Int):=by omega
 obtain ⟨b2,hy⟩:=hk0.ptr hns;rw [hy] at hk0;have HSub:Hid (∀ W,Below w.heap.size w W→Calls Tryz.prog 100 #[o,.pointer (some ⟨b2,0,none⟩)] W (KnotEnd W (Trie.joined o s))):=
  ι (fun W hW=>trie_joined o s hns hsub.1 hsub.2.1 hsub.2.2 _ W (hT.next hW) (hk0.next hW))
 have HSN:Hid (Trie.joined o s≠ .nil):=ι (Trie.joined_nn hns);have HBK:=ι hbk;have Hps:=ι hps;have HMade:=ι (KidsIn.made w);have HY:=ι hy;generalize KnotEnd w (Trie.partedG (p.drop c) (fun r=>Trie.joined r s) [] q v)=P at HP ⊢;clear hw hs hT hbk hps hc hd hfq hfp ha15 hsub hy hk0 hns;go_enter Tryz.func101,Tryz.ntmps101
 go_upto_region 2 with fail
 have HMade2:Hid (KidsIn w w.heap.size Trie.noKids (w.alloc (.cells #[.pointer none,.pointer none,.pointer none,.pointer none,.pointer none,.pointer none,.pointer none,.pointer none,.pointer none,.pointer none,.pointer none,.pointer none,.pointer none,.pointer none,.pointer none,.pointer none] 134))):=ι HMade.out;have HBK2:Hid (Blk (w.alloc (.cells #[.pointer none,.pointer none,.pointer none,.pointer none,.pointer none,.pointer none,.pointer none,.pointer none,.pointer none,.pointer none,.pointer none,.pointer none,.pointer none,.pointer none,.pointer none,.pointer none] 134)) g 136 (knotC (.ext p s) ps).toArray):=ι (HBK.out.alloc _);clear HMade;generalize World.alloc w _=W0 at HMade2 HBK2 ⊢;obtain ⟨⟨c0,c1,c2,_,_⟩,kr,_,_,_,_⟩:=KnotAt.of (Trie.sumsT_length _) Hps.out HBK2.out;rename_i j1 j2 j4 j5 j6 j7
 replace c0:W0.cell? ⟨g,0,none⟩=some (.int .i64 2):=c0
 replace c1:W0.cell? ⟨g,1,none⟩=some (p:Value):=c1
 have c19:W0.cell? ⟨g,19,none⟩=some (.pointer (some ⟨b2,0,none⟩)):=by
  rw [←HY.out];exact kr 0 _ (by have:=Hps.out; rw [List.getD_eq_getElem?_getD,List.getElem?_eq_getElem (show 0<ps.length by omega)]; rfl)
 clear j1 j2 j4 j5 j6 j7 kr;have HWc:Hid (Below w.heap.size w W0∧w.heap.size<W0.heap.size∧g<W0.heap.size):=ι (by obtain ⟨ps1,h1,h2,h3,h4⟩:=HMade2.out; exact ⟨h4,h2.lt,HBK2.out.lt⟩);have cb:∃ y,W0.cell? ⟨w.heap.size,a.toNat,none⟩=some y:=by
  obtain ⟨ps1,h1,h2,h3,h4⟩:=HMade2.out;exact ⟨ps1[a.toNat]'(by omega),by rw [h2.cell,List.getElem?_toArray,List.getElem?_eq_getElem (by omega)]⟩
 obtain ⟨y,cb⟩:=cb;have fb:W0.frozen? ⟨w.heap.size,a.toNat,none⟩=false:=by
  obtain ⟨ps1,h1,h2,h3,h4⟩:=HMade2.out;exact h2.frozen _
 go_upto_block 0 with fail
 go_cut [10] (fun s10 wx=>s10= .string ⟨(Trie.oneOwn (p.drop c) []).toArray⟩∧KidsIn w w.heap.size (Trie.oneKids (p.drop c) (fun r=>Trie.joined r s)) wx)
 case first=>
  go_wp2_with fail
  go_region_with (go_at_call 100; refine (HSub.out _ (by first|exact HWc.out.1|exact HWc.out.1.drew)).mono ?_; rintro e w3 ⟨x,rfl,hk,hb⟩; obtain ⟨b3,rfl⟩:=hk.ptr HSN.out; have hb2:Below W0.heap.size W0 w3:=(by first|exact hb|exact hb.start); clear hb; have d1:=(hb2.cell (p:=⟨w.heap.size,a.toNat,none⟩) HWc.out.2.1).trans cb; have d2:=(hb2.frozen (p:=⟨w.heap.size,a.toNat,none⟩) HWc.out.2.1).trans fb; have d3:=(hb2.cell (p:=⟨g,19,none⟩) HWc.out.2.2).trans c19)
  all_goals go_wp2
  all_goals go_meet
  all_goals rw [Hd.out]
  all_goals first|exact ⟨rfl,(HMade2.out.next hb2).set (Nat.le_refl _) a Ha15.out _ _ hk⟩|exact ⟨rfl,((HMade2.out.next hb2).set (Nat.le_refl _) a Ha15.out _ _ hk).next (Below.refl _ _).drew⟩
 case rest=>
  obtain ⟨rfl,hK⟩:=hcut;cases q with
  |nil=>
   have HR:Hid (Trie.partedG (p.drop c) (fun r=>Trie.joined r s) [] [] v= .branch v (Trie.oneKids (p.drop c) (fun r=>Trie.joined r s))):=ι rfl;obtain ⟨ps1,h1,h2,h3,h4⟩:=hK;have HBr:Hid (∀ W,Below wc.heap.size wc W→Calls Tryz.prog 99 #[v,.agg ps1.toArray] W (KnotEnd W (Trie.partedG (p.drop c) (fun r=>Trie.joined r s) [] [] v))):=
    ι (fun W hW=>by
     have hw':=HW.out.1; have hs':=HW.out.2.1; have hc':=HW.out.2.2
     rw [HR.out] at hw' hs' hc' ⊢;exact trie_branch v _ hw' hs' hc' ps1 h1 W (HTb.out.next (h4.nxt hW)) (fun i=>(h3 i).next hW))
   exact z_11
  |cons b r=>
   have hb15:b≤15:=(Trie.fit_cons'.1 Hfq.out).1;have hb16:b.toNat<16:=by rw [UInt8.le_iff_toNat_le] at hb15; simp at hb15; omega
   have hbi:(b.toNat:Int)<16:=by omega
   have hbx:0≤(b.toNat:Int):=by omega
   have Hb15:=ι hb15;clear hb15;have HR:Hid (Trie.partedG (p.drop c) (fun r=>Trie.joined r s) [] (b::r) v= .branch (Trie.oneOwn (p.drop c) []) (Trie.setKid (Trie.oneKids (p.drop c) (fun r=>Trie.joined r s)) b (.leaf r v))):=ι rfl;have HLf:Hid (∀ W,Below w.heap.size w W→Calls Tryz.prog 98 #[r,v] W (KnotEnd W (.leaf r v))):=
    ι (fun W hW=>by
     have hw':=HW.out.1; have hs':=HW.out.2.1
     rw [HR.out] at hw' hs';have hw2:=hw'.1 (Trie.ix b);have hs2:=Trie.small_kid hs' (Trie.ix b);rw [Trie.setKid_same] at hw2 hs2;exact trie_leaf r v hw2 hs2 W (HTb.out.next hW))
   have HK:=ι hK;have HWc:Hid (Below w.heap.size w wc∧w.heap.size<wc.heap.size):=ι (by obtain ⟨ps1,h1,h2,h3,h4⟩:=hK; exact ⟨h4,h2.lt⟩);clear hK;have cb:∃ y,wc.cell? ⟨w.heap.size,b.toNat,none⟩=some y:=by
    obtain ⟨ps1,h1,h2,h3,h4⟩:=HK.out;exact ⟨ps1[b.toNat]'(by omega),by rw [h2.cell,List.getElem?_toArray,List.getElem?_eq_getElem (by omega)]⟩
   obtain ⟨y,cb⟩:=cb;have fb:wc.frozen? ⟨w.heap.size,b.toNat,none⟩=false:=by
    obtain ⟨ps1,h1,h2,h3,h4⟩:=HK.out;exact h2.frozen _
   have HTl:=run_tail b r;go_upto_region 11 with fail
   go_cut [64] (fun s64 wx=>KidsIn w w.heap.size (Trie.setKid (Trie.oneKids (p.drop c) (fun r=>Trie.joined r s)) b (.leaf r v)) wx)
   case first=>
    go_region_with (go_at_call 98; refine (HLf.out _ (by first|exact HWc.out.1|exact HWc.out.1.drew)).mono ?_; rintro e w3 ⟨x,rfl,hk,hb⟩; obtain ⟨b3,rfl⟩:=hk.ptr (by simp); have hb2:Below wc.heap.size wc w3:=(by first|exact hb|exact hb.start); clear hb; have d1:=(hb2.cell (p:=⟨w.heap.size,b.toNat,none⟩) HWc.out.2).trans cb; have d2:=(hb2.frozen (p:=⟨w.heap.size,b.toNat,none⟩) HWc.out.2).trans fb)
    all_goals go_wp2
    all_goals go_meet
    all_goals first|exact (HK.out.next hb2).set (Nat.le_refl _) b Hb15.out _ _ hk|exact ((HK.out.next hb2).set (Nat.le_refl _) b Hb15.out _ _ hk).next (Below.refl _ _).drew
   case rest=>
    clear cb fb HTl HK HWc;obtain ⟨ps1,h1,h2,h3,h4⟩:=hcut;rename World=>wd;have HBr:Hid (∀ W,Below wd.heap.size wd W→Calls Tryz.prog 99 #[.string ⟨(Trie.oneOwn (p.drop c) []).toArray⟩,.agg ps1.toArray] W (KnotEnd W (Trie.partedG (p.drop c) (fun r=>Trie.joined r s) [] (b::r) v))):=
     ι (fun W hW=>by
      have hw':=HW.out.1; have hs':=HW.out.2.1; have hc':=HW.out.2.2
      rw [HR.out] at hw' hs' hc' ⊢;exact trie_branch _ _ hw' hs' hc' ps1 h1 W (HTb.out.next (h4.nxt hW)) (fun i=>(h3 i).next hW))
    exact z_11
end
section
open Go.RowKit Go.Instr
theorem blk_of_knot {w:World} {t:Trie.T} {x:Value} (hk:KnotP w t x) (hn:t≠ .nil):∃ b ps,x= .pointer (some ⟨b,0,none⟩)∧ps.length=16∧Blk w b 136 (knotC t ps).toArray∧∀ i:Fin 16,KnotP w (Trie.kidsT t i) (ps.getD i.val undef):=by
 rcases hk.form with ⟨h,_⟩|⟨b,ps,_,h1,h2,h3,h4⟩
 ·exact absurd h hn
 ·exact ⟨b,ps,h1,h2,h3,h4⟩
theorem KnotP.base {w W:World} {t:Trie.T} {x:Value} (h:KnotP w t x) (hb:Below w.heap.size w W):KnotP W t x:=h.next hb
theorem trie_parted (t:Trie.T) (p:List UInt8) (hpt:Trie.pathT t=p) (hkt:Trie.kindT t=1∨Trie.kindT t=2) (q v:List UInt8) (c:Nat) (hcp:c≤p.length) (hce:Trie.kindT t=2→c≠p.length) (hw0:Trie.wf t) (hs0:Trie.small t) (hc0:Trie.count t≤1000000) (hfq:Nib.fit q=true)
  (hw:Trie.wf (Trie.parted t c q v)) (hs:Trie.small (Trie.parted t c q v)) (hc:Trie.count (Trie.parted t c q v)≤1000000) (x:Value) (w:World) (hT:Tbl w) (hk:KnotP w t x):
  Calls Tryz.prog 101 #[x,.int .i64 (c:Int),.string ⟨q.toArray⟩,.string ⟨v.toArray⟩] w (KnotEnd w (Trie.parted t c q v)):=by
 have hn:t≠ .nil:=by intro e; subst e; simp [Trie.kindT] at hkt
 obtain ⟨g,ps,rfl,hps,hbk,hks⟩:=blk_of_knot hk hn;cases t with
 |nil=>exact absurd rfl hn
 |branch v0 kids=>simp [Trie.kindT] at hkt
 |leaf p' w0=>
  simp only [Trie.pathT] at hpt;subst hpt;have h1:=hs0 p' hw0.1 (by simp [Trie.look]; exact hw0.2);simp only [Trie.look,if_true] at h1;simp only [Trie.parted] at hw hs hc ⊢;cases hd:p'.drop c with
  |nil=>
   have:=parted_leaf0 p' w0 q v c hcp (by omega) hd hfq hw hs hc g ps hps w hT hbk
   rwa [hd] at this
  |cons a o=>
   have hl:=congrArg List.length hd;rw [List.length_drop,List.length_cons] at hl;have hfo:Nib.fit o=true:=by
    have:=Trie.fit_drop c hw0.1
    rw [hd] at this;exact (Trie.fit_cons'.1 this).2
   have:=parted_leaf1 p' w0 q v c hcp (by omega) a o hd hw0.1 hfq hw hs hc ⟨⟨hfo,hw0.2⟩,Trie.small_leaf (by omega) h1.2⟩ g ps hps w hT hbk
   rwa [hd] at this
 |ext p' s=>
  simp only [Trie.pathT] at hpt;subst hpt;have h1:=Trie.small_ext_path hw0 hs0;have hsn:s≠ .nil:=fun e=>by have:=hw0.2.2.1; rw [e] at this; simp [Trie.isBranch] at this
  simp only [Trie.parted] at hw hs hc ⊢;cases hd:p'.drop c with
  |nil=>
   have:=hce rfl
   have hl:=congrArg List.length hd;rw [List.length_drop,List.length_nil] at hl;omega
  |cons a o=>
   have hfo:Nib.fit o=true:=by
    have:=Trie.fit_drop c hw0.1
    rw [hd] at this;exact (Trie.fit_cons'.1 this).2
   have:=parted_ext p' s q v c hcp (by omega) a o hd hw0.1 hfq hw hs hc hsn ⟨Trie.joined_wf hfo hw0.2.2.2 hsn,Trie.small_joined_tail hd hw0.1 hsn hs0,hc0⟩ g ps hps w hT hbk (hks 0)
   rwa [hd] at this
theorem trie_put (t:Trie.T):∀ (q v:List UInt8) (x:Value) (w:World),Trie.wf t→Trie.small t→Trie.count t+1≤1000000→Nib.fit q=true→q.length≤16→v≠ []→v.length≤32→Tbl w→KnotP w t x→
  Calls Tryz.prog 57 #[x,.string ⟨q.toArray⟩,.string ⟨v.toArray⟩] w (KnotEnd w (Trie.put t q v)):=by
 induction t with
 |nil=>
  intro q v x w hw hs hc hq hl hv hvl hT hk;rcases hk.form with ⟨_,rfl⟩|⟨b,ps,h,_⟩
  ·exact put_nil q v ⟨hq,hv⟩ (Trie.small_leaf hl hvl) w hT
  ·exact absurd rfl h
 |leaf p w0=>
  intro q v x w hw hs hc hq hl hv hvl hT hk;obtain ⟨hw2,hs2⟩:=Trie.small_put hw hs hq hl hv hvl;have hc2:=Trie.count_put (.leaf p w0) q v;have h1:=hs p hw.1 (by simp [Trie.look]; exact hw.2);simp only [Trie.look,if_true] at h1;obtain ⟨g,ps,rfl,hps,hbk,hks⟩:=blk_of_knot hk (by simp);have hcl:=Nib.common_le p q;by_cases hcm:Nib.common p q=p.length∧Nib.common p q=q.length
  ·simp only [Trie.put,if_pos hcm] at hw2 hs2 ⊢;have hpq:p=q:=by
    have:=Trie.take_common p q
    rw [List.take_of_length_le (by omega),List.take_of_length_le (by omega)] at this;exact this
   subst hpq;exact put_same p w0 v (by omega) hw2 hs2 g ps hps w hT hbk
  ·simp only [Trie.put,if_neg hcm] at hw2 hs2 hc2 ⊢;have hbr:Trie.isBranch (Trie.parted (.leaf p w0) (Nib.common p q) (q.drop (Nib.common p q)) v)=true:=Trie.isBranch_partedG _ _ _ _ _;obtain ⟨hw3,hs3⟩:=Trie.of_joined_branch hbr (Trie.fit_take _ hq) hw2 hs2;rw [Trie.count_joined] at hc2;have hn3:Trie.parted (.leaf p w0) (Nib.common p q) (q.drop (Nib.common p q)) v≠ .nil:=fun e=>by rw [e] at hbr; simp [Trie.isBranch] at hbr
   have HPt:∀ W,Below w.heap.size w W→Calls Tryz.prog 101 #[.pointer (some ⟨g,0,none⟩),.int .i64 ((Nib.common p q:Nat):Int),.string ⟨(q.drop (Nib.common p q)).toArray⟩,v] W (KnotEnd W (Trie.parted (.leaf p w0) (Nib.common p q) (q.drop (Nib.common p q)) v)):=
    fun W hW=>trie_parted (.leaf p w0) p rfl (.inl rfl) _ v _ hcl.1 (by simp [Trie.kindT]) hw hs (by omega) (Trie.fit_drop _ hq) hw3 hs3 (by omega) _ W (hT.next hW) (hk.next hW)
   by_cases hcp:Nib.common p q=p.length
   ·exact put_longer (.leaf p w0) _ p q v rfl rfl (by omega) (by omega) hcp (fun e=>hcm ⟨hcp,e⟩) hn3 hw2 hs2 (by omega) g ps hps w hT hbk HPt
   ·exact put_part (.leaf p w0) _ p q v rfl (.inl rfl) (by omega) (by omega) hcp hn3 hw2 hs2 (by omega) g ps hps w hT hbk HPt
 |ext p s ih=>
  intro q v x w hw hs hc hq hl hv hvl hT hk;obtain ⟨hw2,hs2⟩:=Trie.small_put hw hs hq hl hv hvl;have hc2:=Trie.count_put (.ext p s) q v;have h1:=Trie.small_ext_path hw hs;obtain ⟨g,ps,rfl,hps,hbk,hks⟩:=blk_of_knot hk (by simp);have hcl:=Nib.common_le p q;have hsn:s≠ .nil:=fun e=>by have:=hw.2.2.1; rw [e] at this; simp [Trie.isBranch] at this
  by_cases hcp:Nib.common p q=p.length
  ·simp only [Trie.put,if_pos hcp] at hw2 hs2 hc2 ⊢;rw [Trie.count_joined] at hc2;exact put_below p q v s _ (by omega) (by omega) hcp hsn (Trie.put_nn _ _ _) hw2 hs2 (by omega) g ps hps w hT hbk (hks 0)
    (fun x W hTW hkW=>ih _ v x W hw.2.2.2 (Trie.small_ext hw.1 hs) hc (Trie.fit_drop _ hq) (by rw [List.length_drop]; omega) hv hvl hTW hkW)
  ·simp only [Trie.put,if_neg hcp] at hw2 hs2 hc2 ⊢;have hbr:Trie.isBranch (Trie.parted (.ext p s) (Nib.common p q) (q.drop (Nib.common p q)) v)=true:=Trie.isBranch_partedG _ _ _ _ _;obtain ⟨hw3,hs3⟩:=Trie.of_joined_branch hbr (Trie.fit_take _ hq) hw2 hs2;rw [Trie.count_joined] at hc2;have hn3:Trie.parted (.ext p s) (Nib.common p q) (q.drop (Nib.common p q)) v≠ .nil:=fun e=>by rw [e] at hbr; simp [Trie.isBranch] at hbr
   have HPt:∀ W,Below w.heap.size w W→Calls Tryz.prog 101 #[.pointer (some ⟨g,0,none⟩),.int .i64 ((Nib.common p q:Nat):Int),.string ⟨(q.drop (Nib.common p q)).toArray⟩,v] W (KnotEnd W (Trie.parted (.ext p s) (Nib.common p q) (q.drop (Nib.common p q)) v)):=
    fun W hW=>trie_parted (.ext p s) p rfl (.inr rfl) _ v _ hcl.1 (fun _=>hcp) hw hs (by omega) (Trie.fit_drop _ hq) hw3 hs3 (by omega) _ W (hT.next hW) (hk.next hW)
   exact put_part (.ext p s) _ p q v rfl (.inr rfl) (by omega) (by omega) hcp hn3 hw2 hs2 (by omega) g ps hps w hT hbk HPt
 |branch w0 kids ih=>
  intro q v x w hw hs hc hq hl hv hvl hT hk;obtain ⟨hw2,hs2⟩:=Trie.small_put hw hs hq hl hv hvl;have hc2:=Trie.count_put (.branch w0 kids) q v;obtain ⟨g,ps,rfl,hps,hbk,hks⟩:=blk_of_knot hk (by simp);cases q with
  |nil=>
   simp only [Trie.put] at hw2 hs2 hc2 ⊢;exact put_own w0 kids v hw2 hs2 (by omega) g ps hps w hT hbk hks
  |cons b r=>
   simp only [Trie.put] at hw2 hs2 hc2 ⊢;have hbr:=Trie.fit_cons'.1 hq;have hck:=Trie.count_kid w0 kids (Trie.ix b);exact put_kid w0 kids b r v hbr.1 (by simp at hl; omega) hw2 hs2 (by omega) g ps hps w hT hbk hks
    (fun x W hTW hkW=>ih (Trie.ix b) r v x W (hw.1 _) (Trie.small_kid hs _) (by omega) hbr.2 (by simp at hl; omega) hv hvl hTW hkW)
end
section
open Go.RowKit Go.Instr
attribute [local go_sem] ba_get ByteArray.mk_append_mk
attribute [local go_sem ↓] Go.wp_at_zero Go.wp_at_succ
namespace Trie
def nodes:T→Nat
 | .nil=>0
 | .leaf _ _=>1
 | .ext _ t=>1+nodes t
 | .branch _ kids=>1+((List.finRange 16).map fun i=>nodes (kids i)).sum
theorem nodes_kid (v:List UInt8) (kids:Fin 16→T) (i:Fin 16):nodes (kids i)<nodes (.branch v kids):=by
 have:=sum_one (fun i=>nodes (kids i)) i 0 (List.finRange 16) (List.nodup_finRange 16) (List.mem_finRange _)
 simp only [Nat.add_zero] at this;simp only [nodes];omega
end Trie
def GetEnd (w:World) (s:List UInt8) (e:Ending) (w':World):Prop:=e= .returned (s:Value)∧Below w.heap.size w w'
theorem trie_get (t:Trie.T) (q0:List UInt8) (x0:Value) (w:World) (hw:Trie.wf t) (hs:Trie.small t) (hq:Nib.fit q0=true) (hl:q0.length≤1000) (hk:KnotP w t x0):
  Calls Tryz.prog 56 #[x0,.string ⟨q0.toArray⟩] w (GetEnd w (Trie.look t q0)):=by
 have HP:Hid (∀ s w',s=Trie.look t q0→Below w.heap.size w w'→GetEnd w (Trie.look t q0) (.returned (s:Value)) w'):=ι (fun s w' h1 h2=>⟨by rw [h1],h2⟩);have HI:=ι (And.intro hw (And.intro hs (And.intro hq (And.intro hl hk))));generalize GetEnd w (Trie.look t q0)=P at HP ⊢;generalize hL:Trie.look t q0=L at *;have HL0:=ι hL;clear hL hw hs hq hl hk;go_enter Tryz.func56,Tryz.ntmps56
 go_wp2
 refine wp_loop_ghost_k (fun k a wr=>∀ Φ:Act→Prop,(∀ ⦃s2 s3 s5 s6 s7 s8 s9 s0 s1 s4 a0 a2 a3 a4 a5 a6 a7 a8 a9 b0 b1 b2 b3 b4 b5 b6 b7 b8 b9 c3 c4 c5 c6 c7 c8 c9 d0 d1 d2 d3 d4 d5 d6 d7 d8 d9 e0 e1 e2 e3 e4 e5:Value⦄ (s:Trie.T) (q:List UInt8) (x:Value),(k=Trie.nodes s∧Trie.wf s∧Trie.small s∧Nib.fit q=true∧q.length≤1000∧Trie.look s q=L∧KnotP wr s x∧Below w.heap.size w wr)→Φ {tmps:=#[x,.string ⟨q.toArray⟩,s2,s3,.string ⟨#[]⟩,s5,s6,s7,s8,s9,s0,s1,s4,a0,a2,a3,a4,a5,a6,a7,a8,a9,b0,b1,b2,b3,b4,b5,b6,b7,b8,b9,c3,c4,c5,c6,c7,c8,c9,d0,d1,d2,d3,d4,d5,d6,d7,d8,d9,e0,e1,e2,e3,e4,e5],defers:= []})→Φ a) (Trie.nodes t) ?_ ?_
 ·refine fun Φ hΦ=>hΦ (t) (q0) (x0) ?_;exact ⟨rfl,HI.out.1,HI.out.2.1,HI.out.2.2.1,HI.out.2.2.2.1,HL0.out,HI.out.2.2.2.2,Below.refl _ _⟩
 ·intro k1 a1 wr1 hI1 J1 K1 hJ1 hK1;refine hI1 (fun a=>Code.wp _ _ _ a _) ?_;clear hI1 a1;iterate 52 (intro _)
  intro s q x hrel
  show Code.wp _ _ _ _ _;obtain ⟨hkn,hw,hs,hq,hlen,hlk,hk,hb0⟩:=hrel;have Hk1:=ι hkn;have HW:=ι hw;have HS:=ι hs;have Hq:=ι hq;have HLk:=ι hlk;clear hkn hw hs hq hlk;cases s with
  |nil=>
   rcases hk.form with ⟨_,rfl⟩|⟨b,ps,h,_⟩
   ·have HB0:=ι hb0;clear hk hb0;go_wp2
    exact HP.out _ _ (by rw [←HLk.out]; rfl) HB0.out
   ·exact absurd rfl h
  |leaf p v=>
   have hp16:p.length≤16:=by
    have h1:=HS.out p HW.out.1 (by simp [Trie.look]; exact HW.out.2);simp only [Trie.look,if_true] at h1;exact h1.1
   by_cases hc:Nib.common p q<p.length
   ·have hcI:((Nib.common p q:Nat):Int)<p.length:=by omega
    have HLn:Hid (L= []):=ι (by
     rw [←HLk.out];simp only [Trie.look];rw [if_neg];intro e; subst e
     have:=Trie.common_self_append q []
     rw [List.append_nil] at this;omega)
    obtain ⟨b,ps,rfl,hps,hbk,hks⟩:=blk_of_knot hk (by simp);have hcl:=Nib.common_le p q;have HCom:Hid (∀ W,Calls Tryz.prog 97 #[.string ⟨(p).toArray⟩,.string ⟨(q).toArray⟩] W fun e w'=>e= .returned (.int .i64 ((Nib.common p q:Nat):Int))∧Below W.heap.size W w'):=ι (fun W=>nib_Common p q W (by first|omega|simp) (by omega));have HTd:=run_drop q (Nib.common p q) hcl.2;have HBK:=ι hbk;have Hps:=ι hps;have HKs:=ι hks;have HB0:=ι hb0;have c1:wr1.cell? ⟨b,1,none⟩=some (.string ⟨(p).toArray⟩):=(KnotAt.of (Trie.sumsT_length _) hps hbk).node.c1;have hcq:((Nib.common p q:Nat):Int)≤q.length:=by omega
    have HLT:=ι hlen;clear hps hbk hks hb0 hk hlen;go_upto_region 3 with (go_at_call 97; refine (HCom.out _).mono ?_; rintro e w2 ⟨rfl,hb⟩)
    clear c1;have HB2:Hid (Below w.heap.size w w2):=ι (HB0.out.nxt hb);have HBK2:=ι (HBK.out.below hb HBK.out.lt);have HKs2:=ι (fun i=>(HKs.out i).next hb);clear hb HB0 HBK HKs;obtain ⟨⟨c0,c1,c2,_,_⟩,kr,_,_,_,_⟩:=KnotAt.of (Trie.sumsT_length _) Hps.out HBK2.out;rename_i j1 j2 j4 j5 j6 j7
    replace c0:w2.cell? ⟨b,0,none⟩=some (.int .i64 1):=c0
    replace c1:w2.cell? ⟨b,1,none⟩=some (.string ⟨(p).toArray⟩):=c1
    clear j1 j2 j4 j5 j6 j7;go_wp2
    exact HP.out _ _ HLn.out.symm HB2.out
   ·have hcI:(((Nib.common p q:Nat):Int)<p.length)=False:=by simp; omega
    have hq2:q=p++q.drop (Nib.common p q):=by
     have h:=Nib.common_le p q;have e:Nib.common p q=p.length:=by omega
     have:=Trie.prefix_common.1 e
     rw [e]; exact this
    have HQP:=ι hq2;cases hd:q.drop (Nib.common p q) with
    |nil=>
     have HLn:Hid (v=L):=ι (by
      rw [←HLk.out];simp only [Trie.look];rw [hd,List.append_nil] at hq2;rw [if_pos hq2])
     have HD:=ι hd;clear hd hq2;obtain ⟨b,ps,rfl,hps,hbk,hks⟩:=blk_of_knot hk (by simp);have hcl:=Nib.common_le p q;have HCom:Hid (∀ W,Calls Tryz.prog 97 #[.string ⟨(p).toArray⟩,.string ⟨(q).toArray⟩] W fun e w'=>e= .returned (.int .i64 ((Nib.common p q:Nat):Int))∧Below W.heap.size W w'):=ι (fun W=>nib_Common p q W (by first|omega|simp) (by omega));have HTd:=run_drop q (Nib.common p q) hcl.2;have HBK:=ι hbk;have Hps:=ι hps;have HKs:=ι hks;have HB0:=ι hb0;have c1:wr1.cell? ⟨b,1,none⟩=some (.string ⟨(p).toArray⟩):=(KnotAt.of (Trie.sumsT_length _) hps hbk).node.c1;rw [HD.out] at HTd; have hcq:((Nib.common p q:Nat):Int)≤q.length:=by omega
     have HLT:=ι hlen;clear hps hbk hks hb0 hk hlen;go_upto_region 3 with (go_at_call 97; refine (HCom.out _).mono ?_; rintro e w2 ⟨rfl,hb⟩)
     clear c1;have HB2:Hid (Below w.heap.size w w2):=ι (HB0.out.nxt hb);have HBK2:=ι (HBK.out.below hb HBK.out.lt);have HKs2:=ι (fun i=>(HKs.out i).next hb);clear hb HB0 HBK HKs;obtain ⟨⟨c0,c1,c2,_,_⟩,kr,_,_,_,_⟩:=KnotAt.of (Trie.sumsT_length _) Hps.out HBK2.out;rename_i j1 j2 j4 j5 j6 j7
     replace c0:w2.cell? ⟨b,0,none⟩=some (.int .i64 1):=c0
     replace c1:w2.cell? ⟨b,1,none⟩=some (.string ⟨(p).toArray⟩):=c1
     clear j1 j2 j4 j5 j6 j7
     replace c2:w2.cell? ⟨b,2,none⟩=some (v:Value):=c2
     clear kr;go_wp2
     exact HP.out _ _ HLn.out HB2.out
    |cons bb r=>
     have HLn:Hid (L= []):=ι (by
      rw [←HLk.out];simp only [Trie.look];rw [if_neg];intro e
      have:=congrArg List.length hq2
      rw [hd,e] at this;simp at this)
     have HQ:=ι hd;clear hd hq2;obtain ⟨b,ps,rfl,hps,hbk,hks⟩:=blk_of_knot hk (by simp);have hcl:=Nib.common_le p q;have HCom:Hid (∀ W,Calls Tryz.prog 97 #[.string ⟨(p).toArray⟩,.string ⟨(q).toArray⟩] W fun e w'=>e= .returned (.int .i64 ((Nib.common p q:Nat):Int))∧Below W.heap.size W w'):=ι (fun W=>nib_Common p q W (by first|omega|simp) (by omega));have HTd:=run_drop q (Nib.common p q) hcl.2;have HBK:=ι hbk;have Hps:=ι hps;have HKs:=ι hks;have HB0:=ι hb0;have c1:wr1.cell? ⟨b,1,none⟩=some (.string ⟨(p).toArray⟩):=(KnotAt.of (Trie.sumsT_length _) hps hbk).node.c1;rw [HQ.out] at HTd; have hcq:((Nib.common p q:Nat):Int)≤q.length:=by omega
     have HLT:=ι hlen;clear hps hbk hks hb0 hk hlen;go_upto_region 3 with (go_at_call 97; refine (HCom.out _).mono ?_; rintro e w2 ⟨rfl,hb⟩)
     clear c1;have HB2:Hid (Below w.heap.size w w2):=ι (HB0.out.nxt hb);have HBK2:=ι (HBK.out.below hb HBK.out.lt);have HKs2:=ι (fun i=>(HKs.out i).next hb);clear hb HB0 HBK HKs;obtain ⟨⟨c0,c1,c2,_,_⟩,kr,_,_,_,_⟩:=KnotAt.of (Trie.sumsT_length _) Hps.out HBK2.out;rename_i j1 j2 j4 j5 j6 j7
     replace c0:w2.cell? ⟨b,0,none⟩=some (.int .i64 1):=c0
     replace c1:w2.cell? ⟨b,1,none⟩=some (.string ⟨(p).toArray⟩):=c1
     clear j1 j2 j4 j5 j6 j7;have hbb:=Trie.fit_cons'.1 (show Nib.fit (bb::r)=true by rw [←HQ.out]; exact Trie.fit_drop _ Hq.out);have hb16:bb.toNat<16:=by have:=hbb.1; rw [UInt8.le_iff_toNat_le] at this; simp at this; omega
     have hbi:(bb.toNat:Int)<16:=by omega
     have hbx:0≤(bb.toNat:Int):=by omega
     have hix:(Trie.ix bb).val=bb.toNat:=by simp [Trie.ix]; omega
     have ck:w2.cell? ⟨b,19+bb.toNat,none⟩=some (ps.getD bb.toNat undef):=by
      have:=Hps.out
      exact kr _ _ (by rw [List.getD_eq_getElem?_getD,List.getElem?_eq_getElem (show bb.toNat<ps.length by omega)]; rfl)
     have HKb:Hid (KnotP w2 (Trie.kidsT (.leaf p v) (Trie.ix bb)) (ps.getD bb.toNat undef)):=ι (by
      have:=HKs2.out (Trie.ix bb)
      rwa [hix] at this)
     have Hrl:Hid (r.length≤1000):=ι (by
      have:=congrArg List.length HQ.out
      rw [List.length_cons,List.length_drop] at this
      have:=HLT.out; omega)
     have Hbb:=ι hbb;have HTl:=run_tail bb r;clear hbb hix kr c2;generalize ps.getD bb.toNat undef=y at *;go_wp2
     go_region_held3 (fun w'=>w'.cell? ⟨b,19+bb.toNat,none⟩=some y) (first|go_keep|assumption) (fail)
     go_wp2
     refine Handed.intro (0) ?_ (hJ1 _ _ _ (fun Φ hΦ=>hΦ (.nil) (r) (y) ?_))
     ·rw [Hk1.out]; simp [Trie.nodes]
     ·refine ⟨rfl,trivial,Trie.small_nil,Hbb.out.2,Hrl.out,by rw [HLn.out]; rfl,?_,HB2.out.drew⟩
      have:=HKb.out.next (Below.refl _ _).drew
      exact this
  |ext p s=>
   have hp16:=Trie.small_ext_path HW.out HS.out;by_cases hc:Nib.common p q<p.length
   ·have hcI:((Nib.common p q:Nat):Int)<p.length:=by omega
    have HLn:Hid (L= []):=ι (by
     rw [←HLk.out];simp only [Trie.look];rw [if_neg (by omega)])
    obtain ⟨b,ps,rfl,hps,hbk,hks⟩:=blk_of_knot hk (by simp);have hcl:=Nib.common_le p q;have HCom:Hid (∀ W,Calls Tryz.prog 97 #[.string ⟨(p).toArray⟩,.string ⟨(q).toArray⟩] W fun e w'=>e= .returned (.int .i64 ((Nib.common p q:Nat):Int))∧Below W.heap.size W w'):=ι (fun W=>nib_Common p q W (by first|omega|simp) (by omega));have HTd:=run_drop q (Nib.common p q) hcl.2;have HBK:=ι hbk;have Hps:=ι hps;have HKs:=ι hks;have HB0:=ι hb0;have c1:wr1.cell? ⟨b,1,none⟩=some (.string ⟨(p).toArray⟩):=(KnotAt.of (Trie.sumsT_length _) hps hbk).node.c1;have hcq:((Nib.common p q:Nat):Int)≤q.length:=by omega
    have HLT:=ι hlen;clear hps hbk hks hb0 hk hlen;go_upto_region 3 with (go_at_call 97; refine (HCom.out _).mono ?_; rintro e w2 ⟨rfl,hb⟩)
    clear c1;have HB2:Hid (Below w.heap.size w w2):=ι (HB0.out.nxt hb);have HBK2:=ι (HBK.out.below hb HBK.out.lt);have HKs2:=ι (fun i=>(HKs.out i).next hb);clear hb HB0 HBK HKs;obtain ⟨⟨c0,c1,c2,_,_⟩,kr,_,_,_,_⟩:=KnotAt.of (Trie.sumsT_length _) Hps.out HBK2.out;rename_i j1 j2 j4 j5 j6 j7
    replace c0:w2.cell? ⟨b,0,none⟩=some (.int .i64 2):=c0
    replace c1:w2.cell? ⟨b,1,none⟩=some (.string ⟨(p).toArray⟩):=c1
    clear j1 j2 j4 j5 j6 j7;go_wp2
    exact HP.out _ _ HLn.out.symm HB2.out
   ·have hcI:(((Nib.common p q:Nat):Int)<p.length)=False:=by simp; omega
    have HLn:Hid (Trie.look s (q.drop (Nib.common p q))=L):=ι (by
     have h:=Nib.common_le p q;have e:Nib.common p q=p.length:=by omega
     rw [←HLk.out];simp only [Trie.look];rw [if_pos e,e])
    have HQd:Hid (Nib.fit (q.drop (Nib.common p q))=true∧(q.drop (Nib.common p q)).length≤1000):=ι ⟨Trie.fit_drop _ Hq.out,by rw [List.length_drop]; omega⟩;obtain ⟨b,ps,rfl,hps,hbk,hks⟩:=blk_of_knot hk (by simp);have hcl:=Nib.common_le p q;have HCom:Hid (∀ W,Calls Tryz.prog 97 #[.string ⟨(p).toArray⟩,.string ⟨(q).toArray⟩] W fun e w'=>e= .returned (.int .i64 ((Nib.common p q:Nat):Int))∧Below W.heap.size W w'):=ι (fun W=>nib_Common p q W (by first|omega|simp) (by omega));have HTd:=run_drop q (Nib.common p q) hcl.2;have HBK:=ι hbk;have Hps:=ι hps;have HKs:=ι hks;have HB0:=ι hb0;have c1:wr1.cell? ⟨b,1,none⟩=some (.string ⟨(p).toArray⟩):=(KnotAt.of (Trie.sumsT_length _) hps hbk).node.c1;have hcq:((Nib.common p q:Nat):Int)≤q.length:=by omega
    have HLT:=ι hlen;clear hps hbk hks hb0 hk hlen;go_upto_region 3 with (go_at_call 97; refine (HCom.out _).mono ?_; rintro e w2 ⟨rfl,hb⟩)
    clear c1;have HB2:Hid (Below w.heap.size w w2):=ι (HB0.out.nxt hb);have HBK2:=ι (HBK.out.below hb HBK.out.lt);have HKs2:=ι (fun i=>(HKs.out i).next hb);clear hb HB0 HBK HKs;obtain ⟨⟨c0,c1,c2,_,_⟩,kr,_,_,_,_⟩:=KnotAt.of (Trie.sumsT_length _) Hps.out HBK2.out;rename_i j1 j2 j4 j5 j6 j7
    replace c0:w2.cell? ⟨b,0,none⟩=some (.int .i64 2):=c0
    replace c1:w2.cell? ⟨b,1,none⟩=some (.string ⟨(p).toArray⟩):=c1
    clear j1 j2 j4 j5 j6 j7;have ck:w2.cell? ⟨b,19,none⟩=some (ps.getD 0 undef):=by
     have:=Hps.out
     exact kr 0 _ (by rw [List.getD_eq_getElem?_getD,List.getElem?_eq_getElem (show 0<ps.length by omega)]; rfl)
    have HKb:Hid (KnotP w2 s (ps.getD 0 undef)):=ι (HKs2.out 0);clear kr c2;generalize ps.getD 0 undef=y at *;generalize q.drop (Nib.common p q)=qd at *;generalize Nib.common p q=c at *;go_wp2
    refine Handed.intro (Trie.nodes s) ?_ (hJ1 _ _ _ (fun Φ hΦ=>hΦ (s) (qd) (y) ?_))
    ·rw [Hk1.out]; simp only [Trie.nodes]; omega
    ·exact ⟨rfl,HW.out.2.2.2,Trie.small_ext HW.out.1 HS.out,HQd.out.1,HQd.out.2,HLn.out,HKb.out,HB2.out⟩
  |branch v kids=>
   have hcI:(0:Int)=0:=rfl;cases q with
   |nil=>
    have HLn:Hid (v=L):=ι (by rw [←HLk.out]; rfl);obtain ⟨b,ps,rfl,hps,hbk,hks⟩:=blk_of_knot hk (by simp);have hcl:=Nib.common_le [] [];have HCom:Hid (∀ W,Calls Tryz.prog 97 #[.string ⟨([]).toArray⟩,.string ⟨([]).toArray⟩] W fun e w'=>e= .returned (.int .i64 0)∧Below W.heap.size W w'):=ι (fun W=>nib_Common [] [] W (by first|omega|simp) (by omega));have HTd:=run_drop [] (Nib.common [] []) hcl.2;have HBK:=ι hbk;have Hps:=ι hps;have HKs:=ι hks;have HB0:=ι hb0;have c1:wr1.cell? ⟨b,1,none⟩=some (.string ⟨([]).toArray⟩):=(KnotAt.of (Trie.sumsT_length _) hps hbk).node.c1
    replace HTd:∀ w,(Instr.slice 9 (.string ⟨([]).toArray⟩) (some (.int .i64 0)) none none).run Tryz.prog w= .ok (.string ⟨([]).toArray⟩) w:=HTd
    have HLT:=ι hlen;clear hps hbk hks hb0 hk hlen;go_upto_region 3 with (go_at_call 97; refine (HCom.out _).mono ?_; rintro e w2 ⟨rfl,hb⟩)
    clear c1;have HB2:Hid (Below w.heap.size w w2):=ι (HB0.out.nxt hb);have HBK2:=ι (HBK.out.below hb HBK.out.lt);have HKs2:=ι (fun i=>(HKs.out i).next hb);clear hb HB0 HBK HKs;obtain ⟨⟨c0,c1,c2,_,_⟩,kr,_,_,_,_⟩:=KnotAt.of (Trie.sumsT_length _) Hps.out HBK2.out;rename_i j1 j2 j4 j5 j6 j7
    replace c0:w2.cell? ⟨b,0,none⟩=some (.int .i64 3):=c0
    replace c1:w2.cell? ⟨b,1,none⟩=some (.string ⟨([]).toArray⟩):=c1
    clear j1 j2 j4 j5 j6 j7
    replace c2:w2.cell? ⟨b,2,none⟩=some (v:Value):=c2
    clear kr;go_wp2
    exact HP.out _ _ HLn.out HB2.out
   |cons bb r=>
     have HLn:Hid (Trie.look (kids (Trie.ix bb)) r=L):=ι (by rw [←HLk.out]; rfl);have HQ:Hid ((bb::r).drop (Nib.common [] (bb::r))=bb::r):=ι rfl;obtain ⟨b,ps,rfl,hps,hbk,hks⟩:=blk_of_knot hk (by simp);have hcl:=Nib.common_le [] (bb::r);have HCom:Hid (∀ W,Calls Tryz.prog 97 #[.string ⟨([]).toArray⟩,.string ⟨((bb::r)).toArray⟩] W fun e w'=>e= .returned (.int .i64 0)∧Below W.heap.size W w'):=ι (fun W=>nib_Common [] (bb::r) W (by first|omega|simp) (by omega));have HTd:=run_drop (bb::r) (Nib.common [] (bb::r)) hcl.2;have HBK:=ι hbk;have Hps:=ι hps;have HKs:=ι hks;have HB0:=ι hb0;have c1:wr1.cell? ⟨b,1,none⟩=some (.string ⟨([]).toArray⟩):=(KnotAt.of (Trie.sumsT_length _) hps hbk).node.c1
     replace HTd:∀ w,(Instr.slice 9 (.string ⟨((bb::r)).toArray⟩) (some (.int .i64 0)) none none).run Tryz.prog w= .ok (.string ⟨((bb::r)).toArray⟩) w:=HTd
     have HLT:=ι hlen;clear hps hbk hks hb0 hk hlen;go_upto_region 3 with (go_at_call 97; refine (HCom.out _).mono ?_; rintro e w2 ⟨rfl,hb⟩)
     clear c1;have HB2:Hid (Below w.heap.size w w2):=ι (HB0.out.nxt hb);have HBK2:=ι (HBK.out.below hb HBK.out.lt);have HKs2:=ι (fun i=>(HKs.out i).next hb);clear hb HB0 HBK HKs;obtain ⟨⟨c0,c1,c2,_,_⟩,kr,_,_,_,_⟩:=KnotAt.of (Trie.sumsT_length _) Hps.out HBK2.out;rename_i j1 j2 j4 j5 j6 j7
     replace c0:w2.cell? ⟨b,0,none⟩=some (.int .i64 3):=c0
     replace c1:w2.cell? ⟨b,1,none⟩=some (.string ⟨([]).toArray⟩):=c1
     clear j1 j2 j4 j5 j6 j7;have hbb:=Trie.fit_cons'.1 (show Nib.fit (bb::r)=true by rw [←HQ.out]; exact Trie.fit_drop _ Hq.out);have hb16:bb.toNat<16:=by have:=hbb.1; rw [UInt8.le_iff_toNat_le] at this; simp at this; omega
     have hbi:(bb.toNat:Int)<16:=by omega
     have hbx:0≤(bb.toNat:Int):=by omega
     have hix:(Trie.ix bb).val=bb.toNat:=by simp [Trie.ix]; omega
     have ck:w2.cell? ⟨b,19+bb.toNat,none⟩=some (ps.getD bb.toNat undef):=by
      have:=Hps.out
      exact kr _ _ (by rw [List.getD_eq_getElem?_getD,List.getElem?_eq_getElem (show bb.toNat<ps.length by omega)]; rfl)
     have HKb:Hid (KnotP w2 (Trie.kidsT (.branch v kids) (Trie.ix bb)) (ps.getD bb.toNat undef)):=ι (by
      have:=HKs2.out (Trie.ix bb)
      rwa [hix] at this)
     have Hrl:Hid (r.length≤1000):=ι (by
      have:=congrArg List.length HQ.out
      rw [List.length_cons,List.length_drop] at this
      have:=HLT.out; omega)
     have Hbb:=ι hbb;have HTl:=run_tail bb r;clear hbb hix kr c2;generalize ps.getD bb.toNat undef=y at *;go_wp2
     go_region_held3 (fun w'=>w'.cell? ⟨b,19+bb.toNat,none⟩=some y) (first|go_keep|assumption) (fail)
     go_wp2
     refine Handed.intro (Trie.nodes (kids (Trie.ix bb))) ?_ (hJ1 _ _ _ (fun Φ hΦ=>hΦ (kids (Trie.ix bb)) (r) (y) ?_))
     ·rw [Hk1.out]; exact Trie.nodes_kid _ _ _
     ·refine ⟨rfl,HW.out.1 _,Trie.small_kid HS.out _,Hbb.out.2,Hrl.out,HLn.out,?_,HB2.out.drew⟩
      have:=HKb.out.next (Below.refl _ _).drew
      exact this
namespace Trie
def keyedW (key:List UInt8):Bool:= !key.isEmpty && decide (key.length≤8)
structure Good (t:T):Prop where
 wf:wf t
 small:small t
 even:∀ q,Nib.fit q=true→look t q≠ []→q.length % 2=0∧q≠ []
theorem Good.nil:Good .nil:=⟨trivial,small_nil,fun q _ h=>absurd rfl h⟩
def putCode (key value:List UInt8):Nat:=if keyedW key then (if value.isEmpty||decide (32<value.length) then 2 else 0) else 1
end Trie
def TrieP (w:World) (t:Trie.T) (v:Value):Prop:=Trie.Good t∧∃ b x,v= .pointer (some ⟨b,0,none⟩)∧Blk w b 115 #[x]∧KnotP w t x
theorem TrieP.next {w w1:World} {t:Trie.T} {v:Value} (h:TrieP w t v) (hb:Below w.heap.size w w1):TrieP w1 t v:=by
 obtain ⟨h1,b,x,h2,h3,h4⟩:=h;exact ⟨h1,b,x,h2,h3.below hb h3.lt,h4.next hb⟩
theorem trie_keyed (key:List UInt8) (hl:key.length≤9223372036854775807) (w:World):
  Calls Tryz.prog 53 #[key] w fun e w'=>e= .returned (.bool (Trie.keyedW key))∧w=w':=by
 have HP:Hid (∀ b w',Trie.keyedW key=b→w=w'→(fun e w'=>e=Ending.returned (.bool (Trie.keyedW key))∧w=w') (Ending.returned (.bool b)) w'):=ι (fun b w' h1 h2=>⟨by rw [h1],h2⟩);generalize (fun e w'=>e=Ending.returned (.bool (Trie.keyedW key))∧w=w')=P at HP ⊢;by_cases h0:key= []
 ·subst h0;go_enter Tryz.func53,Tryz.ntmps53
  go_wp2
  exact HP.out _ _ rfl rfl
 ·have ne1:(key.toArray=#[])=False:=by simp [h0]
  have ne2:key.isEmpty=false:=by cases key<;>simp_all
  by_cases h8:key.length≤8
  ·have h8':(key.length:Int)≤8:=by omega
   go_enter Tryz.func53,Tryz.ntmps53
   go_wp2
   exact HP.out _ _ (by simp [Trie.keyedW,ne2,h8]) rfl
  ·have h8':((key.length:Int)≤8)=False:=by simp; omega
   go_enter Tryz.func53,Tryz.ntmps53
   go_wp2
   exact HP.out _ _ (by simp [Trie.keyedW,ne2,h8]) rfl
def NewEnd (w:World) (t:Trie.T) (e:Ending) (w':World):Prop:=∃ v,e= .returned v∧TrieP w' t v∧Below w.heap.size w w'
theorem trie_New (w:World):Calls Tryz.prog 11 #[] w (NewEnd w .nil):=by
 have HP:Hid (∀ b w',Blk w' b 115 #[.pointer none]→Below w.heap.size w w'→NewEnd w .nil (.returned (.pointer (some ⟨b,0,none⟩))) w'):=ι (fun b w' h1 h2=>⟨_,rfl,⟨Trie.Good.nil,b,_,rfl,h1,.nil⟩,h2⟩);generalize NewEnd w .nil=P at HP ⊢;go_enter Tryz.func11,Tryz.ntmps11
 go_wp2
 exact HP.out _ _ (Blk.new _ _ _) (by go_grown)
theorem trie_Len (w:World) (t:Trie.T) (v:Value) (h:TrieP w t v):Calls Tryz.prog 55 #[v] w fun e w'=>e= .returned (.int .i64 (Trie.count t:Int))∧w=w':=by
 obtain ⟨hg,b,x,rfl,hbk,hk⟩:=h;have HP:Hid (∀ n w',(Trie.count t:Int)=n→w=w'→(fun e w'=>e=Ending.returned (.int .i64 (Trie.count t:Int))∧w=w') (Ending.returned (.int .i64 n)) w'):=ι (fun b w' h1 h2=>⟨by rw [h1],h2⟩);have c0:w.cell? ⟨b,0,none⟩=some x:=hbk.cell 0;generalize (fun e w'=>e=Ending.returned (.int .i64 (Trie.count t:Int))∧w=w')=P at HP ⊢;rcases hk.form with ⟨rfl,rfl⟩|⟨b2,ps,hn,rfl,hps,hbk2,_⟩
 ·clear hbk hk hg;go_enter Tryz.func55,Tryz.ntmps55
  go_wp2
  exact HP.out _ _ rfl rfl
 ·have c37:=(KnotAt.of (Trie.sumsT_length _) hps hbk2).c37;clear hbk hk hg hbk2;go_enter Tryz.func55,Tryz.ntmps55
  go_wp2
  exact HP.out _ _ rfl rfl
theorem trie_Root (w:World) (t:Trie.T) (v:Value) (h:TrieP w t v):Calls Tryz.prog 20 #[v] w fun e w'=>e= .returned (.string ⟨(Trie.sumT t).toArray⟩)∧w=w':=by
 obtain ⟨hg,b,x,rfl,hbk,hk⟩:=h;have HP:Hid (∀ n w',Trie.sumT t=n→w=w'→(fun e w'=>e=Ending.returned (.string ⟨(Trie.sumT t).toArray⟩)∧w=w') (Ending.returned (n:Value)) w'):=ι (fun b w' h1 h2=>⟨by rw [h1],h2⟩);have c0:w.cell? ⟨b,0,none⟩=some x:=hbk.cell 0;generalize (fun e w'=>e=Ending.returned (.string ⟨(Trie.sumT t).toArray⟩)∧w=w')=P at HP ⊢;rcases hk.form with ⟨rfl,rfl⟩|⟨b2,ps,hn,rfl,hps,hbk2,_⟩
 ·clear hbk hk hg;go_enter Tryz.func20,Tryz.ntmps20
  go_wp2
  exact HP.out _ _ rfl rfl
 ·have c36:=(KnotAt.of (Trie.sumsT_length _) hps hbk2).c36;clear hbk hk hg hbk2;go_enter Tryz.func20,Tryz.ntmps20
  go_wp2
  exact HP.out _ _ rfl rfl
namespace Trie
def getW (t:T) (key:List UInt8):List UInt8 × Nat:=
 if keyedW key then (if (look t (Nib.of key)).isEmpty then ([],5) else (look t (Nib.of key),0)) else ([],1)
theorem keyed_len {key:List UInt8} (h:keyedW key=true):key.length≤8∧key≠ []:=by
 simp [keyedW] at h
 exact ⟨h.2,h.1⟩
end Trie
def TGetEnd (w:World) (r:List UInt8 × Nat) (e:Ending) (w':World):Prop:=e= .returned (.tuple #[r.1,r.2])∧Below w.heap.size w w'
theorem z_12 {P:Prop} (h:P:=by
 clear h0;go_enter Tryz.func21,Tryz.ntmps21
 go_upto_region 3 with (go_at_call 53; refine (HKy.out _).mono ?_; rintro e w1 ⟨rfl,rfl⟩)
 go_region_held3 (fun w'=>w'.cell? ⟨b,0,none⟩=some (.pointer (some ⟨b2,0,none⟩))) (first|go_keep|assumption) (first|(go_at_call 54; refine (HOf.out _).mono ?_; rintro e w2 ⟨rfl,hb⟩; have hb2:Below w.heap.size w w2:=(by first|exact hb|exact hb.start); clear hb; have d1:=(hb2.cell (p:=⟨b,0,none⟩) HLt.out).trans c0)|(go_at_call 56; refine (HGt.out _ (by first|exact hb2|exact hb2.drew)).mono ?_; rintro e w3 ⟨rfl,hb⟩; have hb3:Below w2.heap.size w2 w3:=(by first|exact hb|exact hb.start); clear hb; have d2:=(hb3.cell (p:=⟨b,0,none⟩) (Nat.lt_of_lt_of_le HLt.out hb2.size)).trans d1))
 go_wp2
 exact HP.out _ _ HR.out (hb2.nxt hb3)):P:=h
theorem z_13 {P:Prop} (h:P:=by
 clear h0;go_enter Tryz.func21,Tryz.ntmps21
 go_upto_region 3 with (go_at_call 53; refine (HKy.out _).mono ?_; rintro e w1 ⟨rfl,rfl⟩)
 go_region_held3 (fun w'=>w'.cell? ⟨b,0,none⟩=some (.pointer none)) (first|go_keep|assumption) (first|(go_at_call 54; refine (HOf.out _).mono ?_; rintro e w2 ⟨rfl,hb⟩; have hb2:Below w.heap.size w w2:=(by first|exact hb|exact hb.start); clear hb; have d1:=(hb2.cell (p:=⟨b,0,none⟩) HLt.out).trans c0)|(go_at_call 56; refine (HGt.out _ (by first|exact hb2|exact hb2.drew)).mono ?_; rintro e w3 ⟨rfl,hb⟩; have hb3:Below w2.heap.size w2 w3:=(by first|exact hb|exact hb.start); clear hb; have d2:=(hb3.cell (p:=⟨b,0,none⟩) (Nat.lt_of_lt_of_le HLt.out hb2.size)).trans d1))
 go_wp2
 exact HP.out _ _ HR.out (hb2.nxt hb3)):P:=h
theorem trie_Get (w:World) (t:Trie.T) (v:Value) (h:TrieP w t v) (key:List UInt8) (hl:key.length≤9223372036854775807):
  Calls Tryz.prog 21 #[v,.string ⟨key.toArray⟩] w (TGetEnd w (Trie.getW t key)):=by
 obtain ⟨hg,b,x,rfl,hbk,hk⟩:=h;have HP:Hid (∀ r w',Trie.getW t key=r→Below w.heap.size w w'→TGetEnd w (Trie.getW t key) (.returned (.tuple #[r.1,r.2])) w'):=ι (fun b w' h1 h2=>⟨by rw [h1],h2⟩);have c0:w.cell? ⟨b,0,none⟩=some x:=hbk.cell 0;have HLt:=ι hbk.lt;generalize TGetEnd w (Trie.getW t key)=P at HP ⊢;cases hkey:Trie.keyedW key with
 |false=>
  have HKy:Hid (∀ W,Calls Tryz.prog 53 #[key] W fun e w'=>e= .returned (.bool false)∧W=w'):=ι (fun W=>by have:=trie_keyed key hl W; rwa [hkey] at this);have HR:Hid (Trie.getW t key=([],1)):=ι (by simp [Trie.getW,hkey]);clear hbk hk hg hkey;go_enter Tryz.func21,Tryz.ntmps21
  go_wp2_with (go_at_call 53; refine (HKy.out _).mono ?_; rintro e w1 ⟨rfl,rfl⟩)
  exact HP.out _ _ HR.out (Below.refl _ _)
 |true=>
  have HKy:Hid (∀ W,Calls Tryz.prog 53 #[key] W fun e w'=>e= .returned (.bool true)∧W=w'):=ι (fun W=>by have:=trie_keyed key hl W; rwa [hkey] at this);have hk8:=(Trie.keyed_len hkey).1;have HOf:Hid (∀ W,Calls Tryz.prog 54 #[key] W fun e w'=>e= .returned (.string ⟨(Nib.of key).toArray⟩)∧Below W.heap.size W w'):=ι (fun W=>nib_Of key W (by omega));obtain ⟨hx⟩:Nonempty (x= .pointer none∨∃ b2,x= .pointer (some ⟨b2,0,none⟩)):=⟨by rcases hk.form with ⟨_,h⟩|⟨b2,_,_,h,_⟩; exact .inl h; exact .inr ⟨b2,h⟩⟩
  rcases hx with rfl|⟨b2,rfl⟩
  ·have HGt:Hid (∀ W,Below w.heap.size w W→Calls Tryz.prog 56 #[(.pointer none),.string ⟨(Nib.of key).toArray⟩] W (GetEnd W (Trie.look t (Nib.of key)))):=ι (fun W hW=>trie_get t (Nib.of key) _ W hg.wf hg.small (Nib.fit_of key) (by rw [Nib.of_length]; omega) (hk.next hW));clear hk hg hbk;by_cases h0:Trie.look t (Nib.of key)= []
   ·have HR:Hid (Trie.getW t key=([],5)):=ι (by simp [Trie.getW,hkey,h0]);rw [h0] at HGt;exact z_13
   ·have HR:Hid (Trie.getW t key=(Trie.look t (Nib.of key),0)):=ι (by simp [Trie.getW,hkey,h0]);have ne1:((Trie.look t (Nib.of key)).toArray=#[])=False:=by simp [h0]
    have ne2:(Trie.look t (Nib.of key)).isEmpty=false:=by simp [h0]
    generalize Trie.look t (Nib.of key)=val at *;exact z_13
  ·have HGt:Hid (∀ W,Below w.heap.size w W→Calls Tryz.prog 56 #[(.pointer (some ⟨b2,0,none⟩)),.string ⟨(Nib.of key).toArray⟩] W (GetEnd W (Trie.look t (Nib.of key)))):=ι (fun W hW=>trie_get t (Nib.of key) _ W hg.wf hg.small (Nib.fit_of key) (by rw [Nib.of_length]; omega) (hk.next hW));clear hk hg hbk;by_cases h0:Trie.look t (Nib.of key)= []
   ·have HR:Hid (Trie.getW t key=([],5)):=ι (by simp [Trie.getW,hkey,h0]);rw [h0] at HGt;exact z_12
   ·have HR:Hid (Trie.getW t key=(Trie.look t (Nib.of key),0)):=ι (by simp [Trie.getW,hkey,h0]);have ne1:((Trie.look t (Nib.of key)).toArray=#[])=False:=by simp [h0]
    have ne2:(Trie.look t (Nib.of key)).isEmpty=false:=by simp [h0]
    generalize Trie.look t (Nib.of key)=val at *;exact z_12
end
end Go.Proofs.YtnelhjfjkkdoaaaGreatDoor