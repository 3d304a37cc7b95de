import Derived.Test.YtnelhjfjkkdoaaaGreatDoorK16
set_option linter.unusedSimpArgs false
set_option linter.unusedVariables false
set_option maxHeartbeats 4000000
set_option maxRecDepth 100000
namespace Go.Proofs.YtnelhjfjkkdoaaaGreatDoor
section
open Go.RowKit Go.Instr
attribute [local go_sem] ba_get ByteArray.mk_append_mk
attribute [local go_sem ↓] Go.wp_at_zero Go.wp_at_succ
theorem z_15 {P:Prop} (h:P:=by
 have hKI:=hcut;clear hcut HCp2 HDel HWc fb cb Hyk HTl;go_upto_region 10 with fail
 have HKI:=ι hKI;clear hKI;obtain ⟨ps1,k1,k2,k3,k4⟩:=HKI.out;have HX:=ι (And.intro k1 (And.intro k2 (And.intro k3 k4)));have RP:=k2.range;have SZQ:(Tryz.prog.info? 134).map (·.size)=some ps1.length:=by rw [k1]; exact info_ptrs
 clear k1 k2 k3 k4;go_wp2_with (with_reducible refine at_load 66 ?_; refine wpList_load_mid rfl 134 _ rfl w.heap.size 0 rfl _ _ RP Tryz.underlying134 rfl SZQ ?_)
 refine del_loop (Trie.setKid kids b n) ps1 HX.out.1 wc _ (fun i=>HX.out.2.2.1 i) _ w.heap.size _ ?_ _ _ _ _ _ _ _ _ _ _ _ _ _ _ _ _ _ _ _ _ _ _ _ _ _ _ _ _ _ _ _ _ _ _ _ _ _ _ _ _ _ _ _ _ _ _ _ _ _ _ _ _ _ _ _ _ _ _ _ _ _ _ _ _ _ _ _ _ _ _ _ _ _ _ _ _ _ _ _ _ _ _ _ _ _ _ _ _ _ _ _ _ _ _;intro s0 s1 s2 s3 s4 s9 s10 s11 s12 s13 s14 s15 s16 s17 s18 s19 s20 s21 s22 s23 s24 s25 s26 s27 s28 s29 s30 s31 s32 s33 s34 s35 s36 s37 s38 s39 s40 s41 s42 s43 s44 s45 s46 s47 s48 s49 s50 s51 s52 s53 s54 s55 s56 s57 s58 s59 s60 s61 s62 s63 s64 s65 s66 s67 s68 s69 s70 s71 s72 s73 s74 s75 s76 s77 s78 s79 s80 s81 s82 s83 s84 s85 s86 s87 s88 s89 s90 s91 s92 s93 s94 s95 s96 s97 s98 s99 m l hm hl;have Hm:=ι hm;have Hl:=ι hl;have hm16:m≤16:=by rw [hm]; unfold Trie.many; have:=List.length_filter_le (fun i=> !Trie.isNil (((Trie.setKid kids b n)) i)) (List.finRange 16); rw [List.length_finRange] at this; exact this
 have hl16:l<16:=by rw [hl]; exact (Trie.lastKid ((Trie.setKid kids b n))).isLt
 clear hm hl;by_cases m0:m=0
 ·have HR:Hid (Trie.shrunk v0 ((Trie.setKid kids b n))= .leaf [] v0):=ι (by unfold Trie.shrunk; rw [if_pos (by rw [←Hm.out]; exact m0)]);subst m0;have HLf:Hid (∀ W,Below w.heap.size w W→Calls Tryz.prog 98 #[ε,.string ⟨(v0).toArray⟩] W (KnotEnd W (Trie.shrunk v0 ((Trie.setKid kids b n))))):=ι (fun W hW=>by
   have h1:=HW.out.1; have h2:=HW.out.2.1
   rw [HR.out] at h1 h2 ⊢;exact trie_leaf [] v0 h1 h2 W (HTb.out.next hW))
  clear RP SZQ;go_wp2_with (go_at_call 98; refine (HLf.out _ HX.out.2.2.2).mono ?_; rintro e w5 ⟨x,rfl,hk,hb⟩)
  exact HP.out _ _ hk (HX.out.2.2.2.nxt hb)
 ·have em0:((m:Int)==0)=false:=by rw [beq_eq_false_iff_ne]; omega
  by_cases m1:m=1∧v0= []
  ·obtain ⟨m1,hvv⟩:=m1;have HR:Hid (Trie.shrunk v0 ((Trie.setKid kids b n))=Trie.joined [UInt8.ofNat (Trie.lastKid ((Trie.setKid kids b n))).val] (((Trie.setKid kids b n)) (Trie.lastKid ((Trie.setKid kids b n))))):=ι (by unfold Trie.shrunk; rw [if_neg (by rw [←Hm.out]; exact m0),if_pos ⟨by rw [←Hm.out]; exact m1,hvv⟩]);have hone:=Trie.lastKid_one (show Trie.many ((Trie.setKid kids b n))=1 by rw [←Hm.out]; exact m1);have hln:((Trie.setKid kids b n)) (Trie.lastKid ((Trie.setKid kids b n)))≠ .nil:=fun e=>by have:=hone.1; rw [e] at this; simp [Trie.isNil] at this
   have hkl:=HX.out.2.2.1 (Trie.lastKid ((Trie.setKid kids b n)));rw [←Hl.out] at hkl;obtain ⟨b2,hy⟩:=hkl.ptr hln;rw [hy] at hkl;have cl:wc.cell? ⟨w.heap.size,l,none⟩=some (.pointer (some ⟨b2,0,none⟩)):=by
    have h2:=HX.out.2.1.cell l;have h16:=HX.out.1;rw [h2,←hy,List.getD_eq_getElem?_getD,List.getElem?_toArray,List.getElem?_eq_getElem (by omega)];rfl
   have HJ:Hid (∀ W,Below wc.heap.size wc W→Calls Tryz.prog 100 #[.string ⟨#[UInt8.ofNat l]⟩,.pointer (some ⟨b2,0,none⟩)] W (KnotEnd W (Trie.shrunk v0 ((Trie.setKid kids b n))))):=ι (fun W hW=>by
    have h1:=HW.out.1; have h2:=HW.out.2.1; have h3:=HW.out.2.2
    rw [HR.out] at h1 h2 h3 ⊢;rw [Trie.count_joined] at h3
    have:=trie_joined [UInt8.ofNat (Trie.lastKid ((Trie.setKid kids b n))).val] _ hln h1 h2 h3 _ W (HTb.out.next (HX.out.2.2.2.nxt hW)) (hkl.next hW)
    rw [←Hl.out] at this;rw [←Hl.out];exact this)
   have HLt:Hid (w.heap.size<wc.heap.size):=ι HX.out.2.1.lt;have Hv0:=ι hvv;subst m1;have hli:(l:Int)<16:=by omega
   have hlx:(0:Int)≤l:=by omega
   have cv:=conv1d wc (l:Int) hlx (by omega);have cv2:=conv1 wc (l:Int) hlx (by omega);rw [show UInt8.ofNat ((l:Int)).toNat=UInt8.ofNat l by congr 1] at cv cv2;clear RP SZQ hkl hy hone hln m0;have ev0:v0.toArray=#[]:=(by rw [Hv0.out]); have ev1:v0.isEmpty=true:=(by rw [Hv0.out]; rfl); clear hvv
   have ew:IntKind.u8.wrap (l:Int)=(l:Int):=IntWalk.u8_in _ (by omega);rw [←ew] at cv cv2;clear ew;have hal:∀ o:Obj,(wc.alloc o).drew.cell? ⟨w.heap.size,l,none⟩=some (.pointer (some ⟨b2,0,none⟩)):=fun o=>(((Below.refl _ _).alloc (Nat.le_refl _) _).drew.cell (p:=⟨w.heap.size,l,none⟩) HLt.out).trans cl;go_upto_region 19 with fail
   go_region_with (go_at_call 100; refine (HJ.out _ (by first|exact ((Below.refl _ _).alloc (Nat.le_refl _) _).drew|exact ((Below.refl _ _).alloc (Nat.le_refl _) _)|exact (Below.refl _ _).drew)).mono ?_; rintro e w5 ⟨x,rfl,hk,hb⟩; have hb5:Below wc.heap.size wc w5:=((((Below.refl _ _).alloc (Nat.le_refl _) _).drew).trans (hb.mono (by simp))); clear hb)
   all_goals go_wp2
   all_goals go_ret
   all_goals exact HP.out _ _ hk (HX.out.2.2.2.nxt hb5)
  ·have HR:Hid (Trie.shrunk v0 ((Trie.setKid kids b n))= .branch v0 ((Trie.setKid kids b n))):=ι (by unfold Trie.shrunk; rw [if_neg (by rw [←Hm.out]; exact m0),if_neg (by rw [←Hm.out]; exact m1)]);have HBr:Hid (∀ W,Below wc.heap.size wc W→Calls Tryz.prog 99 #[.string ⟨(v0).toArray⟩,.agg ps1.toArray] W (KnotEnd W (Trie.shrunk v0 ((Trie.setKid kids b n))))):=ι (fun W hW=>by
    have h1:=HW.out.1; have h2:=HW.out.2.1; have h3:=HW.out.2.2
    rw [HR.out] at h1 h2 h3 ⊢;exact trie_branch _ _ h1 h2 h3 ps1 HX.out.1 W (HTb.out.next (HX.out.2.2.2.nxt hW)) (fun i=>(HX.out.2.2.1 i).next hW))
   by_cases m1':m=1
   ·have hvn:¬v0= []:=fun e=>m1 ⟨m1',e⟩;subst m1';clear m1 m0
    first|exact absurd rfl hvn|skip
    all_goals have ne1:((v0).toArray=#[])=False:=by simp [hvn]
    all_goals have ne2:(v0).isEmpty=false:=by simp [hvn]
    all_goals go_wp2_with (first|(with_reducible refine at_load 98 ?_; refine wpList_load_mid rfl 134 _ rfl w.heap.size 0 rfl _ _ RP Tryz.underlying134 rfl SZQ ?_)|(go_at_call 99; refine (HBr.out _ (Below.refl _ _)).mono ?_; rintro e w5 ⟨x,rfl,hk,hb⟩))
    all_goals exact HP.out _ _ hk (HX.out.2.2.2.nxt hb)
   ·have em1:((m:Int)==1)=false:=by rw [beq_eq_false_iff_ne]; omega
    clear m1 m0 m1';go_wp2_with (first|(with_reducible refine at_load 98 ?_; refine wpList_load_mid rfl 134 _ rfl w.heap.size 0 rfl _ _ RP Tryz.underlying134 rfl SZQ ?_)|(go_at_call 99; refine (HBr.out _ (Below.refl _ _)).mono ?_; rintro e w5 ⟨x,rfl,hk,hb⟩))
    exact HP.out _ _ hk (HX.out.2.2.2.nxt hb)):P:=h
theorem del_kid0 (v0:List UInt8) (kids:Fin 16→Trie.T) (b:UInt8) (r:List UInt8) (n:Trie.T) (hb:b≤15) (hnil:n= .nil) (hw:Trie.wf (Trie.shrunk v0 (Trie.setKid kids b n))) (hs:Trie.small (Trie.shrunk v0 (Trie.setKid kids b n))) (hc:Trie.count (Trie.shrunk v0 (Trie.setKid kids b n))≤1000000) (g:Nat) (ps:List Value) (hps:ps.length=16) (w:World) (hT:Tbl w)
  (hbk:Blk w g 136 (knotC (.branch v0 kids) ps).toArray) (hks:∀ i:Fin 16,KnotP w (kids i) (ps.getD i.val undef))
  (IH:∀ (x:Value) (W:World),Tbl W→KnotP W (kids (Trie.ix b)) x→Calls Tryz.prog 58 #[x,.string ⟨r.toArray⟩] W (KnotEnd W n)):
  Calls Tryz.prog 58 #[.pointer (some ⟨g,0,none⟩),.string ⟨(b::r).toArray⟩] w (KnotEnd w (Trie.shrunk v0 (Trie.setKid kids b n))):=by
 have HP:Hid (∀ x w',KnotP w' (Trie.shrunk v0 (Trie.setKid kids b n)) x→Below w.heap.size w w'→KnotEnd w (Trie.shrunk v0 (Trie.setKid kids b n)) (.returned x) w'):=ι (fun x w' h1 h2=>⟨x,rfl,h1,h2⟩);have HW:=ι (And.intro hw (And.intro hs hc));have HTb:=ι hT;have HIH:=ι IH;have Hb:=ι hb;have HN:=ι hnil;have hb16:b.toNat<16:=by rw [UInt8.le_iff_toNat_le] at hb; simp at hb; omega
 have Hix:Hid ((Trie.ix b).val=b.toNat):=ι (by simp [Trie.ix]; omega);have hbi:(b.toNat:Int)<16:=by omega
 have hbx:0≤(b.toNat:Int):=by omega
 generalize KnotEnd w (Trie.shrunk v0 (Trie.setKid kids b n))=P at HP ⊢;clear hw hs hc hT IH hb hnil;obtain ⟨⟨c0,c1,c2,_,_⟩,kr,_,_,_,_⟩:=KnotAt.of (Trie.sumsT_length _) hps hbk;rename_i j1 j2 j4 j5 j6 j7
 replace c0:w.cell? ⟨g,0,none⟩=some (.int .i64 3):=c0
 replace c2:w.cell? ⟨g,2,none⟩=some (v0:Value):=c2
 have HA:=kids_one hps hks;have SZR:(Tryz.prog.info? 134).map (·.size)=some ps.length:=by rw [hps]; exact info_ptrs
 have HU:=Tryz.underlying134;have HLt:=ι hbk.lt;have HCp:=ι (KidsIn.copied hps hks);have HTh:(w.alloc (.cells #[.pointer none,.pointer none,.pointer none,.pointer none,.pointer none,.pointer none,.pointer none,.pointer none,.pointer none,.pointer none,.pointer none,.pointer none,.pointer none,.pointer none,.pointer none,.pointer none] 134)).drew.there w.heap.size 0 16:=there_new _ _ _ _ (Nat.le_refl 16);clear j1 j2 j4 j5 j6 j7 hbk hks c1;go_enter Tryz.func58,Tryz.ntmps58
 go_upto_region 5 with fail
 go_region_held3 (fun w'=>w'.cell? ⟨g,2,none⟩=some (v0:Value)∧w'.rangeAt g 19 ps) (first|go_keep_ranges|exact held_alloc c2 kr HLt.out _|exact held_setCells (held_alloc c2 kr HLt.out _) (by have:=HLt.out; omega)|(constructor<;>assumption)) (fail)
 clear HTh HA SZR HU hps kr c0 c2;have HCp2:=ι HCp.out;clear HCp;rename_i hHeld;clear hHeld;generalize World.setCells _ w.heap.size 0 ps=wc at HCp2 ⊢;obtain ⟨y,cb,Hyk⟩:∃ y,wc.cell? ⟨w.heap.size,b.toNat,none⟩=some y∧Hid (KnotP wc (kids (Trie.ix b)) y):=by
  obtain ⟨ps1,h1,h2,h3,h4⟩:=HCp2.out;refine ⟨ps1.getD b.toNat undef,?_,ι (by have:=h3 (Trie.ix b); rwa [Hix.out] at this)⟩;rw [h2.cell,List.getElem?_toArray,List.getD_eq_getElem?_getD,List.getElem?_eq_getElem (by omega)]; rfl
 have fb:wc.frozen? ⟨w.heap.size,b.toNat,none⟩=false:=by
  obtain ⟨ps1,h1,h2,h3,h4⟩:=HCp2.out;exact h2.frozen _
 have HWc:Hid (Below w.heap.size w wc∧w.heap.size<wc.heap.size):=ι (by obtain ⟨ps1,h1,h2,h3,h4⟩:=HCp2.out; exact ⟨h4,h2.lt⟩);have HDel:Hid (∀ W,Below wc.heap.size wc W→Calls Tryz.prog 58 #[y,.string ⟨r.toArray⟩] W (KnotEnd W n)):=ι (fun W hW=>HIH.out y W (HTb.out.next (HWc.out.1.nxt hW)) (Hyk.out.next hW));have HTl:=run_tail b r;go_upto_region 8 with fail
 go_cut [64] (fun s64 wx=>KidsIn w w.heap.size (Trie.setKid kids b n) wx)
 case first=>
  go_region_with (go_at_call 58; refine (HDel.out _ (by first|exact Below.refl _ _|exact (Below.refl _ _).drew)).mono ?_; rintro e w3 ⟨x,rfl,hk,hb⟩; obtain rfl:=hk.nil_iff.1 HN.out; have hb2:Below wc.heap.size wc w3:=(by first|exact hb|exact hb.start); clear hb; have d1:=(hb2.cell (p:=⟨w.heap.size,b.toNat,none⟩) HWc.out.2).trans cb; have d2:=(hb2.frozen (p:=⟨w.heap.size,b.toNat,none⟩) HWc.out.2).trans fb)
  all_goals go_wp2
  all_goals go_meet
  all_goals first|exact (HCp2.out.next hb2).set (Nat.le_refl _) b Hb.out _ _ hk|exact ((HCp2.out.next hb2).set (Nat.le_refl _) b Hb.out _ _ hk).next (Below.refl _ _).drew
 case rest=>
  exact z_15
theorem del_kid1 (v0:List UInt8) (kids:Fin 16→Trie.T) (b:UInt8) (r:List UInt8) (n:Trie.T) (hb:b≤15) (hnil:n≠ .nil) (hw:Trie.wf (Trie.shrunk v0 (Trie.setKid kids b n))) (hs:Trie.small (Trie.shrunk v0 (Trie.setKid kids b n))) (hc:Trie.count (Trie.shrunk v0 (Trie.setKid kids b n))≤1000000) (g:Nat) (ps:List Value) (hps:ps.length=16) (w:World) (hT:Tbl w)
  (hbk:Blk w g 136 (knotC (.branch v0 kids) ps).toArray) (hks:∀ i:Fin 16,KnotP w (kids i) (ps.getD i.val undef))
  (IH:∀ (x:Value) (W:World),Tbl W→KnotP W (kids (Trie.ix b)) x→Calls Tryz.prog 58 #[x,.string ⟨r.toArray⟩] W (KnotEnd W n)):
  Calls Tryz.prog 58 #[.pointer (some ⟨g,0,none⟩),.string ⟨(b::r).toArray⟩] w (KnotEnd w (Trie.shrunk v0 (Trie.setKid kids b n))):=by
 have HP:Hid (∀ x w',KnotP w' (Trie.shrunk v0 (Trie.setKid kids b n)) x→Below w.heap.size w w'→KnotEnd w (Trie.shrunk v0 (Trie.setKid kids b n)) (.returned x) w'):=ι (fun x w' h1 h2=>⟨x,rfl,h1,h2⟩);have HW:=ι (And.intro hw (And.intro hs hc));have HTb:=ι hT;have HIH:=ι IH;have Hb:=ι hb;have HN:=ι hnil;have hb16:b.toNat<16:=by rw [UInt8.le_iff_toNat_le] at hb; simp at hb; omega
 have Hix:Hid ((Trie.ix b).val=b.toNat):=ι (by simp [Trie.ix]; omega);have hbi:(b.toNat:Int)<16:=by omega
 have hbx:0≤(b.toNat:Int):=by omega
 generalize KnotEnd w (Trie.shrunk v0 (Trie.setKid kids b n))=P at HP ⊢;clear hw hs hc hT IH hb hnil;obtain ⟨⟨c0,c1,c2,_,_⟩,kr,_,_,_,_⟩:=KnotAt.of (Trie.sumsT_length _) hps hbk;rename_i j1 j2 j4 j5 j6 j7
 replace c0:w.cell? ⟨g,0,none⟩=some (.int .i64 3):=c0
 replace c2:w.cell? ⟨g,2,none⟩=some (v0:Value):=c2
 have HA:=kids_one hps hks;have SZR:(Tryz.prog.info? 134).map (·.size)=some ps.length:=by rw [hps]; exact info_ptrs
 have HU:=Tryz.underlying134;have HLt:=ι hbk.lt;have HCp:=ι (KidsIn.copied hps hks);have HTh:(w.alloc (.cells #[.pointer none,.pointer none,.pointer none,.pointer none,.pointer none,.pointer none,.pointer none,.pointer none,.pointer none,.pointer none,.pointer none,.pointer none,.pointer none,.pointer none,.pointer none,.pointer none] 134)).drew.there w.heap.size 0 16:=there_new _ _ _ _ (Nat.le_refl 16);clear j1 j2 j4 j5 j6 j7 hbk hks c1;go_enter Tryz.func58,Tryz.ntmps58
 go_upto_region 5 with fail
 go_region_held3 (fun w'=>w'.cell? ⟨g,2,none⟩=some (v0:Value)∧w'.rangeAt g 19 ps) (first|go_keep_ranges|exact held_alloc c2 kr HLt.out _|exact held_setCells (held_alloc c2 kr HLt.out _) (by have:=HLt.out; omega)|(constructor<;>assumption)) (fail)
 clear HTh HA SZR HU hps kr c0 c2;have HCp2:=ι HCp.out;clear HCp;rename_i hHeld;clear hHeld;generalize World.setCells _ w.heap.size 0 ps=wc at HCp2 ⊢;obtain ⟨y,cb,Hyk⟩:∃ y,wc.cell? ⟨w.heap.size,b.toNat,none⟩=some y∧Hid (KnotP wc (kids (Trie.ix b)) y):=by
  obtain ⟨ps1,h1,h2,h3,h4⟩:=HCp2.out;refine ⟨ps1.getD b.toNat undef,?_,ι (by have:=h3 (Trie.ix b); rwa [Hix.out] at this)⟩;rw [h2.cell,List.getElem?_toArray,List.getD_eq_getElem?_getD,List.getElem?_eq_getElem (by omega)]; rfl
 have fb:wc.frozen? ⟨w.heap.size,b.toNat,none⟩=false:=by
  obtain ⟨ps1,h1,h2,h3,h4⟩:=HCp2.out;exact h2.frozen _
 have HWc:Hid (Below w.heap.size w wc∧w.heap.size<wc.heap.size):=ι (by obtain ⟨ps1,h1,h2,h3,h4⟩:=HCp2.out; exact ⟨h4,h2.lt⟩);have HDel:Hid (∀ W,Below wc.heap.size wc W→Calls Tryz.prog 58 #[y,.string ⟨r.toArray⟩] W (KnotEnd W n)):=ι (fun W hW=>HIH.out y W (HTb.out.next (HWc.out.1.nxt hW)) (Hyk.out.next hW));have HTl:=run_tail b r;go_upto_region 8 with fail
 go_cut [64] (fun s64 wx=>KidsIn w w.heap.size (Trie.setKid kids b n) wx)
 case first=>
  go_region_with (go_at_call 58; refine (HDel.out _ (by first|exact Below.refl _ _|exact (Below.refl _ _).drew)).mono ?_; rintro e w3 ⟨x,rfl,hk,hb⟩; obtain ⟨b9,rfl⟩:=hk.ptr HN.out; have hb2:Below wc.heap.size wc w3:=(by first|exact hb|exact hb.start); clear hb; have d1:=(hb2.cell (p:=⟨w.heap.size,b.toNat,none⟩) HWc.out.2).trans cb; have d2:=(hb2.frozen (p:=⟨w.heap.size,b.toNat,none⟩) HWc.out.2).trans fb)
  all_goals go_wp2
  all_goals go_meet
  all_goals first|exact (HCp2.out.next hb2).set (Nat.le_refl _) b Hb.out _ _ hk|exact ((HCp2.out.next hb2).set (Nat.le_refl _) b Hb.out _ _ hk).next (Below.refl _ _).drew
 case rest=>
  exact z_15
end
end Go.Proofs.YtnelhjfjkkdoaaaGreatDoor