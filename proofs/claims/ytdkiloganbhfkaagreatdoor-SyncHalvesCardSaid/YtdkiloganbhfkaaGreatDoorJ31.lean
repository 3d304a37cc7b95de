import Derived.Test.YtdkiloganbhfkaaGreatDoorJ26
import Derived.Lib.FrozenHead
set_option linter.unusedSimpArgs false
set_option linter.unusedVariables false
set_option maxHeartbeats 4000000
namespace Go.Proofs.YtdkiloganbhfkaaGreatDoor
section
open Go.RowKit Go.Instr
attribute [local go_sem] ba_get ByteArray.mk_append_mk add_zero_addr
structure Kept (X:Nat→Prop) (w w':World):Prop where
 os:w'.os=w.os
 tape:w'.tape=w.tape
 output:w'.output=w.output
 size:w.heap.size≤w'.heap.size
 block:∀ k,k<w.heap.size→¬X k→w'.heap[k]?=w.heap[k]?
theorem Kept.of_below {X:Nat→Prop} {w w':World} (h:Below w.heap.size w w'):Kept X w w':=⟨h.os,h.tape,h.output,h.size,fun k hk _=>h.block k hk⟩
theorem Kept.grown {X:Nat→Prop} {w w1 w2:World} {row:Option Nat} (h:Kept X w w1) (hg:w1.grownBy w2 row) (hr:∀ k,row=some k→k<w.heap.size→X k):Kept X w w2:=
 ⟨hg.os.trans h.os,hg.tape.trans h.tape,hg.output.trans h.output,Nat.le_trans h.size hg.size,fun k hk hx=>(hg.block k (Nat.lt_of_lt_of_le hk h.size) (fun e=>hx (hr k e.symm hk))).trans (h.block k hk hx)⟩
theorem Kept.trans {X Y:Nat→Prop} {w w1 w2:World} (h:Kept X w w1) (h2:Kept Y w1 w2) (hXY:∀ k,k<w.heap.size→Y k→X k):Kept X w w2:=
 ⟨h2.os.trans h.os,h2.tape.trans h.tape,h2.output.trans h.output,Nat.le_trans h.size h2.size,fun k hk hx=>(h2.block k (Nat.lt_of_lt_of_le hk h.size) (fun hy=>hx (hXY k hk hy))).trans (h.block k hk hx)⟩
theorem Kept.below {X:Nat→Prop} {w w':World} (h:Kept X w w') {B:Nat} (hB:B≤w.heap.size) (hX:∀ k,X k→B≤k):Below B w w':=
 ⟨h.os,h.tape,h.output,h.size,fun k hk=>h.block k (Nat.lt_of_lt_of_le hk hB) (fun hx=>by have:=hX k hx; omega)⟩
def TabX (mb:Nat) (v:Value):Nat→Prop:=fun k=>k=mb∨k=mb+1∨v.ownBlock=some k
theorem Blk.keep {w w1:World} {g:Nat} {t:TypeId} {cs:Array Value} (h:Blk w g t cs) (hb:w1.heap[g]?=w.heap[g]?):Blk w1 g t cs:=hb.trans h
theorem own_keep {w w1:World} {base e size n:Nat} {v:Value} {xs:List Value} (h:w.ownsRow base e size v n xs) (hb:∀ k,v.ownBlock=some k→w1.heap[k]?=w.heap[k]?):w1.ownsRow base e size v n xs:=by
 refine ⟨h.1,?_⟩;rcases h.2 with h2|⟨g,cap,cur,rfl,hbg,hg,h3⟩
 ·exact .inl h2
 ·exact .inr ⟨g,cap,cur,rfl,hbg,(hb g rfl).trans hg,h3⟩
theorem Tab.kept {X:Nat→Prop} {w w1:World} {mb:Nat} {v:Value} {l:List Sg} (hT:Tab w mb v l) (hk:Kept X w w1) (hX:∀ k,TabX mb v k→¬X k):Tab w1 mb v l where
 blk:=hT.blk.keep (hk.block _ hT.blk.lt (hX _ (.inr (.inl rfl))))
 map:=hT.map.kept (hk.block _ hT.map.lt (hX _ (.inl rfl)))
 own:=own_keep hT.own fun k e=>hk.block _ (hT.own.lt k e).2 (hX _ (.inr (.inr e)))
theorem Tab.below {w w1:World} {mb:Nat} {v:Value} {l:List Sg} (hT:Tab w mb v l) (hb:Below w.heap.size w w1):Tab w1 mb v l:=
 hT.kept (X:=fun _=>False) (Kept.of_below hb) (fun _ _ h=>h)
theorem TabX.ge {w:World} {mb:Nat} {v:Value} {l:List Sg} (hT:Tab w mb v l):∀ k,TabX mb v k→mb≤k:=by
 rintro k (rfl|rfl|h)
 ·exact Nat.le_refl _
 ·omega
 ·have:=(hT.own.lt k h).1; omega
def SignEnd (w:World) (mb:Nat) (v:Value) (l:List Sg) (who mark:List UInt8) (h:Bool) (e:Ending) (w':World):Prop:=
 e= .returned (.int .i64 ((sign l who mark h).2:Nat))∧∃ v',Tab w' mb v' (sign l who mark h).1∧Kept (TabX mb v) w w'∧(v'.ownBlock=v.ownBlock∨∃ g,v'.ownBlock=some g∧w.heap.size≤g)
theorem orc_Sign_no (w:World) (mb:Nat) (v:Value) (l:List Sg) (hT:Tab w mb v l) (who mark:List UInt8) (h:Bool) (hm:may who mark=false):
  Calls Tryz.prog 41 #[.pointer (some ⟨mb+1,0,none⟩),who,mark,h] w (SignEnd w mb v l who mark h):=by
 have hu:∀ c:Nat,sign l who mark h=(l,c)→SignEnd w mb v l who mark h (.returned (.int .i64 (c:Nat))) w:=fun c hs=>by
  refine ⟨by rw [hs],v,by rw [hs]; exact hT,Kept.of_below (Below.refl _ _),.inl rfl⟩
 by_cases h0:who.length=0
 ·have hf:=hu 1 (by simp [sign,h0]);have e0:who= []:=List.eq_nil_of_length_eq_zero h0;subst e0;clear hu hm hT;generalize SignEnd w mb v l [] mark h=P at hf ⊢;have H:=ι hf;clear hf;go_enter Tryz.func41,Tryz.ntmps41
  go_wp2
  exact H.out
 ·have e0:who.isEmpty=false:=by cases who with|nil=>exact absurd rfl h0|cons a b=>rfl
  by_cases h6:6<who.length
  ·have hf:=hu 1 (by simp [sign,h6]);have e6:((6:Int)<who.length)=True:=by simp; omega
   clear hu hm hT;generalize SignEnd w mb v l who mark h=P at hf ⊢;have H:=ι hf;clear hf;go_enter Tryz.func41,Tryz.ntmps41
   go_wp2
   exact H.out
  ·have h32:mark.length≠32:=by
    intro e;unfold may at hm;simp at hm
    omega
   have hf:=hu 3 (by simp [sign,h0,h6,h32]);have e6:((6:Int)<who.length)=False:=by simp; omega
   have e32:((mark.length:Int)=32)=False:=by simp; omega
   clear hu hm hT;generalize SignEnd w mb v l who mark h=P at hf ⊢;have H:=ι hf;clear hf;go_enter Tryz.func41,Tryz.ntmps41
   go_wp2
   exact H.out
theorem orc_Sign_old (w:World) (mb:Nat) (v:Value) (l:List Sg) (hT:Tab w mb v l) (hl:l.length≤1000) (who mark:List UInt8) (h:Bool) (hm:may who mark=true) (n:Nat) (hn:atRow (who,mark) l=some n):
  Calls Tryz.prog 41 #[.pointer (some ⟨mb+1,0,none⟩),who,mark,h] w (SignEnd w mb v l who mark h):=by
 obtain ⟨h1,h6,h32⟩:1≤who.length∧who.length≤6∧mark.length=32:=by simpa [may] using hm
 obtain ⟨x,hx,hk⟩:=atRow_lt hn;have hnl:n<l.length:=(List.getElem?_eq_some_iff.1 hx).1;have hsg:sign l who mark h=(l.set n (x.1,x.2.1,(x.2.2 && h)),0):=by
  injection hk with k1 k2
  unfold sign;rw [if_neg (by omega),if_neg (by omega),hn];simp [hx,k1,k2]
 obtain ⟨g,c,rfl,hge,hgl,hc,hcell⟩:=own3_cells hT.own (by omega);have hfin:∀ w1,Below w.heap.size w w1→SignEnd w mb (.slice (some ⟨g,0,none⟩) l.length c) l who mark h (.returned (.int .i64 0)) (w1.setCell ⟨g,n*3+2,none⟩ (.bool (x.2.2 && h))):=fun w1 hb=>by
  have hT1:=hT.below hb;obtain ⟨o1,o2⟩:=hT1.own.stored (n*3+2) (.bool (x.2.2 && h));rw [srows_set l n x _ hx] at o1;have hneq:∀ k,k<mb+2→some k≠some g:=by intro k hk e; injection e with e; omega
  have s1:(sign l who mark h).1=l.set n (x.1,x.2.1,(x.2.2 && h)):=by rw [hsg]
  have s2:(sign l who mark h).2=0:=by rw [hsg]
  refine ⟨by rw [s2]; rfl,.slice (some ⟨g,0,none⟩) l.length c,?_,(Kept.of_below hb).grown o2 ?_,.inl rfl⟩
  ·rw [s1];refine ⟨hT1.blk.keep (o2.block _ hT1.blk.lt (hneq _ (by omega))),?_,by rw [List.length_set]; exact o1⟩;rw [smap_set l n 0 x _ hx];exact hT1.map.kept (o2.block _ hT1.map.lt (hneq _ (by omega)))
  ·intro k e _;injection e with e
   subst e;exact .inr (.inr rfl)
 have H:=ι hfin;clear hfin hsg;obtain ⟨q0,q1,q2⟩:=hcell n x hx;have hfr:w.frozen? ⟨g,n*3+2,none⟩=false:=hT.own.frozenAt _;have hlt:=hT.blk.lt;have hc0:w.cell? ⟨mb+1,0,none⟩=some (.map (some mb)):=hT.blk.cell 0;have hc1:w.cell? ⟨mb+1,1,none⟩=some (.slice (some ⟨g,0,none⟩) l.length c):=hT.blk.cell 1;have HM:=ι hT.map;generalize SignEnd w mb (.slice (some ⟨g,0,none⟩) l.length c) l who mark h=P at H ⊢;clear hT hcell hk hm;have e0:who.isEmpty=false:=by cases who with|nil=>simp at h1|cons a b=>rfl
 have e6:((6:Int)<who.length)=False:=by simp; omega
 have e32:((mark.length:Int)=32)=True:=by simp; omega
 have hn1:0≤(n:Int):=by omega
 have hn2:(n:Int).toNat=n:=by omega
 have hn3:(n:Int)<l.length:=by omega
 generalize x.2.2=hb2 at *;cases hb2
 all_goals go_enter Tryz.func41,Tryz.ntmps41
 all_goals go_wp2
 all_goals go_region_with (go_at_call 77; refine (orc_key who mark _).mono ?_; rintro e w1 ⟨rfl,hb⟩; try simp only [World.size_drew,World.size_alloc] at hb; have hbw:Below w.heap.size w w1:=(by first|exact hb|exact hb.start); have hlk:=tab_lookup (map_keep HM hbw) who mark; rw [hn] at hlk; have hc0':=hbw.cell (p:=⟨mb+1,0,none⟩) hlt; rw [hc0] at hc0'; have hc1':=hbw.cell (p:=⟨mb+1,1,none⟩) hlt; rw [hc1] at hc1'; have q2':=hbw.cell (p:=⟨g,n*3+2,none⟩) hgl; rw [q2] at q2'; have hfr':=hbw.frozen (p:=⟨g,n*3+2,none⟩) hgl; rw [hfr] at hfr'; clear hb)
 all_goals go_wp2
 all_goals go_region
 all_goals go_wp2
 all_goals first|exact H.out _ hbw|exact H.out _ hbw.drew
theorem info_sg:(Tryz.prog.info? 135).map (fun i=>(i.zero,i.size,i.bytes))=some (some (.agg #[ε,ε,false]),3,40):=by kernel_rfl
theorem tab_store {w:World} {mb:Nat} {l:List Sg} (hm:Hid (MapIs w sk mb (smap l 0))) (who mark:List UInt8) (h:Bool) (hn:atRow (who,mark) l=none):
  ∃ w',(mapUpdate 136 (.map (some mb)) (sk (who,mark)) (.int .i64 (l.length:Int))).run Tryz.prog w= .ok () w'∧Hid (MapIs w' sk mb (smap (l++ [(who,mark,h)]) 0))∧Hid (w.grownBy w' (some mb)):=by
 obtain ⟨w',h1,h2,h3,h4⟩:=hm.out.store sk_type 136 3 Tryz.underlying136 (who,mark) (.int .i64 (l.length:Int));refine ⟨w',h1,ι ?_,ι h3⟩;have ha:assoc (who,mark) (smap l 0) 0=none:=by rw [assoc_smap,hn]; rfl
 rw [assoc_none ha] at h2;rw [smap_snoc,Nat.zero_add];exact h2
theorem sign_new_end {w w2 w3 w4:World} {mb:Nat} {v v':Value} {l:List Sg} {who mark:List UInt8} {h:Bool} (hT:Tab w mb v l) (hb:Below w.heap.size w w2)
  (hg:w2.grownBy w3 (some mb)) (hm:MapIs w3 sk mb (smap (l++ [(who,mark,h)]) 0)) (hown:w4.ownsRow (mb+2) 135 3 v' (l.length+1) (srows l++srow (who,mark,h)))
  (hg4:w3.grownBy w4 v.ownBlock) (ho:v'.ownBlock=v.ownBlock∨∃ g,v'.ownBlock=some g∧w3.heap.size≤g):
  Tab (w4.setCell ⟨mb+1,1,none⟩ v') mb v' (l++ [(who,mark,h)])∧Kept (TabX mb v) w (w4.setCell ⟨mb+1,1,none⟩ v')∧(v'.ownBlock=v.ownBlock∨∃ g,v'.ownBlock=some g∧w.heap.size≤g):=by
 have hk2:Kept (TabX mb v) w w2:=Kept.of_below hb;have hk3:Kept (TabX mb v) w w3:=hk2.grown hg (by intro k e _; injection e with e; exact .inl e.symm);have hk4:Kept (TabX mb v) w w4:=hk3.grown hg4 (fun k e _=> .inr (.inr e));have hvl:=hT.own.lt;have hB4:Blk w4 (mb+1) 138 #[.map (some mb),v]:=(((hT.blk.below hb hT.blk.lt).grown hg (by intro e; injection e with e; omega)).grown hg4 (by intro e; have:=(hvl _ e.symm).1; omega))
 have hm4:MapIs w4 sk mb (smap (l++ [(who,mark,h)]) 0):=hm.kept (hg4.block _ hm.lt (by intro e; have:=(hvl _ e.symm).1; omega));have hs:=hk4.size;refine ⟨⟨hB4.set_ 1 v',hm4.kept (Below.heap_setCell w4 ⟨mb+1,1,none⟩ v' mb (by show mb≠mb+1; omega)),?_⟩,?_,?_⟩
 ·rw [srows_snoc,List.length_append];exact ownsRow_setCell_below hown (a:=⟨mb+1,1,none⟩) (by show mb+1<mb+2; omega) v'
 ·exact ⟨hk4.os,hk4.tape,hk4.output,by rw [World.size_setCell]; exact hk4.size,fun k hk hx=>(Below.heap_setCell w4 ⟨mb+1,1,none⟩ v' k (fun e=>hx (.inr (.inl e)))).trans (hk4.block k hk hx)⟩
 ·rcases ho with e|⟨g,e,hge⟩
  ·exact .inl e
  ·exact .inr ⟨g,e,Nat.le_trans hk3.size hge⟩
theorem sign_new_facts {w w2 w3 w4:World} {mb:Nat} {v:Value} {l:List Sg} (hT:Tab w mb v l) (hb:Below w.heap.size w w2) (hg:w2.grownBy w3 (some mb)) (hg4:w3.grownBy w4 v.ownBlock):
  w4.cell? ⟨mb+1,1,none⟩=some v∧w4.frozen? ⟨mb+1,1,none⟩=false:=by
 have hvl:=hT.own.lt;have hB4:Blk w4 (mb+1) 138 #[.map (some mb),v]:=(((hT.blk.below hb hT.blk.lt).grown hg (by intro e; injection e with e; omega)).grown hg4 (by intro e; have:=(hvl _ e.symm).1; omega))
 exact ⟨hB4.cell 1,hB4.frozen 1⟩
theorem sign_new_own {w w2 w3:World} {mb:Nat} {v:Value} {l:List Sg} (hT:Tab w mb v l) (hb:Below w.heap.size w w2) (hg:w2.grownBy w3 (some mb)):
  w3.ownsRow (mb+2) 135 3 v l.length (srows l)∧w3.cell? ⟨mb+1,1,none⟩=some v∧mb+2≤w3.heap.size∧w3.cell? ⟨mb+1,0,none⟩=some (.map (some mb)):=by
 have hvl:=hT.own.lt;have hB3:Blk w3 (mb+1) 138 #[.map (some mb),v]:=((hT.blk.below hb hT.blk.lt).grown hg (by intro e; injection e with e; omega))
 exact ⟨own_keep (own_below hT.own hb) (fun k e=>hg.block k (Nat.lt_of_lt_of_le (hvl k e).2 hb.size) (by intro e2; injection e2 with e2; have:=(hvl k e).1; omega)),hB3.cell 1,by have:=hB3.lt; omega,hB3.cell 0⟩
theorem orc_Sign_new (w:World) (mb:Nat) (v:Value) (l:List Sg) (hT:Tab w mb v l) (hl:l.length≤1000) (who mark:List UInt8) (h:Bool) (hm:may who mark=true) (hn:atRow (who,mark) l=none):
  Calls Tryz.prog 41 #[.pointer (some ⟨mb+1,0,none⟩),who,mark,h] w (SignEnd w mb v l who mark h):=by
 obtain ⟨h1,h6,h32⟩:1≤who.length∧who.length≤6∧mark.length=32:=by simpa [may] using hm
 have hsg:sign l who mark h=(l++ [(who,mark,h)],0):=by
  unfold sign;rw [if_neg (by omega),if_neg (by omega),hn];simp only [];rw [if_neg (by omega)]
 have HP:Hid (∀ e w',(e= .returned (.int .i64 0)∧∃ v',Tab w' mb v' (l++ [(who,mark,h)])∧Kept (TabX mb v) w w'∧(v'.ownBlock=v.ownBlock∨∃ g,v'.ownBlock=some g∧w.heap.size≤g))→SignEnd w mb v l who mark h e w'):=ι (by
  intro e w' hh;unfold SignEnd;rw [hsg];exact hh)
 obtain ⟨A,c,rfl,HR,hc,_⟩:=own_form hT.own;clear hsg;have hlt:=hT.blk.lt;have hml:=hT.map.lt;have hc0:w.cell? ⟨mb+1,0,none⟩=some (.map (some mb)):=hT.blk.cell 0;have hc1:w.cell? ⟨mb+1,1,none⟩=some (.slice A l.length c):=hT.blk.cell 1;have HM:=ι hT.map;have HT:=ι hT;generalize SignEnd w mb (.slice A l.length c) l who mark h=P at HP ⊢;clear hT hm HR;have e0:who.isEmpty=false:=by cases who with|nil=>simp at h1|cons a b=>rfl
 have e6:((6:Int)<who.length)=False:=by simp; omega
 have e9:((1024:Int)≤l.length)=False:=by simp; omega
 have e32:((mark.length:Int)=32)=True:=by simp; omega
 go_enter Tryz.func41,Tryz.ntmps41
 go_wp2
 go_region_held3 (fun w'=>w'.cell? ⟨mb+1,0,none⟩=some (.map (some mb))) (first|go_keep|assumption) (first|(go_at_call 77; refine (orc_key who mark _).mono ?_; rintro e w1 ⟨rfl,hb⟩; try simp only [World.size_drew,World.size_alloc] at hb; have hbw:Below w.heap.size w w1:=(by first|exact hb|exact hb.start); have hlk:=tab_lookup (map_keep HM hbw) who mark; rw [hn] at hlk; have hc0':=hbw.cell (p:=⟨mb+1,0,none⟩) hlt; rw [hc0] at hc0'; have hc1':=hbw.cell (p:=⟨mb+1,1,none⟩) hlt; rw [hc1] at hc1'; clear hb))
 go_wp2
 go_region_held3 (fun w'=>w'.cell? ⟨mb+1,0,none⟩=some (.map (some mb))∧w'.cell? ⟨mb+1,1,none⟩=some (.slice A l.length c)) (first|go_keep|assumption|(constructor<;>assumption)) (first|(go_at_call 77; refine (orc_key who mark _).mono ?_; rintro e w2 ⟨rfl,hb2⟩; try simp only [World.size_drew,World.size_alloc] at hb2; have hbx:Below w.heap.size w w2:=hbw.nxt (by first|exact hb2|exact hb2.start); obtain ⟨w3,hrun,hm3,hg3⟩:=tab_store (map_keep HM hbx) who mark h hn; have hc02:=hbx.cell (p:=⟨mb+1,0,none⟩) hlt; rw [hc0] at hc02; have hc12:=hbx.cell (p:=⟨mb+1,1,none⟩) hlt; rw [hc1] at hc12; have O3:=ι (sign_new_own HT.out hbx hg3.out); have hc13:=O3.out.2.1; have hc03:=O3.out.2.2.2; clear hb2))
 go_wp2_with (at_builtin; refine wpList_append_new w3 135 (srow (who,mark,h)) rfl _ _ 88 rfl (mb+2) 3 40 _ info_sg Tryz.underlying88 rfl (by decide) (.slice A l.length c) l.length (srows l) rfl O3.out.1 1 1 rfl rfl (srow_one _) (by simp only [maxLen]; omega) (by omega) 0 w3 (Below.refl _ _) (Nat.zero_le _) O3.out.2.2.1 ?_; intro v4 w4 own4 _ hg4 ho4 hs4; obtain ⟨A4,c4,rfl,_,_,_⟩:=own_form own4; obtain ⟨hc4,hf4⟩:=sign_new_facts HT.out hbx hg3.out hg4; have H4:=ι (sign_new_end HT.out hbx hg3.out hm3.out own4 hg4 ho4); clear own4 hg4 ho4 hs4)
 exact HP.out _ _ ⟨rfl,_,H4.out⟩
theorem orc_Sign (w:World) (mb:Nat) (v:Value) (l:List Sg) (hT:Tab w mb v l) (hl:l.length≤1000) (who mark:List UInt8) (h:Bool):
  Calls Tryz.prog 41 #[.pointer (some ⟨mb+1,0,none⟩),who,mark,h] w (SignEnd w mb v l who mark h):=by
 cases hm:may who mark with
 |false=>exact orc_Sign_no w mb v l hT who mark h hm
 |true=>
  cases hn:atRow (who,mark) l with
  |none=>exact orc_Sign_new w mb v l hT hl who mark h hm hn
  |some n=>exact orc_Sign_old w mb v l hT hl who mark h hm n hn
end
section
open Go.RowKit Go.Instr
def mkRow (w:World) (base:Nat) (v:Value) (l:List UInt8):Prop:=
 ∃ g cap cur fz,v= .slice (some ⟨g,0,none⟩) l.length cap∧base≤g∧w.heap[g]?=some (.cells cur 5 fz)∧(∀ j,j<cur.size→¬(fz.1≤j∧j<fz.2))∧l.length≤cap∧cap≤maxLen∧cur.size=cap∧cur.toList.take l.length=bvals l
theorem mk_store (P:Program) (g o:Nat) (t:TypeId) (fz:Nat × Nat):∀ (vs:List Value) (i:Nat) (cur:Array Value) (w:World),w.heap[g]?=some (.cells cur t fz)→(∀ j,j<cur.size→¬(fz.1≤j∧j<fz.2))→o+i+vs.length≤cur.size→(∀ u∈vs,u.oneCell'=true)→
  (storeCells ⟨g,o,none⟩ vs i).run P w= .ok () (w.setRow g (cur.toList.take (o+i)++vs++cur.toList.drop (o+i+vs.length)).toArray)
 | [],i,cur,w,hg,_,_,_=>by
  simp only [storeCells,List.append_nil,List.length_nil,Nat.add_zero,List.take_append_drop,Array.toArray_toList];rw [setRow_self w g cur t fz hg];rfl
 |v::rest,i,cur,w,hg,hfz,hl,h1=>by
  have hi:o+i<cur.size:=by simp at hl; omega
  have hadd:(⟨g,o,none⟩:Addr).add i=⟨g,o+i,none⟩:=by unfold Addr.add; split<;>simp_all
  have hcell:w.cell? ⟨g,o+i,none⟩=some cur[o+i]:=by simp [World.cell?,hg,hi]
  have hfro:w.frozen? ⟨g,o+i,none⟩=false:=by
   have:=hfz (o+i) hi
   obtain ⟨lo,hi'⟩:=fz;simp only [World.frozen?,hg,Bool.and_eq_false_iff,decide_eq_false_iff_not];simp only at this;omega
  have hst:(store ((⟨g,o,none⟩:Addr).add i) v).run P w= .ok () (w.setRow g (cur.setIfInBounds (o+i) v)):=by
   rw [hadd,run_store P w _ v _ (h1 v (by simp)),hcell];simp [hfro,setCell_eq_setRow w g (o+i) cur t fz v hg]
  have ih:=mk_store P g o t fz rest (i+1) (cur.setIfInBounds (o+i) v) (w.setRow g (cur.setIfInBounds (o+i) v)) (setRow_heap w g cur _ t _ hg) (by simpa using hfz) (by simp at hl ⊢; omega) (fun x hx=>h1 x (by simp [hx]));simp only [storeCells,Sem.run_bind,hst,Result.andThen_ok,ih,setRow_setRow]
  congr 3
  have e:=list_seg_step cur.toList (o+i) v rest (by simp at hl ⊢; omega);simpa [Array.toList_setIfInBounds,Nat.add_assoc] using e
theorem cells_str (s:List UInt8):Lib.strCells ⟨s.toArray⟩=bvals s:=by simp [Lib.strCells,bvals]
theorem mk_append (w:World) (base:Nat) (ty:TypeId) (i:TypeInfo) (hi:Tryz.prog.info? 5=some i) (hz:i.zero=some (.int .u8 0)) (hsize:i.size=1) (hby:i.bytes=1) (v:Value) (l:List UInt8) (h:mkRow w base v l) (s:List UInt8) (hn:l.length+s.length≤100000) (hbase:base≤w.heap.size):
  ∃ v' w',(Builtin.append_ #[164,9] ty #[v,.string ⟨s.toArray⟩]).run Tryz.prog w= .ok v' w'∧mkRow w' base v' (l++s)∧w.grownBy w' v.ownBlock:=by
 obtain ⟨g,cap,cur,fz,rfl,hbg,hg,hfz,hnc,hcm,hcs,htake⟩:=h;have hss:(ByteArray.mk s.toArray).size=s.length:=by simp [ByteArray.size]
 have hbl:(bvals s).length=s.length:=by simp [bvals]
 by_cases hroom:l.length+s.length≤cap
 ·have hf:=Lib.run_firstCells_string (P:=Tryz.prog) w 1 ⟨s.toArray⟩;have hst:=mk_store Tryz.prog g l.length 5 fz (Lib.strCells ⟨s.toArray⟩) 0 cur w hg hfz (by rw [cells_str,hbl]; omega) (Lib.strCells_oneCell _);rw [hss] at hf;simp only [Nat.add_zero] at hst;refine ⟨.slice (some ⟨g,0,none⟩) (l.length+s.length) cap,w.setRow g (cur.toList.take l.length++Lib.strCells ⟨s.toArray⟩++cur.toList.drop (l.length+(Lib.strCells ⟨s.toArray⟩).length)).toArray,by
   simp [Builtin.append_,run_underlying Tryz.underlying164,run_underlying Tryz.underlying9,sizeOf,typeInfo,hi,hsize,Builtin.lenOf,hss,hroom,hf,Addr.add_lit,hst],?_,?_⟩
  ·refine ⟨g,cap,_,fz,by rw [List.length_append],hbg,setRow_heap w g cur _ _ _ hg,?_,by rw [List.length_append]; exact hroom,hcm,?_,?_⟩
   ·intro j hj;refine hfz j ?_;simp only [List.size_toArray,List.length_append,List.length_take,List.length_drop,Array.length_toList,cells_str,hbl] at hj;omega
   ·simp only [List.size_toArray,List.length_append,List.length_take,List.length_drop,Array.length_toList,cells_str,hbl];omega
   ·rw [htake,cells_str]
    show List.take _ (bvals l++bvals s++_)=_;rw [List.take_left' (by simp [bvals])];simp [bvals]
  ·exact ⟨rfl,rfl,rfl,by simp,fun k _ hk=>setRow_other w g k _ (fun e=>hk (by simp [Value.ownBlock,e]))⟩
 ·have holds:∀ j u,(bvals l)[j]?=some u→w.cell? ((⟨g,0,none⟩:Addr).add j)=some u:=fun j u hu=>by
   have ha:(⟨g,0,none⟩:Addr).add j=⟨g,j,none⟩:=by unfold Addr.add; split<;>simp_all
   rw [ha,cell_of_row w g j cur _ fz hg];rw [←htake,List.getElem?_take] at hu
   split at hu
   ·simpa using hu
   ·cases hu
  have hr:=Lib.run_append_grow_string (P:=Tryz.prog) w 164 9 ty 5 i (.int .u8 0) Tryz.underlying164 Tryz.underlying9 hi hz ⟨g,0,none⟩ l.length cap (bvals l) (by rw [hsize]; simp [bvals]) holds ⟨s.toArray⟩ (by rw [hss]; omega) (by rw [hss]; omega) (by rw [hby]; exact growslice_fits (by simp only [maxLen] at hcm; omega) (by rw [hss]; omega));have hge:=grownCap_ge w (l.length+s.length) cap 5;have hcm2:grownCap w (l.length+s.length) cap 5≤maxLen:=grownCap_le_maxLen w (l.length+s.length) cap 5 (by simp only [maxLen]; omega);have hll:(bvals l).length=l.length:=by simp [bvals]
  rw [hss,cells_str] at hr;refine ⟨_,_,hr,⟨w.heap.size,_,_,(0,0),by rw [List.length_append],hbase,heap_alloc_new w.drew _,fun j _ hc=>by omega,by rw [List.length_append]; exact hge,hcm2,?_,?_⟩,⟨rfl,rfl,rfl,by simp,fun k hk _=>heap_alloc_old w.drew _ hk⟩⟩
  ·have hz1:(Value.int IntKind.u8 0).cells.size=1:=rfl;simp only [Array.size_append,List.size_toArray,size_zeroCells,hz1,hbl,hll];omega
  ·simp only [Array.toList_append,List.append_assoc];rw [←List.append_assoc,List.take_left' (by simp [bvals])];simp [bvals]
def ss (k:List UInt8):Value:= .string ⟨k.toArray⟩
theorem bytes_beq_refl (a:ByteArray):(a==a)=true:=by rw [beq_toListBytes]; simp
theorem ss_beq (a b:List UInt8):((⟨a.toArray⟩:ByteArray)==⟨b.toArray⟩)=decide (a=b):=by
 rw [beq_toListBytes,Bool.eq_iff_iff]; simp
theorem ss_run (w:World) (a b:List UInt8):(Op.equalIn 10000 9 (ss a) (ss b)).run Tryz.prog w= .ok (decide (a=b)) w:=by
 simp only [ss];rw [show (10000:Nat)=9999+1 from rfl,run_equalIn_string w 9999 9 _ _ Tryz.underlying9];simp only [ByteArray.toList_mk];rw [show (a==b)=decide (a=b) by rw [Bool.eq_iff_iff]; simp]
theorem ss_type:KeyType Tryz.prog 9 ss where
 check:=fun e w k=>by
  rw [show (10000:Nat)=9999+1 from rfl,checkKey];simp [run_underlying Tryz.underlying9,ss]
 equal:=fun w a b=>by
  exact ss_run w a b
 now:=⟨_,Tryz.underlying9,fun k E l i hE=> .inr (by
  induction E generalizing l i with
  |nil=>cases l with
   |nil=>rfl
   |cons x l=>simp at hE
  |cons e E ih=>cases l with
   |nil=>simp at hE
   |cons x l=>
    simp only [List.map_cons,List.cons.injEq,Prod.mk.injEq] at hE;obtain ⟨⟨h1,h2⟩,h3⟩:=hE;simp only [findNow,h1,ss,sameNow,ss_beq,assoc];by_cases hk:k=x.1
    ·simp [hk,h2]
    ·simp only [hk,decide_false];exact ih l (i+1) h3)⟩
 stays:=fun k=>by simp [ss,sameBits,bytes_beq_refl]
end
end Go.Proofs.YtdkiloganbhfkaaGreatDoor