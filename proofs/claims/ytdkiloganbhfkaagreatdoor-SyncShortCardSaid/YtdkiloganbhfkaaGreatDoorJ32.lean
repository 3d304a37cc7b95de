import Derived.Test.YtdkiloganbhfkaaGreatDoorJ30
import Derived.Test.YtdkiloganbhfkaaGreatDoorJ31
set_option linter.unusedSimpArgs false
set_option linter.unusedVariables false
set_option maxHeartbeats 4000000
set_option maxRecDepth 100000
namespace Go.Proofs.YtdkiloganbhfkaaGreatDoor
section
open Go.RowKit Go.Instr
attribute [local go_sem] ba_get ByteArray.mk_append_mk
attribute [local go_sem ↓] Go.wp_at_zero Go.wp_at_succ
def Led.mkW (s:List UInt8):List UInt8:=if s.length=32 then Led.markW s else []
def Led.signM (mark:List UInt8) (bad:List (List UInt8)):List Sg→List Pw.Mem→List Sg
 |tab,[]=>tab
 |tab,m::r=>Led.signM mark bad (sign tab m.1 mark (decide (m.1 ∉ bad))).1 r
def Led.signE (bad:List (List UInt8)):List Sg→List En→List Sg
 |tab,[]=>tab
 |tab,e::r=>Led.signE bad (Led.signM (Led.mkW e.sum) bad tab e.set) r
theorem Led.sign_len (tab:List Sg) (n m:List UInt8) (h:Bool):(sign tab n m h).1.length≤tab.length+1:=by
 unfold sign
 repeat' split
 all_goals simp
theorem Led.signM_len (mark:List UInt8) (bad:List (List UInt8)):∀ (r:List Pw.Mem) (tab:List Sg),(Led.signM mark bad tab r).length≤tab.length+r.length
 | [],tab=>by simp [Led.signM]
 |m::r,tab=>by
  have a:=Led.signM_len mark bad r (sign tab m.1 mark (decide (m.1 ∉ bad))).1;have b:=Led.sign_len tab m.1 mark (decide (m.1 ∉ bad));rw [Led.signM,List.length_cons];omega
theorem Led.signM_snoc (mark:List UInt8) (bad:List (List UInt8)):∀ (r:List Pw.Mem) (tab:List Sg) (m:Pw.Mem),Led.signM mark bad tab (r++ [m])=(sign (Led.signM mark bad tab r) m.1 mark (decide (m.1 ∉ bad))).1
 | [],tab,m=>rfl
 |x::r,tab,m=>by rw [List.cons_append,Led.signM,Led.signM_snoc mark bad r]; rfl
theorem Led.signE_snoc (bad:List (List UInt8)):∀ (r:List En) (tab:List Sg) (e:En),Led.signE bad tab (r++ [e])=Led.signM (Led.mkW e.sum) bad (Led.signE bad tab r) e.set
 | [],tab,e=>rfl
 |x::r,tab,e=>by rw [List.cons_append,Led.signE,Led.signE_snoc bad r]; rfl
theorem Led.signE_len (bad:List (List UInt8)):∀ (r:List En) (tab:List Sg),(∀ e∈r,e.set.length≤7)→(Led.signE bad tab r).length≤tab.length+7*r.length
 | [],tab,h=>by simp [Led.signE]
 |e::r,tab,h=>by
  have a:=Led.signE_len bad r (Led.signM (Led.mkW e.sum) bad tab e.set) (fun x hx=>h x (by simp [hx]));have b:=Led.signM_len (Led.mkW e.sum) bad e.set tab;have c:=h e (by simp);rw [Led.signE,List.length_cons];omega
def Led.signW (bad:List (List UInt8)) (L:List En):List Sg:=Led.signE bad [] (L.drop 1)
def SignedEnd (w:World) (tab:List Sg) (e:Ending) (w':World):Prop:=
 ∃ (mb:Nat) (v:Value),e= .returned (.pointer (some ⟨mb+1,0,none⟩))∧Tab w' mb v tab∧w.heap.size≤mb∧Below w.heap.size w w'
theorem law35_signed (w:World) (l:List EnM) (hW:Led.Wf (l.map (·.en))) (h17:l.length≤17) (A:Option Addr) (c:Nat) (HL:EntsAt w A l) (bad:List (List UInt8)) (hbad:bad.length≤9223372036854775807) (bA:Option Addr) (bc:Nat) (HB:Reads w w.heap.size 1 bA bad.length (strv bad)) (x0 x1 x2:Value):
  Calls Tryz.prog 11 #[.agg #[x0,x1,x2,.slice bA bad.length bc],.slice A l.length c] w (SignedEnd w (Led.signW bad (l.map (·.en)))):=by
 have HP:Hid (∀ mb v w',Tab w' mb v (Led.signW bad (l.map (·.en)))→w.heap.size≤mb→Below w.heap.size w w'→SignedEnd w (Led.signW bad (l.map (·.en))) (.returned (.pointer (some ⟨mb+1,0,none⟩))) w'):=ι (fun mb v w' h1 h2 h3=>⟨mb,v,rfl,h1,h2,h3⟩);generalize hX:Led.signW bad (l.map (·.en))=X at HP ⊢;have HX:=ι hX;generalize SignedEnd w X=P at HP ⊢;have HWW:=ι hW;have HLL:=ι HL;have HBB:=ι (And.intro HB hbad);have H17:=ι h17;clear hX hW HL HB hbad h17;go_enter Tryz.func11,Tryz.ntmps11
 go_upto_region 1 with fail
 have F0:=Live.ha (ι (Live.start w)) #[x0,x1,x2,.slice bA bad.length bc] 27;generalize World.alloc w _=w1 at F0 ⊢;generalize w.heap.size=xb at F0 ⊢;go_wp2_with fail
 refine (orc_New w1).mono ?_;rintro e w2 ⟨rfl,hT,hb,_⟩;have HT2:=ι hT;have HB2:=ι hb;clear hT hb;have HSz:Hid (w.heap.size≤w1.heap.size):=ι F0.out.b.size;have HXb:Hid (xb<w1.heap.size):=ι (F0.out.lt 0 rfl);generalize w1.heap.size=mb at *;go_wp2_with fail
 refine wp_loop_ghost_k (fun k a wr=>∀ Φ:Act→Prop,(∀ ⦃s0 s3 s7 s8 s9 a0 a3 a4 a5 a6 a7 a8 a9 b0 b1 b2 b3 b4 b5 b6 b7 b8 b9 c0 c1 c2 c3 c4 c5 c6 c7 c8 c9 d0 d1 d2 d3 d4 d5 d6 d7 d8 d9 e0 e2 e3 e4 e5 e6 e7 e8 e9 f0 f1 f2 f3:Value⦄ (i:Nat) (v:Value),(i+k=l.length+1∧1≤i∧Tab wr mb v (Led.signE bad [] (((l.map (·.en)).take i).drop 1))∧Below mb w1 wr)→Φ {tmps:=#[s0,.slice A l.length c,.pointer (some ⟨xb,0,none⟩),s3,.pointer none,.pointer (some ⟨mb+1,0,none⟩),.int .i64 (i:Int),s7,s8,s9,a0,a3,a4,a5,a6,a7,a8,a9,b0,b1,b2,b3,b4,b5,b6,b7,b8,b9,c0,c1,c2,c3,c4,c5,c6,c7,c8,c9,d0,d1,d2,d3,d4,d5,d6,d7,d8,d9,e0,e2,e3,e4,e5,e6,e7,e8,e9,f0,f1,f2,f3],defers:= []})→Φ a) (l.length) ?_ ?_
 ·refine fun Φ hΦ=>hΦ (1) (.slice none 0 0) ?_;exact ⟨by omega,Nat.le_refl _,by rw [List.drop_of_length_le (List.length_take_le _ _)]; exact HT2.out,HB2.out⟩
 ·intro k1 a1 wr1 hI1 J1 K1 hJ1 hK1;refine hI1 (fun a=>Code.wp _ _ _ a _) ?_;clear hI1 a1;intro s0 s1 s2 s3 s4 s5 s6 s7 s8 s9 a0 a3 a4 a5 a6 a7 a8 a9 b0 b1 b2 b3 b4 b5 b6 b7 b8 b9 c0 c1 c2 c3 c4 c5 c6 c7 c8 c9 d0 d1 d2 d3 d4 d5 d6 d7 d8 d9 e0 e2 e3 e4 e5 e6 e7 e8 i v hrel
  show Code.wp _ _ _ _ _;obtain ⟨h1,h2,h3,hb⟩:=hrel;by_cases hi:i<l.length
  ·obtain ⟨ad,off,hA,hbl,hcell⟩:=ent_cells HLL.out.r hi;subst hA;have HOk:=ι (HLL.out.o _ (List.getElem_mem hi));have HOne:=ι (HWW.out.one i (by rw [List.length_map]; exact hi));simp only [List.getElem_map] at HOne;have HR:Hid (∀ W,Below mb w1 W→∀ (q:Nat) (u:Value),(ecell l[i])[q]?=some u→W.cell? ⟨ad,off+i*17+q,none⟩=some u):=ι (fun W hW q u hu=>hcell W (F0.out.b.trans (hW.mono HSz.out)) q u hu);have HSn:Hid (Led.signE bad [] (((l.map (·.en)).take (i+1)).drop 1)=Led.signM (Led.mkW l[i].en.sum) bad (Led.signE bad [] (((l.map (·.en)).take i).drop 1)) l[i].en.set):=ι (by
    rw [List.take_succ_eq_append_getElem (by rw [List.length_map]; exact hi),List.drop_append_of_le_length (by rw [List.length_take,List.length_map]; omega),Led.signE_snoc,List.getElem_map])
   have hi1:(i:Int)<l.length:=by omega
   have hi0:(0:Int)≤i:=by omega
   have hwi:IntKind.i64.wrap ((i:Int)+1)=(i:Int)+1:=IntWalk.i64_in _ (by have:=H17.out; omega);have HI:=ι (And.intro h1 (And.intro h2 hi));have HT3:=ι h3;have HB3:=ι hb;clear h1 h2 h3 hb hcell hbl;obtain ⟨p,hp⟩:∃ p,l[i]=p:=⟨_,rfl⟩
   rw [hp] at HOk HOne HR HSn;clear hp hi;have r11:wr1.cell? ⟨ad,off+i*17+11,none⟩=some (p.en.sum:Value):=HR.out _ HB3.out 11 _ rfl;have HTl:Hid ((Led.signE bad [] (((l.map (·.en)).take i).drop 1)).length≤119):=ι (by
    have a:=Led.signE_len bad (((l.map (·.en)).take i).drop 1) [] (fun e he=>by
     obtain ⟨q,hq,e1⟩:=List.getElem_of_mem (List.mem_of_mem_take (List.mem_of_mem_drop he))
     have:=HWW.out.one q hq
     rw [e1] at this;exact (Pw.okM_len this.set).2)
    have b:(((l.map (·.en)).take i).drop 1).length≤17:=by rw [List.length_drop,List.length_take,List.length_map]; have:=H17.out; omega
    simp only [List.length_nil] at a;omega)
   generalize Led.signE bad [] (((l.map (·.en)).take i).drop 1)=tab at *;have hs32:=HOne.out.sum_len;have HMk:=ι (ref07_Mark6 wr1 p.en.sum (by omega));rw [if_pos hs32,if_pos hs32] at HMk;have hmk:Led.mkW p.en.sum=Led.markW p.en.sum:=if_pos hs32;rw [hmk] at HSn;generalize Led.markW p.en.sum=mk at HMk HSn;clear hs32 hmk;go_wp2_with fail
   refine HMk.out.mono ?_;rintro e w3 ⟨rfl,hb3⟩;have HT4:=ι (HT3.out.below hb3);have HB4:=ι (HB3.out.trans (hb3.mono (Nat.le_of_lt HT3.out.map.lt)));clear hb3 HMk r11 HT3 HB3;go_wp2_with fail
   refine wp_loop_ghost_k (fun k a wr=>∀ Φ:Act→Prop,(∀ ⦃s0 s3 s8 a0 a3 a4 a5 a6 a7 a8 a9 b0 b1 b2 b3 b4 b5 b6 b7 b8 b9 c0 c1 c2 c3 c4 c5 c6 c7 c8 c9 d0 d1 d2 d3 d4 d5 d6 d7 d8 d9 e0 e2 e3 e4 e5 e6 e7 e8 e9 f0 f1 f2 f3:Value⦄ (j:Nat) (v:Value),(j+k=p.en.set.length∧Tab wr mb v (Led.signM mk bad tab (p.en.set.take j))∧Below mb w1 wr)→Φ {tmps:=#[s0,.slice (some ⟨ad,off,none⟩) l.length c,.pointer (some ⟨xb,0,none⟩),s3,.pointer none,.pointer (some ⟨mb+1,0,none⟩),.int .i64 (i:Int),.string ⟨mk.toArray⟩,s8,.int .i64 (j:Int),a0,a3,a4,a5,a6,a7,a8,a9,b0,b1,b2,b3,b4,b5,b6,b7,b8,b9,c0,c1,c2,c3,c4,c5,c6,c7,c8,c9,d0,d1,d2,d3,d4,d5,d6,d7,d8,d9,e0,e2,e3,e4,e5,e6,e7,e8,e9,f0,f1,f2,f3],defers:= []})→Φ a) (p.en.set.length) ?_ ?_
   ·refine fun Φ hΦ=>hΦ (0) (v) ?_;exact ⟨by omega,HT4.out,HB4.out⟩
   ·intro k2 a2 wr2 hI2 J2 K2 hJ2 hK2;refine hI2 (fun a=>Code.wp _ _ _ a _) ?_;clear hI2 a2;iterate 54 (intro _)
    intro j v2 hrel
    show Code.wp _ _ _ _ _;obtain ⟨h1,h2,h3⟩:=hrel;have HTj:=ι h2;have HBj:=ι h3;have r5:=HR.out _ h3 15 _ rfl;have hbw:=F0.out.b.trans (h3.mono HSz.out);by_cases hj:j<p.en.set.length
    ·obtain ⟨ad2,off2,hA2,hbl2,hcell2⟩:=mem_cells HOk.out.s hj;rw [hA2] at r5;have q0:=(hcell2 _ hbw).1;have kx:wr2.cell? ⟨xb,3,none⟩=some (.slice bA bad.length bc):=(h3.cell (p:=⟨xb,3,none⟩) HXb.out).trans (F0.out.cell 0 3 rfl rfl);have hj1:(j:Int)<p.en.set.length:=by omega
     have hj0:(0:Int)≤j:=by omega
     have h7:=(Pw.okM_len HOne.out.set).2;have hwj:IntKind.i64.wrap ((j:Int)+1)=(j:Int)+1:=IntWalk.i64_in _ (by omega);have HSj:Hid (Led.signM mk bad tab (p.en.set.take (j+1))=(sign (Led.signM mk bad tab (p.en.set.take j)) p.en.set[j].1 mk (decide (p.en.set[j].1 ∉ bad))).1):=ι (by
      rw [List.take_succ_eq_append_getElem hj,Led.signM_snoc])
     have HLj:Hid ((Led.signM mk bad tab (p.en.set.take j)).length≤1000):=ι (by
      have a:=Led.signM_len mk bad (p.en.set.take j) tab;have b:(p.en.set.take j).length≤7:=by rw [List.length_take]; omega
      have c:=HTl.out;omega)
     have HOn:=ι (fun s=>law35_one wr2 bad bA bc ((HBB.out.1.below hbw).more hbw.size) HBB.out.2 s);have HJ:=ι (And.intro h1 hj);clear h1 h2 h3 hcell2 hbl2 h7;generalize p.en.set[j].1=nm at *;clear hj;generalize Led.signM mk bad tab (p.en.set.take j)=tj at *;go_wp2_with fail
     refine (HOn.out _).mono ?_;rintro e w4 ⟨oA,oc,rfl,hb4,_⟩;have HT5:=ι (HTj.out.below hb4);have HB5:=ι (HBj.out.trans (hb4.mono (Nat.le_of_lt HTj.out.map.lt)));have HSg:=ι (fun h=>orc_Sign w4 mb v2 tj HT5.out HLj.out nm mk h);clear hb4 HOn;have hlen:Hid ((((Led.oneL bad nm).length:Int)==0)=decide (nm ∉ bad)):=ι (by
      unfold Led.oneL;by_cases hm:nm∈bad<;>simp [hm])
     have hl0:=hlen.out;generalize decide (nm ∉ bad)=hh at *;go_wp2_with fail
     refine (HSg.out _).mono ?_;rintro e w5 ⟨rfl,v',hT6,hK,_⟩;have HT6:=ι hT6;have HB6:=ι (HB5.out.trans (hK.below (Nat.le_of_lt HT5.out.map.lt) (TabX.ge HT5.out)));clear hT6 hK;go_wp2_with fail
     refine Handed.intro (p.en.set.length - (j+1)) ?_ (hJ2 _ _ _ (fun Φ hΦ=>hΦ (j+1) (v') ?_))
     ·have:=HJ.out; omega
     ·exact ⟨by have:=HJ.out; omega,by rw [HSj.out]; exact HT6.out,HB6.out⟩
    ·have hj1:((j:Int)<p.en.set.length)=False:=by simp; omega
     have HTe:Hid (Tab wr2 mb v2 (Led.signM mk bad tab p.en.set)):=ι (by rw [List.take_of_length_le (by omega)] at h2; exact h2);clear h1 h2 h3 hj;go_wp2_with fail
     refine Handed.intro (l.length - i) ?_ (hJ1 _ _ _ (fun Φ hΦ=>hΦ (i+1) (v2) ?_))
     ·have:=HI.out; omega
     ·exact ⟨by have:=HI.out; omega,by omega,by rw [HSn.out]; exact HTe.out,HBj.out⟩
  ·have hi1:((i:Int)<l.length)=False:=by simp; omega
   have HY:Hid (X=Led.signE bad [] (((l.map (·.en)).take i).drop 1)):=ι (by rw [←HX.out,Led.signW,List.take_of_length_le (by rw [List.length_map]; omega)]);have HTT:=ι h3;have HBw:=ι hb;clear h1 h2 h3 hb hi;go_wp2_with fail
   exact HP.out mb v _ (by rw [HY.out]; exact HTT.out) HSz.out (F0.out.b.trans (HBw.out.mono HSz.out))
end
namespace Ac
open Pw
abbrev nam (l:List Mem):List (List UInt8):=l.map (·.1)
def ofM (l:List Mem) (ns:List (List UInt8)):Int:=if okM l then sumM (l.filter fun m=>decide (m.1∈ns)) else 0
def certC (set:List Mem) (d:List UInt8) (sg:List (List UInt8)) (tab:List Sg):Nat:=
 if okM set=false then 50 else if Ce.mayC d sg=false then 3 else if sg.any (fun s=>decide (ofM set [s]=0)) then 5
 else if sg.any (fun s=> !(atRow (s,Led.mkW d) tab).isSome) then 70 else if ofM set sg<quoM set then 71 else 0
def trustB (h:Hd) (set:List Mem) (a:Int):Bool:=Hd.ok h && decide (0≤a) && decide (a≤1099511627776) && okM set && decide (digM set=h.nxt)
def behI (h:Hd):Int:=if h.last then h.epo+1 else h.epo
def placeC (t h:Hd):Nat:=if h.hgt≤t.hgt then 1 else if h.epo≠behI t then 340 else if h.mem≠t.nxt then 340 else 0
def ansB (code hgt:Int) (hs:List Hd) (set nxt:List Mem) (d:List UInt8) (sg:List (List UInt8)):Bool:=
 decide (0≤code) && decide (code≤1000) && (decide (0≤hgt) && decide (hgt≤1048576)) && (decide (code=0)||(hs.isEmpty && set.isEmpty && nxt.isEmpty && (d.isEmpty && sg.isEmpty)))
 && decide (hs.length≤64) && (set.isEmpty||okM set) && (nxt.isEmpty||okM nxt) && ((d.isEmpty && sg.isEmpty)||Ce.mayC d sg) && hs.all Hd.ok
def toldO (code hgt:Int) (hs:List Hd) (set nxt:List Mem) (d:List UInt8) (sg:List (List UInt8)):Option Hd:=
 if ansB code hgt hs set nxt d sg=false∨code≠0 then none else match hs with
 | [h]=>if h.hgt=hgt then some h else none
 |_=>none
def accC (t:Hd) (tn:List Mem) (ta:Int) (code hgt:Int) (hs:List Hd) (set nxt:List Mem) (d:List UInt8) (sg:List (List UInt8)) (now:Int) (tab:List Sg):Nat:=
 if trustB t tn ta=false∨now<0∨1099511627776<now then 3 else match toldO code hgt hs set nxt d sg with
 |none=>360
 |some h=>if placeC t h≠0 then placeC t h else if digM nxt≠h.nxt then 50 else if (Hd.link h t.hgt).2=0∧(Hd.link h t.hgt).1≠Hd.dig t then 200 else if d≠Hd.dig h then 360 else certC tn d sg tab
theorem sumM_nonneg:∀ (l:List Mem),(∀ m∈l,1≤m.2)→0≤sumM l
 | [],_=>by simp [sumM]
 |m::r,h=>by
  have:=h m (by simp)
  have:=sumM_nonneg r (fun x hx=>h x (by simp [hx]))
  rw [sumM]; omega
theorem sumM_pos:∀ (l:List Mem),(∀ m∈l,1≤m.2)→l≠ []→1≤sumM l
 | [],_,h=>absurd rfl h
 |m::r,h,_=>by
  have:=h m (by simp)
  have:=sumM_nonneg r (fun x hx=>h x (by simp [hx]))
  rw [sumM]; omega
theorem sumM_filter_le:∀ (l:List Mem) (p:Mem→Bool),(∀ m∈l,1≤m.2)→0≤sumM (l.filter p)∧sumM (l.filter p)≤sumM l
 | [],p,_=>by simp [sumM]
 |m::r,p,h=>by
  have:=h m (by simp)
  have:=sumM_filter_le r p (fun x hx=>h x (by simp [hx]))
  rw [List.filter_cons]
  split<;>simp only [sumM]<;>omega
theorem ofM_one {l:List Mem} (h:okM l=true) {m:Mem} (hm:m∈l):ofM l [m.1]≠0:=by
 unfold ofM;rw [if_pos h]
 have:=sumM_pos (l.filter fun x=>decide (x.1∈ [m.1])) (fun x hx=>(okM_all h x (List.mem_filter.1 hx).1).2.2.1) (by
  intro e
  have:m∈l.filter fun x=>decide (x.1∈ [m.1]):=List.mem_filter.2 ⟨hm,by simp⟩
  rw [e] at this;cases this)
 omega
theorem ofM_all (l:List Mem):ofM l (nam l)=totM l:=by
 unfold ofM totM
 split
 ·congr 1
  refine List.filter_eq_self.2 fun m hm=> ?_;exact decide_eq_true (List.mem_map_of_mem hm)
 ·rfl
theorem quo_le {l:List Mem} (h:okM l=true):quoM l≤totM l:=by
 have h1:=sumM_pos l (fun m hm=>(okM_all h m hm).2.2.1) (by intro e; have:=okM_len h; rw [e] at this; simp at this);have h2:totM l=sumM l:=if_pos h;unfold quoM;rw [h2,if_neg (by omega),Int.tdiv_eq_ediv_of_nonneg (by omega)];omega
theorem nam_ris:∀ (l:List Mem) (last:List UInt8),risM last l=true→Ce.risS last (nam l)=true
 | [],_,_=>rfl
 |m::r,last,h=>by
  simp only [risM,Bool.and_eq_true,decide_eq_true_eq] at h;simp only [nam,List.map_cons,Ce.risS,Bool.and_eq_true,decide_eq_true_eq];exact ⟨⟨h.1.1.1.1,h.1.1.1.2⟩,nam_ris r m.1 h.2⟩
theorem nam_may {l:List Mem} (h:okM l=true) {d:List UInt8} (hd:d.length=32):Ce.mayC d (nam l)=true:=by
 have hl:=okM_len h;simp only [okM,Bool.and_eq_true,decide_eq_true_eq] at h;unfold Ce.mayC;simp only [Bool.and_eq_true,decide_eq_true_eq,List.length_map];exact ⟨⟨hd,hl.2⟩,nam_ris l [] h.2⟩
def keysT (l:List Sg):List (List UInt8 × List UInt8):=l.map fun x=>(x.1,x.2.1)
theorem at_keys (k:List UInt8 × List UInt8) (l:List Sg):(atRow k l).isSome=decide (k∈keysT l):=by
 rw [atRow_isSome,keysT,Bool.eq_iff_iff];simp only [List.any_eq_true,decide_eq_true_eq,List.mem_map]
 constructor
 ·rintro ⟨x,hx,rfl⟩; exact ⟨x,hx,rfl⟩
 ·rintro ⟨x,hx,rfl⟩; exact ⟨x,hx,rfl⟩
theorem keys_set (l:List Sg) (n:Nat) (k:List UInt8 × List UInt8) (h:Bool) (hn:atRow k l=some n):keysT (l.set n (k.1,k.2,h))=keysT l:=by
 obtain ⟨x,hx,hk⟩:=atRow_lt hn;unfold keysT;rw [List.map_set];apply List.ext_getElem?
 intro i;by_cases hi:n=i
 ·subst hi;have hl:=(List.getElem?_eq_some_iff.1 hx).1;rw [List.getElem?_set_self (by simpa using hl),List.getElem?_map,hx,←hk];rfl
 ·rw [List.getElem?_set_ne hi]
theorem keys_sign (l:List Sg) (who mark:List UInt8) (h:Bool):∀ k∈keysT l,k∈keysT (sign l who mark h).1:=by
 intro k hk;unfold sign
 split
 ·exact hk
 split
 ·exact hk
 split
 ·rename_i n hn;rw [keys_set l n (who,mark) _ hn];exact hk
 split
 ·exact hk
 ·simp only [keysT,List.map_append,List.mem_append] at hk ⊢;exact .inl hk
theorem keys_has (l:List Sg) (who mark:List UInt8) (h:Bool) (h1:who.length≠0) (h2:who.length≤6) (h3:mark.length=32) (hl:l.length<1024):(who,mark)∈keysT (sign l who mark h).1:=by
 unfold sign;rw [if_neg (by omega),if_neg (by omega)]
 split
 ·rename_i n hn;rw [keys_set l n (who,mark) _ hn]
  have:=at_keys (who,mark) l
  rw [hn] at this;simpa using this.symm
 ·rw [if_neg (by omega)];simp [keysT]
theorem signM_keep (mark:List UInt8) (bad:List (List UInt8)):∀ (r:List Mem) (tab:List Sg),∀ k∈keysT tab,k∈keysT (Led.signM mark bad tab r)
 | [],tab,k,hk=>hk
 |m::r,tab,k,hk=>by
  rw [Led.signM];exact signM_keep mark bad r _ k (keys_sign _ _ _ _ k hk)
theorem signM_has (mark:List UInt8) (h3:mark.length=32) (bad:List (List UInt8)):∀ (r:List Mem) (tab:List Sg),(∀ m∈r,m.1.length≤6∧m.1≠ [])→tab.length+r.length≤1024→∀ m∈r,(m.1,mark)∈keysT (Led.signM mark bad tab r)
 | [],tab,_,_,m,hm=>by cases hm
 |x::r,tab,h,hl,m,hm=>by
  rw [Led.signM];rw [List.length_cons] at hl;have hx:=h x (by simp);have hs:=Led.sign_len tab x.1 mark (decide (x.1 ∉ bad));rcases List.mem_cons.1 hm with rfl|hm
  ·refine signM_keep mark bad r _ _ (keys_has tab m.1 mark _ ?_ hx.1 h3 (by omega));intro e;exact hx.2 (List.eq_nil_of_length_eq_zero e)
  ·exact signM_has mark h3 bad r _ (fun y hy=>h y (by simp [hy])) (by omega) m hm
theorem signE_keep (bad:List (List UInt8)):∀ (r:List En) (tab:List Sg),∀ k∈keysT tab,k∈keysT (Led.signE bad tab r)
 | [],tab,k,hk=>hk
 |e::r,tab,k,hk=>by
  rw [Led.signE];exact signE_keep bad r _ k (signM_keep _ bad _ _ k hk)
theorem signE_has (bad:List (List UInt8)):∀ (r:List En) (tab:List Sg),(∀ e∈r,okM e.set=true∧e.sum.length=32)→tab.length+7*r.length≤1024→∀ e∈r,∀ m∈e.set,(m.1,Led.mkW e.sum)∈keysT (Led.signE bad tab r)
 | [],tab,_,_,e,he=>by cases he
 |x::r,tab,h,hl,e,he=>by
  rw [Led.signE];rw [List.length_cons] at hl;have hx:=h x (by simp);have hxl:=(okM_len hx.1).2;have hs:=Led.signM_len (Led.mkW x.sum) bad x.set tab;rcases List.mem_cons.1 he with rfl|he
  ·intro m hm;refine signE_keep bad r _ _ (signM_has _ ?_ bad _ _ (fun y hy=>⟨(okM_all hx.1 y hy).1,(okM_all hx.1 y hy).2.1⟩) (by omega) m hm);unfold Led.mkW;rw [if_pos hx.2];exact shaW_length _
  ·exact signE_has bad r _ (fun y hy=>h y (by simp [hy])) (by omega) e he
theorem signW_has {L:List En} (h:Led.Wf L) (h17:L.length≤17) (bad:List (List UInt8)) {j:Nat} (hj:j<L.length) (h0:0<j):∀ m∈L[j].set,(atRow (m.1,Led.mkW L[j].sum) (Led.signW bad L)).isSome=true:=by
 intro m hm;rw [at_keys,decide_eq_true_eq];unfold Led.signW;refine signE_has bad _ [] (fun e he=> ?_) ?_ L[j] ?_ m hm
 ·obtain ⟨i,hi,rfl⟩:=List.mem_iff_getElem.1 (List.mem_of_mem_drop he);exact ⟨(h.one i hi).set,(h.one i hi).sum_len⟩
 ·rw [List.length_drop,List.length_nil]; omega
 ·rw [List.mem_iff_getElem];exact ⟨j - 1,by rw [List.length_drop]; omega,by rw [List.getElem_drop]; congr 1; omega⟩
theorem wf_epo {L:List En} (h:Led.Wf L) (i:Nat):∀ (d:Nat) (hd:i+1+d<L.length),behI (L[i]'(by omega)).hd≤L[i+1+d].hd.epo∧(L[i+1+d].hd.epo=behI (L[i]'(by omega)).hd→L[i+1+d].set=(L[i]'(by omega)).nxt∧L[i+1+d].hd.mem=(L[i]'(by omega)).hd.nxt)
 |0,hd=>by
  have t:=h.two i hd;exact ⟨by unfold behI; have:=t.epo; simp only [Nat.add_zero]; omega,fun _=>⟨t.set,t.mem⟩⟩
 |d+1,hd=>by
  obtain ⟨a,b⟩:=wf_epo h i d (by omega);have t:=h.two (i+1+d) (by omega);have hp:=h.two (i+d) (by omega);have e1:i+1+(d+1)=i+1+d+1:=by omega
  have e2:i+d+1=i+1+d:=by omega
  simp only [e1];simp only [e2] at hp;have te:=t.epo;cases hl:L[i+1+d].hd.last with
  |true=>
   rw [hl] at te;simp only [if_true] at te;exact ⟨by omega,fun e=>by omega⟩
  |false=>
   rw [hl] at te;simp only [Bool.false_eq_true,if_false] at te;refine ⟨by omega,fun e=> ?_⟩;obtain ⟨b1,b2⟩:=b (by omega);obtain ⟨n1,n2⟩:=hp.nxt hl;rw [t.set,t.mem,n1,n2,←hp.set,←hp.mem];exact ⟨b1,b2⟩
theorem wf_epo' {L:List En} (h:Led.Wf L) {i j:Nat} (hij:i<j) (hj:j<L.length):behI (L[i]'(by omega)).hd≤L[j].hd.epo∧(L[j].hd.epo=behI (L[i]'(by omega)).hd→L[j].set=(L[i]'(by omega)).nxt∧L[j].hd.mem=(L[i]'(by omega)).hd.nxt):=by
 obtain ⟨d,rfl⟩:∃ d,j=i+1+d:=⟨j - i - 1,by omega⟩
 exact wf_epo h i d hj
theorem link_own {L:List En} (h:Led.Wf L) {i j:Nat} (hi:i<L.length) (hj:j<L.length):(Hd.link L[j].hd L[i].hd.hgt).2=0→(Hd.link L[j].hd L[i].hd.hgt).1=Hd.dig L[i].hd:=by
 have oi:=h.one i hi;have oj:=h.one j hj;have hsk:=h.sk j hj;rw [oi.hgt,←oi.sum];unfold Hd.link;rw [if_neg (by rw [(Hd.ok_iff _).2 oj.ok]; decide),oj.hgt]
 split
 ·rename_i hc;intro _;obtain ⟨n,rfl⟩:∃ n,j=n+1:=⟨j - 1,by omega⟩
  have:i=n:=by omega
  subst this;exact (h.two i hj).par
 split
 ·rename_i k hk;intro _;obtain ⟨hkl,hp,_⟩:=List.findIdx?_eq_some_iff_getElem.1 hk;simp only [decide_eq_true_eq] at hp;rw [hsk,List.getElem?_map,List.getElem?_eq_getElem hkl];simp only [Option.map_some,Option.getD_some];have e:(Hd.linksH (j:Int))[k]=i:=by omega
  rw [e,Led.sumAt_of hi]
 ·intro hx; cases hx
def ownC (L:List En) (i j:Nat):Nat:=if j≤i then 1 else if (L[j]?).map (·.hd.epo)=(L[i]?).map (fun e=>behI e.hd) then 0 else 340
theorem trust_own {L:List En} (h:Led.Wf L) {i:Nat} (hi:i<L.length) {a:Int} (h0:0≤a) (h1:a≤1099511627776):trustB L[i].hd L[i].nxt a=true:=by
 have o:=h.one i hi;unfold trustB;simp only [Bool.and_eq_true,decide_eq_true_eq];exact ⟨⟨⟨⟨(Hd.ok_iff _).2 o.ok,h0⟩,h1⟩,o.nxt⟩,o.dnxt⟩
theorem acc_own {L:List En} (h:Led.Wf L) (h17:L.length≤17) (bad:List (List UInt8)) {i j:Nat} (hi:i<L.length) (hj:j<L.length) {a now:Int} (h0:0≤a) (h1:a≤1099511627776) (h2:0≤now) (h3:now≤1099511627776):
  accC L[i].hd L[i].nxt a 0 j [L[j].hd] L[j].set L[j].nxt L[j].sum (nam L[j].set) now (Led.signW bad L)=ownC L i j:=by
 have oi:=h.one i hi;have oj:=h.one j hj;have hle:=h.le;have hmay:=nam_may oj.set oj.sum_len;have hans:ansB 0 j [L[j].hd] L[j].set L[j].nxt L[j].sum (nam L[j].set)=true:=by
  unfold ansB;simp only [Bool.and_eq_true,Bool.or_eq_true,decide_eq_true_eq,List.length_singleton,List.all_cons,List.all_nil];exact ⟨⟨⟨⟨⟨⟨⟨⟨by omega,by omega⟩,by omega,by omega⟩,.inl trivial⟩,by omega⟩,.inr oj.set⟩,.inr oj.nxt⟩,.inr hmay⟩,(Hd.ok_iff _).2 oj.ok,trivial⟩
 have htold:toldO 0 j [L[j].hd] L[j].set L[j].nxt L[j].sum (nam L[j].set)=some L[j].hd:=by
  unfold toldO;rw [hans,if_neg (by simp)];simp only
  rw [if_pos oj.hgt]
 unfold accC;rw [trust_own h hi h0 h1,if_neg (by simp; omega),htold];simp only
 unfold ownC;by_cases hij:j≤i
 ·have hp:placeC L[i].hd L[j].hd=1:=by
   unfold placeC;rw [oi.hgt,oj.hgt,if_pos (by omega)]
  rw [hp,if_pos (by decide),if_pos hij]
 rw [if_neg hij,List.getElem?_eq_getElem hi,List.getElem?_eq_getElem hj];simp only [Option.map_some,Option.some.injEq];obtain ⟨e1,e2⟩:=wf_epo' h (by omega:i<j) hj;by_cases he:L[j].hd.epo=behI L[i].hd
 ·obtain ⟨s1,s2⟩:=e2 he;have hp:placeC L[i].hd L[j].hd=0:=by
   unfold placeC;rw [oi.hgt,oj.hgt,if_neg (by omega),if_neg (by simp [he]),if_neg (by simp [s2])]
  rw [hp,if_neg (by simp),if_neg (by simp [oj.dnxt]),if_neg (by intro hc; exact hc.2 (link_own h hi hj hc.1)),if_neg (by simp [oj.sum]),if_pos he];rw [s1] at hmay;have hk:=signW_has h h17 bad hj (by omega);rw [s1] at hk ⊢;unfold certC;rw [if_neg (by simp [oi.nxt]),if_neg (by simp [hmay]),if_neg,if_neg,if_neg]
  ·have:=quo_le oi.nxt
   have:=ofM_all L[i].nxt
   omega
  ·intro hc;rw [List.any_eq_true] at hc;obtain ⟨s,hs,hx⟩:=hc;obtain ⟨m,hm,rfl⟩:=List.mem_map.1 hs;rw [hk m hm] at hx;cases hx
  ·intro hc;rw [List.any_eq_true] at hc;obtain ⟨s,hs,hx⟩:=hc;obtain ⟨m,hm,rfl⟩:=List.mem_map.1 hs;exact ofM_one oi.nxt hm (of_decide_eq_true hx)
 ·have hp:placeC L[i].hd L[j].hd=340:=by
   unfold placeC;rw [oi.hgt,oj.hgt,if_neg (by omega),if_pos he]
  rw [hp,if_pos (by decide),if_neg he]
end Ac
section
open Go.RowKit Go.Instr
abbrev HdM:=Hd × Option Addr × Nat
def hcell (x:HdM):List Value:= [.int .i64 x.1.hgt,.int .i64 x.1.epo,.int .i64 x.1.vw,.bool x.1.last,.string ⟨x.1.par.toArray⟩,.string ⟨x.1.st.toArray⟩,.string ⟨x.1.rc.toArray⟩,.string ⟨x.1.tx.toArray⟩,.string ⟨x.1.mem.toArray⟩,.string ⟨x.1.nxt.toArray⟩,.slice x.2.1 x.1.sk.length x.2.2]
theorem hcell_len (x:HdM):(hcell x).length=11:=rfl
theorem hcell_one (x:HdM):∀ u∈hcell x,u.oneCell'=true:=by
 intro u hu;simp only [hcell,List.mem_cons,List.not_mem_nil,or_false] at hu;rcases hu with rfl|rfl|rfl|rfl|rfl|rfl|rfl|rfl|rfl|rfl|rfl<;>rfl
abbrev hdcells (l:List HdM):List Value:=l.flatMap hcell
theorem range_head {w:World} {g t:Nat} {cs:Array Value} {xs:List Value} (h:Blk w g t cs) (hx:cs.toList.take xs.length=xs):w.rangeAt g 0 xs:=fun j v hv=>by
 rw [Nat.zero_add,h.cell];have hl:j<xs.length:=(List.getElem?_eq_some_iff.1 hv).1;rw [←hx,List.getElem?_take,if_pos hl] at hv;simpa using hv
structure AnM where
 hs:List HdM
 hA:Option Addr
 hc:Nat
 set:List Pw.Mem
 sA:Option Addr
 sc:Nat
 nxt:List Pw.Mem
 nA:Option Addr
 nc:Nat
 d:List UInt8
 sg:List (List UInt8)
 gA:Option Addr
 gc:Nat
structure AnAt (w:World) (x:AnM):Prop where
 h:Reads w w.heap.size 11 x.hA x.hs.length (hdcells x.hs)
 ho:∀ y∈x.hs,OkH y.1∧Reads w w.heap.size 1 y.2.1 y.1.sk.length (strv y.1.sk)
 hl:x.hs.length<9223372036854775807
 s:Reads w w.heap.size 2 x.sA x.set.length (mcells x.set)
 so:∀ y∈x.set,y.1.length≤9223372036854775807
 n:Reads w w.heap.size 2 x.nA x.nxt.length (mcells x.nxt)
 no:∀ y∈x.nxt,y.1.length≤9223372036854775807
 d:x.d.length≤9223372036854775807
 g:Reads w w.heap.size 1 x.gA x.sg.length (strv x.sg)
 go:∀ y∈x.sg,y.length≤9223372036854775807
 gl:x.sg.length≤9223372036854775807
theorem AnAt.next {w w':World} {x:AnM} (h:AnAt w x) (hb:Below w.heap.size w w'):AnAt w' x:=
 {h with h:=(h.h.below hb).more hb.size,ho:=fun y hy=>⟨(h.ho y hy).1,((h.ho y hy).2.below hb).more hb.size⟩,s:=(h.s.below hb).more hb.size,n:=(h.n.below hb).more hb.size,g:=(h.g.below hb).more hb.size}
def AnM.ansB (x:AnM) (hgt:Int):Bool:=Ac.ansB 0 hgt (x.hs.map (·.1)) x.set x.nxt x.d x.sg
theorem AnM.ansB_eq (x:AnM) (hgt:Int):x.ansB hgt=((decide (0≤hgt) && decide (hgt≤1048576)) && (decide (x.hs.length≤64) && ((x.set.isEmpty||Pw.okM x.set) && ((x.nxt.isEmpty||Pw.okM x.nxt) && (((x.d.isEmpty && x.sg.isEmpty)||Ce.mayC x.d x.sg) && x.hs.all fun y=>Hd.ok y.1))))):=by
 unfold AnM.ansB Ac.ansB;simp only [List.length_map,List.all_map,decide_true,Bool.true_or,Bool.true_and,Bool.and_true,Bool.and_assoc,Int.le_refl,show decide ((0:Int)≤1000)=true from rfl];rfl
theorem results_one_cell {P:Program} {fn:Func} {tmps:Array Value} {w:World} {a:Tmp} {t:TypeId} {p:Addr} {v:Value} (hr:fn.results=#[.cell a t]) (ha:tmps.getD a undef= .pointer (some p)) (hv:(loadVar t p).run P w= .ok v w):
  (results fn tmps).run P w= .ok v w:=by
 unfold results;rw [hr];rw [Array.getD_eq_getD_getElem?] at ha;simp [Sem.run_bind,ha,hv,asAddr]
abbrev RowV:=Nat × Nat × Value × Nat × List Value
def apartV (a b:RowV):Prop:=(a.2.2.1.ownBlock=none∨a.2.2.1.ownBlock≠b.2.2.1.ownBlock)∧(b.2.2.1.ownBlock=none∨b.2.2.1.ownBlock≠a.2.2.1.ownBlock)
structure AnI (w W:World) (L:List (Nat × Nat × Array Value)) (R:List RowV):Prop where
 f:Live w W L
 o:∀ r∈R,W.ownsRow w.heap.size r.1 r.2.1 r.2.2.1 r.2.2.2.1 r.2.2.2.2
 d:R.Pairwise apartV
 t:∀ r∈R,r.1=94∨r.1=9
 l:∀ x∈L,x.2.1≠94∧x.2.1≠9
section
variable {w W W':World} {L:List (Nat × Nat × Array Value)} {R:List RowV}
theorem AnI.ne (I:AnI w W L R) {r:RowV} (hr:r∈R) {x:Nat × Nat × Array Value} (hx:x∈L):r.1≠x.2.1:=by
 rcases I.t r hr with e|e<;>rw [e]
 ·exact fun h=>(I.l x hx).1 h.symm
 ·exact fun h=>(I.l x hx).2 h.symm
theorem AnI.at (I:AnI w W L R) (i:Nat) {e sz n:Nat} {v:Value} {xs:List Value} (h:R[i]?=some (e,sz,v,n,xs)):W.ownsRow w.heap.size e sz v n xs:=I.o _ (List.mem_of_getElem? h)
theorem AnI.drew (I:AnI w W L R):AnI w W.drew L R:=⟨(live_drew (ι I.f)).out,fun r hr=>(I.o r hr).drew,I.d,I.t,I.l⟩
theorem AnI.cells (I:AnI w W L R) (cs:Array Value) (t:Nat) (h1:t≠94) (h2:t≠9):AnI w (W.alloc (.cells cs t)) ((W.heap.size,t,cs)::L) R:=
 ⟨I.f.alloc cs t,fun r hr=>(I.o r hr).alloc _,I.d,I.t,fun x hx=>by
  rcases List.mem_cons.1 hx with rfl|hx
  ·exact ⟨h1,h2⟩
  ·exact I.l x hx⟩
theorem AnI.made (I:AnI w W L R) (e sz:Nat) (he:e=94∨e=9):AnI w (W.alloc (.cells #[] e)) L ((e,sz,.slice (some ⟨W.heap.size,0,none⟩) 0 0,0,[])::R):=by
 refine ⟨(Live.hb (ι I.f) ((Below.refl _ W).alloc (Nat.le_refl _) _)).out,fun r hr=> ?_,List.pairwise_cons.2 ⟨fun r hr=> ?_,I.d⟩,fun r hr=> ?_,I.l⟩
 ·rcases List.mem_cons.1 hr with rfl|hr
  ·exact World.ownsRow_made W #[] 0 I.f.b.size (by simp only [maxLen]; omega) (by simp)
  ·exact (I.o r hr).alloc _
 ·have hlt:=(I.o r hr).lt;refine ⟨.inr fun e'=> ?_,.inr fun e'=> ?_⟩
  ·have:=(hlt W.heap.size e'.symm).2; omega
  ·have:=(hlt W.heap.size e').2; omega
 ·rcases List.mem_cons.1 hr with rfl|hr
  ·exact he
  ·exact I.t r hr
theorem AnI.push (I:AnI w W L R) (i:Nat) {e sz n n':Nat} {v v':Value} {xs xs':List Value} (h:R[i]?=some (e,sz,v,n,xs)) (hown:W'.ownsRow w.heap.size e sz v' n' xs') (hg:W.grownBy W' v.ownBlock) (hv:v'.ownBlock=v.ownBlock∨v'.ownBlock=some W.heap.size):AnI w W' L (R.set i (e,sz,v',n',xs')):=by
 have hm:=List.mem_of_getElem? h;obtain ⟨hil,hie⟩:=List.getElem?_eq_some_iff.1 h;have far:∀ j (hj:j<R.length),j≠i→apartV R[j] (e,sz,v,n,xs):=fun j hj hne=>by
  rcases Nat.lt_or_gt_of_ne hne with hlt|hgt
  ·have:=List.pairwise_iff_getElem.1 I.d j i hj hil hlt
   rw [hie] at this;exact this
  ·have:=List.pairwise_iff_getElem.1 I.d i j hil hj hgt
   rw [hie] at this;exact ⟨this.2,this.1⟩
 have far2:∀ j (hj:j<R.length),j≠i→apartV R[j] (e,sz,v',n',xs'):=fun j hj hne=>by
  have h1:=far j hj hne;have hlt:=(I.o _ (List.getElem_mem hj)).lt;rcases hv with hv|hv
  ·refine ⟨?_,?_⟩
   ·show _∨_≠v'.ownBlock;rw [hv]; exact h1.1
   ·show v'.ownBlock=none∨v'.ownBlock≠_;rw [hv]; exact h1.2
  ·refine ⟨.inr ?_,.inr ?_⟩
   ·show _≠v'.ownBlock;rw [hv]; intro e'
    have:=(hlt _ e').2; omega
   ·show v'.ownBlock≠_;rw [hv]; intro e'
    have:=(hlt _ e'.symm).2; omega
 have hne:∀ x∈L,e≠x.2.1:=fun x hx=>I.ne hm hx;refine ⟨(Live.hp (ι I.f) (I.at i h) (Nat.le_refl _) hne hg).out,fun r hr=> ?_,?_,fun r hr=> ?_,I.l⟩
 ·obtain ⟨j,hj,rfl⟩:=List.mem_iff_getElem.1 hr;rw [List.length_set] at hj;by_cases hji:j=i
  ·subst hji;rw [List.getElem_set_self];exact hown
  ·rw [List.getElem_set_ne (Ne.symm hji)];exact (I.o _ (List.getElem_mem hj)).kept hg (far j hj hji).1
 ·rw [List.pairwise_iff_getElem];intro a b ha hb hab;have hal:a<R.length:=by rw [List.length_set] at ha; exact ha
  have hbl:b<R.length:=by rw [List.length_set] at hb; exact hb
  by_cases ha':a=i
  ·subst ha';rw [List.getElem_set_self,List.getElem_set_ne (by omega)]
   have:=far2 b hbl (by omega)
   exact ⟨this.2,this.1⟩
  ·rw [List.getElem_set_ne (Ne.symm ha')];by_cases hb':b=i
   ·subst hb';rw [List.getElem_set_self];exact far2 a hal ha'
   ·rw [List.getElem_set_ne (Ne.symm hb')];exact List.pairwise_iff_getElem.1 I.d a b hal hbl hab
 ·obtain ⟨j,hj,rfl⟩:=List.mem_iff_getElem.1 hr;rw [List.length_set] at hj;by_cases hji:j=i
  ·subst hji;rw [List.getElem_set_self]
   have:=I.t _ hm
   exact this
  ·rw [List.getElem_set_ne (Ne.symm hji)];exact I.t _ (List.getElem_mem hj)
theorem AnI.grown (I:AnI w W L R) (i:Nat) {g t:Nat} {cs cs':Array Value} (h:L[i]?=some (g,t,cs)) (hg:W.grownBy W' (some g)) (hb:Blk W' g t cs'):AnI w W' (L.set i (g,t,cs')) R:=by
 refine ⟨(Live.hg (ι I.f) i h hg hb).out,fun r hr=> ?_,I.d,I.t,fun x hx=> ?_⟩
 ·exact own_keepB (I.o r hr) hg (I.f.blk i h) (I.ne hr (List.mem_of_getElem? h))
 ·rcases List.mem_or_eq_of_mem_set hx with hx|rfl
  ·exact I.l x hx
  ·exact I.l (g,t,cs) (List.mem_of_getElem? h)
theorem AnI.below (I:AnI w W L R) (hb:Below W.heap.size W W'):AnI w W' L R:=⟨I.f.below hb,fun r hr=>own_below (I.o r hr) hb,I.d,I.t,I.l⟩
variable {ops:Array Oper} {o:Oper} {a:Act} {K:Act→World→Prop} {Q:Exit→Act→World→Prop} {E:Prop}
theorem AnI.app (I:AnI w W L R) (hgd:o.guard=none) (s x:Operand) (ho:o.op= .call {callee:= .builtin .append,args:=#[s,x],argTypes:=#[23,23]}) (i:Nat) (v:Value) (hi:R[i]?=some (94,2,v,0,[])) (hs:a.eval s=v)
  (A:Option Addr) (c:Nat) (l:List Pw.Mem) (hx:a.eval x= .slice A l.length c) (hr:Reads W w.heap.size 2 A l.length (mcells l)) (h7:l.length≤1000)
  (h:∀ A' c' W',AnI w W' L (R.set i (94,2,.slice A' l.length c',l.length,mcells l))→K (a.put o.dst (.slice A' l.length c')) W'):if Region.wanted o (yielded ops a.tmps)=true then Oper.wp Tryz.prog o a W K Q else E:=by
 obtain ⟨i0,hi0,hz0,hz1,hz2⟩:=info_parts info_mem;refine step_append_any W hgd s x _ ho w.heap.size 94 i0 _ 2 24 Tryz.underlying23 hi0 hz0 hz1 hz2 rfl (by decide) v 0 [] hs (I.at i hi) w.heap.size A l.length c (mcells l) hx hr (mcells_one _) (by simp only [maxLen]; omega) (by omega) I.f.b.size ?_;intro v7 W7 own7 hg7 ho7;rw [Nat.zero_add,List.nil_append] at own7;obtain ⟨A7,c7,rfl,_,_,_⟩:=own_form own7;exact h A7 c7 W7 (I.push i hi own7 hg7 ho7)
theorem AnI.store (I:AnI w W L R) (hgd:o.guard=none) (ty:TypeId) (x y:Operand) (ho:o.op= .store ty x y) (i:Nat) (g t:Nat) (cs cells:Array Value) (hi:L[i]?=some (g,t,cs)) (hx:a.eval x= .pointer (some ⟨g,0,none⟩)) (hy:a.eval y= .agg cells) (hl:cs.size=cells.size) (hz:(Tryz.prog.info? ty).map (·.size)=some cells.size) (h1:cells.all (·.oneCell')=true)
  (h:∀ W',AnI w W' (L.set i (g,t,cells)) R→K (a.put o.dst undef) W'):if Region.wanted o (yielded ops a.tmps)=true then Oper.wp Tryz.prog o a W K Q else E:=by
 refine step_store_all hgd ty x y ho g 0 cells hx hy (I.f.there i cells.size hi (by omega)) hz h1 ?_;refine h _ (I.grown i hi (grown_setAll _ 0 _ (World.grownBy.refl _ _)) ?_);exact (Live.hall (ι I.f) i cells.toList hi (by simpa using hl)).out.blk i (by simp [(List.getElem?_eq_some_iff.1 hi).1])
end
end
section
open Go.RowKit Go.Instr
attribute [local go_sem] ba_get ByteArray.mk_append_mk
attribute [local go_sem ↓] Go.wp_at_zero Go.wp_at_succ
def CloneEnd (w:World) (sz n:Nat) (cs:List Value) (e:Ending) (w':World):Prop:=
 ∃ A c,e= .returned (.slice A n c)∧Below w.heap.size w w'∧Reads w' w'.heap.size sz A n cs∧(∀ a,A=some a→w.heap.size≤a.block∧a.block<w'.heap.size)∧n≤c
theorem eqlIn_nil {t e:TypeId} (h:Tryz.prog.underlying t=some (.slice e)) (w:World) (d:Nat) (a:Option Addr) (n c:Nat):(Op.equalIn (d+1) t (.slice a n c) (.slice none 0 0)).run Tryz.prog w= .ok a.isNone w:=by
 cases a<;>simp [Op.equalIn,run_underlying h]
theorem eql_nil {t e:TypeId} (h:Tryz.prog.underlying t=some (.slice e)) (w:World) (a:Option Addr) (n c:Nat):(binOp .eql t (.slice a n c) (.slice none 0 0)).run Tryz.prog w= .ok (.bool a.isNone) w:=by
 simp only [binOp];simp [Op.equal,Op.maxDepth,eqlIn_nil h w 9999 a n c]
theorem clone_strs (w:World) (l:List (List UInt8)) (hl:l.length≤100000) (A:Option Addr) (c:Nat) (HR:Reads w w.heap.size 1 A l.length (strv l)):
  Calls Tryz.prog 79 #[.slice A l.length c] w (CloneEnd w 1 l.length (strv l)):=by
 have HP:Hid (∀ A' c' w',Below w.heap.size w w'→Reads w' w'.heap.size 1 A' l.length (strv l)→(∀ a,A'=some a→w.heap.size≤a.block∧a.block<w'.heap.size)→l.length≤c'→CloneEnd w 1 l.length (strv l) (.returned (.slice A' l.length c')) w'):=ι (fun A' c' w' h1 h2 h3 h4=>⟨A',c',rfl,h1,h2,h3,h4⟩);generalize CloneEnd w 1 l.length (strv l)=P at HP ⊢;have HL:=ι hl;cases A with
 |none=>
  have h0:l= []:=by
   cases l with
   |nil=>rfl
   |cons x r=>obtain ⟨a,o,h,_⟩:=HR.form (by simp) (by decide); cases h
  subst h0;have he:(binOp .eql 25 (.slice none 0 c) (.slice none 0 0)).run Tryz.prog w= .ok (.bool true) w:=eql_nil Tryz.underlying25 w none 0 c;go_enter Tryz.func79,Tryz.ntmps79
  go_wp2_with fail
  exact HP.out none 0 w (Below.refl _ _) Reads.none_ (by simp) (Nat.le_refl _)
 |some ad=>
  have HRR:=ι HR;clear HR hl;have he:(binOp .eql 25 (.slice (some ad) l.length c) (.slice none 0 0)).run Tryz.prog w= .ok (.bool false) w:=eql_nil Tryz.underlying25 w (some ad) l.length c;obtain ⟨i0,hi0,hz0,hz1,hz2⟩:=info_parts info_str;go_enter Tryz.func79,Tryz.ntmps79
  go_upto_region 3 with fail
  have F1:=Live.hb (ι (Live.start w)) ((Below.refl _ w).alloc (Nat.le_refl _) (.cells #[] 9));have O1:=World.ownsRow_made (base:=w.heap.size) (e:=9) (size:=1) w #[] 0 (Nat.le_refl _) (by simp only [maxLen]; omega) rfl;have RA:Reads (w.alloc (.cells #[] 9)) w.heap.size 1 (some ad) l.length (strv l):=HRR.out.below F1.out.b;have hll:=HL.out;go_wp2_with (at_builtin; refine wpList_append_any (w.alloc (.cells #[] 9)) rfl _ _ 25 rfl w.heap.size 9 i0 _ 1 16 Tryz.underlying25 hi0 hz0 hz1 hz2 rfl (by decide) (.slice (some ⟨w.heap.size,0,none⟩) 0 0) 0 [] rfl O1 w.heap.size (some ad) l.length c (strv l) rfl RA (strv_one _) (by simp only [maxLen]; omega) (by omega) F1.out.b.size ?_; intro v2 w2 own2 hg2 _; rw [Nat.zero_add,List.nil_append] at own2; have hlt2:=own2.lt; obtain ⟨A2,c2,rfl,hr2,hc2,hb2⟩:=own_form own2; clear hb2; have hb2:=(show ∀ a,A2=some a→w.heap.size≤a.block∧a.block<w2.heap.size from fun a ha=>hlt2 a.block (by rw [ha]; rfl)); clear hlt2; have H2:=ι (And.intro hr2 (And.intro hc2 hb2)); have HG:=ι (F1.out.b.grown hg2 F1.out.b.size (fun k e=>Nat.le_of_eq (Option.some.inj e))); clear own2 hg2 hr2 hc2 hb2)
  exact HP.out A2 c2 _ HG.out (H2.out.1.more (Nat.le_refl _)) H2.out.2.2 H2.out.2.1
theorem clone_mems (w:World) (l:List Pw.Mem) (hl:l.length≤100000) (A:Option Addr) (c:Nat) (HR:Reads w w.heap.size 2 A l.length (mcells l)):
  Calls Tryz.prog 80 #[.slice A l.length c] w (CloneEnd w 2 l.length (mcells l)):=by
 have HP:Hid (∀ A' c' w',Below w.heap.size w w'→Reads w' w'.heap.size 2 A' l.length (mcells l)→(∀ a,A'=some a→w.heap.size≤a.block∧a.block<w'.heap.size)→l.length≤c'→CloneEnd w 2 l.length (mcells l) (.returned (.slice A' l.length c')) w'):=ι (fun A' c' w' h1 h2 h3 h4=>⟨A',c',rfl,h1,h2,h3,h4⟩);generalize CloneEnd w 2 l.length (mcells l)=P at HP ⊢;have HL:=ι hl;cases A with
 |none=>
  have h0:l= []:=by
   cases l with
   |nil=>rfl
   |cons x r=>obtain ⟨a,o,h,_⟩:=HR.form (by simp) (by decide); cases h
  subst h0;have he:(binOp .eql 23 (.slice none 0 c) (.slice none 0 0)).run Tryz.prog w= .ok (.bool true) w:=eql_nil Tryz.underlying23 w none 0 c;go_enter Tryz.func80,Tryz.ntmps80
  go_wp2_with fail
  exact HP.out none 0 w (Below.refl _ _) Reads.none_ (by simp) (Nat.le_refl _)
 |some ad=>
  have HRR:=ι HR;clear HR hl;have he:(binOp .eql 23 (.slice (some ad) l.length c) (.slice none 0 0)).run Tryz.prog w= .ok (.bool false) w:=eql_nil Tryz.underlying23 w (some ad) l.length c;obtain ⟨i0,hi0,hz0,hz1,hz2⟩:=info_parts info_mem;go_enter Tryz.func80,Tryz.ntmps80
  go_upto_region 3 with fail
  have F1:=Live.hb (ι (Live.start w)) ((Below.refl _ w).alloc (Nat.le_refl _) (.cells #[] 94));have O1:=World.ownsRow_made (base:=w.heap.size) (e:=94) (size:=2) w #[] 0 (Nat.le_refl _) (by simp only [maxLen]; omega) rfl;have RA:Reads (w.alloc (.cells #[] 94)) w.heap.size 2 (some ad) l.length (mcells l):=HRR.out.below F1.out.b;have hll:=HL.out;go_wp2_with (at_builtin; refine wpList_append_any (w.alloc (.cells #[] 94)) rfl _ _ 23 rfl w.heap.size 94 i0 _ 2 24 Tryz.underlying23 hi0 hz0 hz1 hz2 rfl (by decide) (.slice (some ⟨w.heap.size,0,none⟩) 0 0) 0 [] rfl O1 w.heap.size (some ad) l.length c (mcells l) rfl RA (mcells_one _) (by simp only [maxLen]; omega) (by omega) F1.out.b.size ?_; intro v2 w2 own2 hg2 _; rw [Nat.zero_add,List.nil_append] at own2; have hlt2:=own2.lt; obtain ⟨A2,c2,rfl,hr2,hc2,hb2⟩:=own_form own2; clear hb2; have hb2:=(show ∀ a,A2=some a→w.heap.size≤a.block∧a.block<w2.heap.size from fun a ha=>hlt2 a.block (by rw [ha]; rfl)); clear hlt2; have H2:=ι (And.intro hr2 (And.intro hc2 hb2)); have HG:=ι (F1.out.b.grown hg2 F1.out.b.size (fun k e=>Nat.le_of_eq (Option.some.inj e))); clear own2 hg2 hr2 hc2 hb2)
  exact HP.out A2 c2 _ HG.out (H2.out.1.more (Nat.le_refl _)) H2.out.2.2 H2.out.2.1
theorem qu_height (w:World) (n:Int):Calls Tryz.prog 160 #[n] w (Ret w (.bool (decide (0≤n) && decide (n≤1048576)))):=by
 have HP:Hid (∀ (b:Bool) w',(decide (0≤n) && decide (n≤1048576))=b→Below w.heap.size w w'→Ret w (.bool (decide (0≤n) && decide (n≤1048576))) (.returned (.bool b)) w'):=ι (fun b w' h1 h2=>by rw [h1]; exact ⟨rfl,h2⟩);generalize Ret w (.bool (decide (0≤n) && decide (n≤1048576)))=P at HP ⊢;by_cases h0:0≤n
 ·have h0':(0≤n)=True:=by simp; omega
  have HE:Hid ((decide (0≤n) && decide (n≤1048576))=decide (n≤1048576)):=ι (by rw [decide_eq_true h0]; rfl);by_cases h1:n≤1048576
  ·have h1':(n≤1048576)=True:=by simp; omega
   have HQ:=ι (HE.out.trans (decide_eq_true h1));clear h0 h1 HE;go_enter Tryz.func160,Tryz.ntmps160
   go_wp2_with fail
   exact HP.out true _ HQ.out (Below.refl _ _)
  ·have h1':(n≤1048576)=False:=by simp; omega
   have HQ:=ι (HE.out.trans (decide_eq_false h1));clear h0 h1 HE;go_enter Tryz.func160,Tryz.ntmps160
   go_wp2_with fail
   exact HP.out false _ HQ.out (Below.refl _ _)
 ·have h0':(0≤n)=False:=by simp; omega
  have HE:Hid ((decide (0≤n) && decide (n≤1048576))=false):=ι (by rw [decide_eq_false h0]; rfl);clear h0;go_enter Tryz.func160,Tryz.ntmps160
  go_wp2_with fail
  exact HP.out false _ HE.out (Below.refl _ _)
theorem qu_bareCert (w:World) (d:List UInt8) (sg:List (List UInt8)) (A:Option Addr) (c:Nat):Calls Tryz.prog 164 #[.agg #[d,.slice A sg.length c]] w (Ret w (.bool (d.isEmpty && sg.isEmpty))):=by
 have HP:Hid (∀ (b:Bool) w',(d.isEmpty && sg.isEmpty)=b→Below w.heap.size w w'→Ret w (.bool (d.isEmpty && sg.isEmpty)) (.returned (.bool b)) w'):=ι (fun b w' h1 h2=>by rw [h1]; exact ⟨rfl,h2⟩);generalize Ret w (.bool (d.isEmpty && sg.isEmpty))=P at HP ⊢;cases d with
 |nil=>
  have HE:Hid ((([]:List UInt8).isEmpty && sg.isEmpty)=((sg.length:Int)==0)):=ι (by cases sg<;>simp; omega);go_enter Tryz.func164,Tryz.ntmps164
  go_upto_region 1 with fail
  have F0:=Live.ha (ι (Live.start w)) #[ε,.slice A sg.length c] 56;simp only [List.toArray] at F0 ⊢;generalize World.alloc w _=W0 at F0 ⊢;generalize w.heap.size=xb at F0 ⊢;have k0:=(F0.out.blk 0 rfl).d0;have k1:=(F0.out.blk 0 rfl).d1;generalize hbe:((sg.length:Int)==0)=b at HE;go_wp2_with fail
  exact HP.out b _ HE.out F0.out.b
 |cons x r=>
  have HE:Hid ((((x::r):List UInt8).isEmpty && sg.isEmpty)=false):=ι rfl;have hne:((x::r)==([]:List UInt8))=false:=rfl;generalize x::r=s at *;go_enter Tryz.func164,Tryz.ntmps164
  go_upto_region 1 with fail
  have F0:=Live.ha (ι (Live.start w)) #[s,.slice A sg.length c] 56;generalize World.alloc w _=W0 at F0 ⊢;generalize w.heap.size=xb at F0 ⊢;have k0:=(F0.out.blk 0 rfl).d0;have k1:=(F0.out.blk 0 rfl).d1;go_wp2_with fail
  exact HP.out false _ HE.out F0.out.b
theorem qu_set (w:World) (l:List Pw.Mem) (hs:∀ x∈l,x.1.length≤9223372036854775807) (A:Option Addr) (c:Nat) (HR:Reads w w.heap.size 2 A l.length (mcells l)):Calls Tryz.prog 163 #[.slice A l.length c] w (Ret w (.bool (l.isEmpty||Pw.okM l))):=by
 have HP:Hid (∀ (b:Bool) w',(l.isEmpty||Pw.okM l)=b→Below w.heap.size w w'→Ret w (.bool (l.isEmpty||Pw.okM l)) (.returned (.bool b)) w'):=ι (fun b w' h1 h2=>by rw [h1]; exact ⟨rfl,h2⟩);generalize Ret w (.bool (l.isEmpty||Pw.okM l))=P at HP ⊢;have HC:=ι (power_Check w l hs A c HR);by_cases h0:l= []
 ·have h1:((l.length:Int)==0)=true:=by simp [h0]
  have HE:Hid ((l.isEmpty||Pw.okM l)=true):=ι (by rw [h0]; rfl);clear HC HR hs h0;go_enter Tryz.func163,Tryz.ntmps163
  go_wp2_with fail
  exact HP.out true _ HE.out (Below.refl _ _)
 ·have h1:((l.length:Int)==0)=false:=by simp [h0]
  have HE:Hid ((l.isEmpty||Pw.okM l)=Pw.okM l):=ι (by cases l with|nil=>exact absurd rfl h0|cons x r=>rfl);clear HR hs h0;generalize Pw.okM l=b at *;have HB:Hid ((codeM b==0)=b):=ι (by cases b<;>rfl);go_enter Tryz.func163,Tryz.ntmps163
  go_wp2_with fail
  refine HC.out.mono ?_;rintro e w1 ⟨rfl,hb⟩;have F1:=Live.hb (ι (Live.start w)) hb;clear hb HC;have hB:=HB.out;go_wp2_with fail
  exact HP.out b _ HE.out F1.out.b
def textsB (l:List (List UInt8)):Bool:=decide (l.length≤1024) && l.all fun s=>decide (s.length≤700)
theorem qu_texts (w:World) (l:List (List UInt8)) (A:Option Addr) (c:Nat) (HR:Reads w w.heap.size 1 A l.length (strv l)) (hs:∀ x∈l,x.length≤9223372036854775807):Calls Tryz.prog 165 #[.slice A l.length c] w (Ret w (.bool (textsB l))):=by
 have HP:Hid (∀ (b:Bool) w',textsB l=b→Below w.heap.size w w'→Ret w (.bool (textsB l)) (.returned (.bool b)) w'):=ι (fun b w' h1 h2=>by rw [h1]; exact ⟨rfl,h2⟩);have HX:Hid (textsB l=(decide (l.length≤1024) && l.all fun s=>decide (s.length≤700))):=ι rfl;generalize Ret w (.bool (textsB l))=P at HP ⊢;generalize textsB l=X at *;have HLL:=ι HR;have HS:=ι hs;clear HR hs;by_cases h0:1024<l.length
 ·have h1:((1024:Int)<l.length)=True:=by simp; omega
  have HE:Hid (X=false):=ι (by rw [HX.out,decide_eq_false (by omega)]; rfl);clear HX h0;go_enter Tryz.func165,Tryz.ntmps165
  go_wp2_with fail
  exact HP.out false _ HE.out (Below.refl _ _)
 ·have h1:((1024:Int)<l.length)=False:=by simp; omega
  have HE:Hid (X=l.all fun s=>decide (s.length≤700)):=ι (by rw [HX.out,decide_eq_true (by omega)]; rfl);have HN:=ι h0;clear HX h0;go_enter Tryz.func165,Tryz.ntmps165
  go_wp2_with fail
  refine wp_loop_ghost_k (fun k a wr=>∀ Φ:Act→Prop,(∀ ⦃s1 s3 s4 s5 s6 s7 s0 s2 s8 s9 a0 a2 a3:Value⦄ (i:Nat),(i+k=l.length∧(∀ s∈l.take i,s.length≤700)∧Live w wr [])→Φ {tmps:=#[.slice A l.length c,s1,.bool false,s3,s4,s5,s6,s7,.slice A l.length c,.int .i64 (l.length:Int),.int .i64 (i:Int),s0,s2,s8,s9,a0,a2,a3],defers:= []})→Φ a) (l.length) ?_ ?_
  ·refine fun Φ hΦ=>hΦ (0) ?_;exact ⟨by omega,by simp,Live.start w⟩
  ·intro k1 a1 wr1 hI1 J1 K1 hJ1 hK1;refine hI1 (fun a=>Code.wp _ _ _ a _) ?_;clear hI1 a1;iterate 13 (intro _)
   intro i hrel
   show Code.wp _ _ _ _ _;obtain ⟨h2,h3,hF⟩:=hrel;have F:=ι hF;by_cases hi:i<l.length
   ·obtain ⟨ad,off,hA,hbl,hcell⟩:=str_at HLL.out hi;subst hA;have r0:=hcell _ F.out.b;have hi1:(i:Int)<l.length:=by omega
    have hi0:(0:Int)≤i:=by omega
    have hwi:IntKind.i64.wrap ((i:Int)+1)=(i:Int)+1:=IntWalk.i64_in _ (by have:=HN.out; omega);have hsl:=HS.out _ (List.getElem_mem hi);have HYes:Hid (¬l[i].length≤700→X=false):=ι (fun h=>by
     rw [HE.out,List.all_eq_false];exact ⟨_,List.getElem_mem hi,by simpa using h⟩)
    have HNo:Hid (l[i].length≤700→∀ s∈l.take (i+1),s.length≤700):=ι (fun h s hs=>by
     rw [List.take_succ_eq_append_getElem hi,List.mem_append,List.mem_singleton] at hs;rcases hs with hs|rfl
     ·exact h3 s hs
     ·exact h)
    have HI:=ι (And.intro h2 hi);clear h2 h3 hF hcell hbl;generalize l[i]=s at *;clear hi;by_cases h7:s.length≤700
    ·have h7':((700:Int)<s.length)=False:=by simp; omega
     have HE2:=ι (HNo.out h7);clear HYes HNo h7;go_wp2_with fail
     refine Handed.intro (l.length - (i+1)) ?_ (hJ1 _ _ _ (fun Φ hΦ=>hΦ (i+1) ?_))
     ·have:=HI.out; omega
     ·exact ⟨by have:=HI.out; omega,HE2.out,F.out⟩
    ·have h7':((700:Int)<s.length)=True:=by simp; omega
     have HE2:=ι (HYes.out h7);clear HYes HNo h7;go_wp2_with fail
     exact HP.out false _ HE2.out F.out.b
   ·have hi1:((i:Int)<l.length)=False:=by simp; omega
    have HE2:Hid (X=true):=ι (by
     rw [HE.out,List.all_eq_true];rw [List.take_of_length_le (by omega)] at h3;exact fun s hs=>decide_eq_true (h3 s hs))
    clear h2 h3 hF hi;go_wp2_with fail
    exact HP.out true _ HE2.out F.out.b
theorem qu_page0 (w:World):Calls Tryz.prog 166 #[.agg #[ν,ε,ν]] w (Ret w (.bool true)):=by
 have HP:Hid (∀ w',Below w.heap.size w w'→Ret w (.bool true) (.returned (.bool true)) w'):=ι (fun w' h2=>⟨rfl,h2⟩);generalize Ret w (.bool true)=P at HP ⊢;have HT:=ι (fun W=>qu_texts W [] none 0 Reads.none_ (by simp));have ht:textsB []=true:=rfl;rw [ht] at HT;simp only [List.length_nil] at HT;clear ht;go_enter Tryz.func166,Tryz.ntmps166
 go_upto_region 1 with fail
 have F0:=Live.ha (ι (Live.start w)) #[ν,ε,ν] 58;generalize World.alloc w _=W0 at F0 ⊢;generalize w.heap.size=xb at F0 ⊢;have k0:=(F0.out.blk 0 rfl).d0;have k1:=(F0.out.blk 0 rfl).d1;have k2:=(F0.out.blk 0 rfl).d2;go_wp2_with fail
 refine wp_loop_ghost_k (fun k a wr=>∀ Φ:Act→Prop,(∀ ⦃s0 s3 s4 s5 s6 s7 s8 s9 s1 s2 a0 a2 a3 a4 a5 a6 a7 a8 a9 b0 b1 b2 b3 b4 b5 b6 b7 b8 b9 c0 c1:Value⦄ (i:Nat),(wr=W0)→Φ {tmps:=#[s0,.pointer (some ⟨xb,0,none⟩),.bool false,s3,s4,s5,s6,s7,s8,s9,s1,s2,a0,a2,a3,a4,.slice none 0 0,.int .i64 0,.int .i64 0,a5,a6,a7,a8,a9,b0,b1,b2,b3,b4,b5,b6,b7,b8,b9,c0,c1],defers:= []})→Φ a) (0) ?_ ?_
 ·refine fun Φ hΦ=>hΦ (0) ?_;rfl
 ·intro k1 a1 wr1 hI1 J1 K1 hJ1 hK1;refine hI1 (fun a=>Code.wp _ _ _ a _) ?_;clear hI1 a1;iterate 31 (intro _)
  intro i hrel
  show Code.wp _ _ _ _ _;subst hrel;go_wp2_with fail
  refine (HT.out _).mono ?_;rintro e w1 ⟨rfl,hb⟩;have F1:=Live.hb F0 hb;clear hb;go_wp2_with fail
  exact HP.out _ F1.out.b
theorem mk_conv (w:World) (s:List UInt8) (hl:s.length≤100000):∃ v w',(convert 9 164 (.string ⟨s.toArray⟩)).run Tryz.prog w= .ok v w'∧mkRow w' w.heap.size v s∧Below w.heap.size w w':=by
 have h:=run_bytes_of_string w 9 164 5 ⟨s.toArray⟩ Tryz.underlying9 Tryz.underlying164 Tryz.underlying5;have hs:(ByteArray.mk s.toArray).size=s.length:=by simp [ByteArray.size]
 rw [hs] at h;have hge:=grownCap_ge w s.length 0 5;have hm:=grownCap_le_maxLen w s.length 0 5 (by simp only [maxLen]; omega);refine ⟨_,_,h,⟨w.heap.size,_,_,_,rfl,Nat.le_refl _,heap_alloc_new w.drew _,fun j hj hc=>by simp only at hc; omega,hge,hm,?_,?_⟩,(((Below.refl _ w).drew).alloc (Nat.le_refl _) _)⟩
 ·simp [bytesRow,hs]; omega
 ·simp [bytesRow,bvals]
theorem mkRow.mono {w:World} {b b':Nat} {v:Value} {l:List UInt8} (h:mkRow w b v l) (hb:b'≤b):mkRow w b' v l:=by
 obtain ⟨g,cap,cur,fz,h1,h2,h3⟩:=h;exact ⟨g,cap,cur,fz,h1,Nat.le_trans hb h2,h3⟩
theorem mkRow.below {w w':World} {b:Nat} {v:Value} {l:List UInt8} (h:mkRow w b v l) (hb:Below w.heap.size w w'):mkRow w' b v l:=by
 obtain ⟨g,cap,cur,fz,h1,h2,h3,h4⟩:=h;exact ⟨g,cap,cur,fz,h1,h2,by rw [hb.block g (Array.getElem?_eq_some_iff.1 h3).1]; exact h3,h4⟩
theorem mkRow.own {w:World} {b:Nat} {v:Value} {l:List UInt8} (h:mkRow w b v l):∀ k,v.ownBlock=some k→b≤k:=by
 obtain ⟨g,cap,cur,fz,rfl,h2,h3,h4⟩:=h;intro k hk;simp [Value.ownBlock] at hk
 omega
theorem mkRow.reads {w:World} {b:Nat} {v:Value} {l:List UInt8} (h:mkRow w b v l):∃ A c,v= .slice A l.length c∧Reads w w.heap.size 1 A l.length (bvals l):=by
 obtain ⟨g,cap,cur,fz,rfl,h2,h3,_,h5,_,_,h8⟩:=h;refine ⟨_,_,rfl,by rw [bvals_length]; omega,fun hn=>⟨_,rfl,(Array.getElem?_eq_some_iff.1 h3).1,fun j u hu=> ?_⟩⟩;have ha:(⟨g,0,none⟩:Addr).add j=⟨g,j,none⟩:=by unfold Addr.add; split<;>simp_all
 rw [ha,cell_of_row w g j cur _ fz h3];rw [←h8,List.getElem?_take] at hu
 split at hu
 ·simpa using hu
 ·cases hu
theorem info_u8:∃ i,Tryz.prog.info? 5=some i∧i.zero=some (.int .u8 0)∧i.size=1∧i.bytes=1:=by
 have h:=info_byte;cases hi:Tryz.prog.info? 5 with
 |none=>rw [hi] at h; cases h
 |some i=>
  rw [hi] at h;simp only [Option.map_some,Option.some.injEq,Prod.mk.injEq] at h;exact ⟨i,rfl,h⟩
theorem wpList_append_mk {ops:Array Oper} {rest:List Oper} {o:Oper} {a:Act} {Q:Exit→Act→World→Prop} (w:World) (hgd:o.guard=none) (sl x:Operand) (ho:o.op= .call {callee:= .builtin .append,args:=#[sl,x],argTypes:=#[164,9]})
  (base:Nat) (v:Value) (l:List UInt8) (hs:a.eval sl=v) (h:mkRow w base v l) (s:List UInt8) (hx:a.eval x= .string ⟨s.toArray⟩) (hn:l.length+s.length≤100000) (hbase:base≤w.heap.size)
  (hK:∀ v' w',mkRow w' base v' (l++s)→w.grownBy w' v.ownBlock→wpList Tryz.prog ops Q rest (a.put o.dst v') w'):wpList Tryz.prog ops Q (o::rest) a w:=by
 obtain ⟨i,hi,hz,h1,h2⟩:=info_u8;obtain ⟨v',w',hr,q1,q2⟩:=mk_append w base o.type i hi hz h1 h2 v l h s hn hbase;refine wpList_plain hgd fun K' hK'=> ?_;unfold Oper.wp execOp;simp only [ho,resolve,invoke,builtin,Sem.run_bind,Sem.run_pure,Result.andThen_ok,List.map_toArray,List.map_cons,List.map_nil,hs,hx,hr];exact hK' _ _ (hK v' w' q1 q2)
def ceL (l:List (List UInt8)):List UInt8:=numW l.length++(l.map textW).flatten
theorem ceL_len {l:List (List UInt8)} (h7:l.length≤7) (h6:∀ s∈l,s.length≤6):(ceL l).length≤1000:=by
 have a:∀ (r:List (List UInt8)),(∀ s∈r,s.length≤6)→((r.map textW).flatten).length≤15*r.length:=by
  intro r
  induction r with
  |nil=>intro _; simp
  |cons x r ih=>
   intro h;have h1:=ih (fun s hs=>h s (by simp [hs]));have h2:=h x (by simp);have h3:=numW_len x.length (by omega);rw [List.map_cons,List.flatten_cons,List.length_append,List.length_cons,textW,List.length_append];omega
 have b:=a l h6;have c:=numW_len l.length (by omega);rw [ceL,List.length_append];omega
theorem code_List (w:World) (l:List (List UInt8)) (h7:l.length≤7) (h6:∀ s∈l,s.length≤6) (A:Option Addr) (c:Nat) (HR:Reads w w.heap.size 1 A l.length (strv l)):
  Calls Tryz.prog 187 #[.slice A l.length c] w (Ret w (.string ⟨(ceL l).toArray⟩)):=by
 have HP:Hid (∀ (s:List UInt8) w',s=ceL l→Below w.heap.size w w'→Ret w (.string ⟨(ceL l).toArray⟩) (.returned (s:Value)) w'):=ι (fun s w' h1 h2=>by rw [h1]; exact ⟨rfl,h2⟩);have HX:Hid (ceL l=numW l.length++(l.map textW).flatten):=ι rfl;have HTx:Hid (∀ s,textW s=numW s.length++s):=ι (fun s=>rfl);generalize Ret w (.string ⟨(ceL l).toArray⟩)=P at HP ⊢;generalize ceL l=X at *;have HLL:=ι HR;have H7:=ι (And.intro h7 h6);have HNum:=ι (fun (n:Nat) (hn:n≤100) W=>code_num n (by omega) W);have HNl:Hid (∀ n:Nat,n≤100→(numW n).length≤9):=ι (fun n hn=>numW_len n (by omega));clear HR h7 h6;go_enter Tryz.func187,Tryz.ntmps187
 go_wp2_with fail
 refine (HNum.out l.length (by have:=H7.out.1; omega) _).mono ?_;rintro e w1 ⟨rfl,hb⟩;have HB1:=ι hb;have hnl:=HNl.out l.length (by have:=H7.out.1; omega);clear hb;generalize hNe:numW l.length=N at *;have HNe:=ι hNe;clear hNe;obtain ⟨v0,w2,hcv,hmk,hb⟩:=mk_conv w1 N (by omega);have HM0:=ι (hmk.mono HB1.out.size);have HB2:=ι (HB1.out.trans (hb.mono HB1.out.size));have HN:=ι hnl;clear hmk hb hnl;go_wp2_with fail
 refine wp_loop_ghost_k (fun k a wr=>∀ Φ:Act→Prop,(∀ ⦃s1 s4 s5 s6 s7 s8 s9 s0 s2 s3 a0 a2 a3 a4 a5 a6 a7 a8 a9 b0 b1:Value⦄ (i:Nat) (t:List UInt8) (v:Value),(i+k=l.length∧(t.length≤9+i*15∧t=N++((l.take i).map textW).flatten)∧mkRow wr w.heap.size v t∧Below w.heap.size w wr)→Φ {tmps:=#[.slice A l.length c,s1,.string ⟨#[]⟩,v,s4,s5,s6,s7,s8,s9,.slice A l.length c,.int .i64 (l.length:Int),.int .i64 (i:Int),s0,s2,s3,a0,a2,a3,a4,a5,a6,a7,a8,a9,b0,b1],defers:= []})→Φ a) (l.length) ?_ ?_
 ·refine fun Φ hΦ=>hΦ (0) (N) (v0) ?_;exact ⟨by omega,⟨by have:=HN.out; omega,by simp⟩,HM0.out,HB2.out⟩
 ·intro k1 a1 wr1 hI1 J1 K1 hJ1 hK1;refine hI1 (fun a=>Code.wp _ _ _ a _) ?_;clear hI1 a1;iterate 21 (intro _)
  intro i t v hrel
  show Code.wp _ _ _ _ _;obtain ⟨h1,⟨h2,h2e⟩,h3,hb⟩:=hrel;have HM:=ι h3;have HB:=ι hb;by_cases hi:i<l.length
  ·obtain ⟨ad,off,hA,hbl,hcell⟩:=str_at HLL.out hi;subst hA;have r0:=hcell _ hb;have hi1:(i:Int)<l.length:=by omega
   have hi0:(0:Int)≤i:=by omega
   have hwi:IntKind.i64.wrap ((i:Int)+1)=(i:Int)+1:=IntWalk.i64_in _ (by have:=H7.out.1; omega);have HSl:=ι (H7.out.2 _ (List.getElem_mem hi));have HI:=ι (And.intro h1 (And.intro hi h2));have HT1:Hid (t++numW l[i].length++l[i]=N++((l.take (i+1)).map textW).flatten):=ι (by
    rw [List.take_succ_eq_append_getElem hi,List.map_append,List.flatten_append,h2e,List.map_singleton,List.flatten_singleton,HTx.out];simp only [List.append_assoc])
   clear h2e;clear h1 h2 h3 hb hcell hbl;generalize l[i]=s at *;clear hi;have hs9:s.length≤9223372036854775807:=by have:=HSl.out; omega
   go_wp2_with fail
   refine (HNum.out s.length (by have:=HSl.out; omega) _).mono ?_;rintro e w3 ⟨rfl,hb⟩;have HM3:=ι (HM.out.below hb);have HB3:=ι (HB.out.trans (hb.mono HB.out.size));have HSn:=ι (HNl.out s.length (by have:=HSl.out; omega));clear hb HM HB r0;generalize numW s.length=N2 at *;go_upto_region 6 with (at_builtin; refine wpList_append_mk _ rfl _ _ rfl w.heap.size v t rfl HM3.out N2 rfl (by have:=HI.out; have:=H7.out.1; have:=HSn.out; omega) HB3.out.size ?_; intro v4 w4 hm4 hg4; have H4:=ι (And.intro hm4 hg4); clear hm4 hg4)
   have HB4:=ι (HB3.out.grown H4.out.2 HB3.out.size (fun k e=>HM3.out.own k e));have HM4:=ι H4.out.1;clear H4 HM3 HB3;go_wp2_with (at_builtin; refine wpList_append_mk _ rfl _ _ rfl w.heap.size v4 (t++N2) rfl HM4.out s rfl (by have:=HI.out; have:=H7.out.1; have:=HSn.out; have:=HSl.out; rw [List.length_append]; omega) HB4.out.size ?_; intro v5 w5 hm5 hg5; have H5:=ι (And.intro hm5 hg5); clear hm5 hg5)
   refine Handed.intro (l.length - (i+1)) ?_ (hJ1 _ _ _ (fun Φ hΦ=>hΦ (i+1) (t++N2++s) (v5) ?_))
   ·have:=HI.out; omega
   ·exact ⟨by have:=HI.out; omega,⟨by have:=HI.out; have:=HSn.out; have:=HSl.out; simp only [List.length_append]; omega,HT1.out⟩,H5.out.1,HB4.out.grown H5.out.2 HB4.out.size (fun k e=>HM4.out.own k e)⟩
  ·have hi1:((i:Int)<l.length)=False:=by simp; omega
   have HT:Hid (t=X):=ι (by rw [h2e,HX.out,List.take_of_length_le (by omega)]);clear h1 h2 h2e h3 hb hi;obtain ⟨A5,c5,rfl,hr⟩:=HM.out.reads;have hcv2:=conv_reads wr1 wr1.heap.size A5 t.length c5 t hr;clear hr HM;go_wp2_with fail
   exact HP.out t _ HT.out HB.out
theorem Ce.risS_len:∀ (l:List (List UInt8)) (last:List UInt8),Ce.risS last l=true→∀ s∈l,s.length≤6
 | [],_,_=>by simp
 |x::r,last,h=>by
  simp only [Ce.risS,Bool.and_eq_true,decide_eq_true_eq] at h;intro s hs;rcases List.mem_cons.1 hs with rfl|hs
  ·exact h.1.1
  ·exact Ce.risS_len r x h.2 s hs
theorem Ce.mayC_len {d:List UInt8} {l:List (List UInt8)} (h:Ce.mayC d l=true):d.length=32∧l.length≤7∧∀ s∈l,s.length≤6:=by
 unfold Ce.mayC at h;simp only [Bool.and_eq_true,decide_eq_true_eq] at h;exact ⟨h.1.1,h.1.2,Ce.risS_len l [] h.2⟩
def CEncEnd (w:World) (d:List UInt8) (sg:List (List UInt8)) (e:Ending) (w':World):Prop:=∃ s:List UInt8,e= .returned (.tuple #[s,.int .i64 (if Ce.mayC d sg then 0 else 3)])∧Below w.heap.size w w'
theorem cert_Encode (w:World) (d:List UInt8) (hd:d.length≤9223372036854775807) (sg:List (List UInt8)) (hs:∀ x∈sg,x.length≤9223372036854775807) (hn:sg.length≤9223372036854775807) (A:Option Addr) (c:Nat) (HR:Reads w w.heap.size 1 A sg.length (strv sg)):
  Calls Tryz.prog 162 #[.agg #[d,.slice A sg.length c]] w (CEncEnd w d sg):=by
 have HP:Hid (∀ (s:List UInt8) w',Below w.heap.size w w'→CEncEnd w d sg (.returned (.tuple #[s,.int .i64 (if Ce.mayC d sg then 0 else 3)])) w'):=ι (fun s w' h2=>⟨s,rfl,h2⟩);generalize CEncEnd w d sg=P at HP ⊢;have HMy:=ι (fun W (hW:Below w.heap.size w W)=>cert_may W d hd sg hs hn A c ((HR.below hW).more hW.size));have HLn:=ι (@Ce.mayC_len d sg);have HRR:=ι HR;clear hs HR hn;go_enter Tryz.func162,Tryz.ntmps162
 go_upto_region 1 with fail
 have F0:=Live.ha (ι (Live.start w)) #[d,.slice A sg.length c] 56;generalize World.alloc w _=w0 at F0 ⊢;generalize w.heap.size=bb at F0 ⊢;have k0:=(F0.out.blk 0 rfl).d0;have k1:=(F0.out.blk 0 rfl).d1;go_wp2_with fail
 refine (HMy.out _ F0.out.b).mono ?_;rintro e1 w1 ⟨rfl,hb⟩;have F:=Live.hb F0 hb;clear hb k0 k1 F0 HMy;cases hmy:Ce.mayC d sg with
 |false=>
  rw [hmy] at HP;simp only [Bool.false_eq_true,if_false] at HP;clear hmy HLn;go_wp2_with fail
  exact HP.out [] _ F.out.b
 |true=>
  rw [hmy] at HP;simp only [if_true] at HP;obtain ⟨h32,h7,h6⟩:=HLn.out hmy;have HLs:=ι (fun W (hW:Below w.heap.size w W)=>code_List W sg h7 h6 A c ((HRR.out.below hW).more hW.size));have hll:=ceL_len h7 h6;clear hmy HLn h7 h6;generalize ceL sg=s at *;have hsum:d.length+s.length≤9223372036854775807:=by omega
  have hsn:(9223372036854775807<d.length+s.length)=False:=by simp; omega
  have k0:=(F.out.blk 0 rfl).d0;have k1:=(F.out.blk 0 rfl).d1;go_upto_region 3 with fail
  refine wp_region_held_drew (S:=fun w'=>w'.cell? ⟨bb,0,none⟩=some (d:Value)∧w'.cell? ⟨bb,1,none⟩=some (.slice A sg.length c)) (by kernel_rfl) ⟨k0,k1⟩ (fun hHeld=> ?_);have F:=live_drew F;generalize w1.drew=Wd at F hHeld ⊢;refine tk 0 7 rfl ?_;try go_frame
  refine tk 1 8 rfl ?_;try go_frame
  refine tk 2 9 rfl ?_;try go_frame
  refine tk 3 10 rfl ?_;try go_frame
  refine rd1 4 rfl (fun K hK=> ?_);go_simp
  refine (HLs.out _ F.out.b).mono ?_;rintro e w3 ⟨rfl,hb⟩;have F3:=Live.hb F hb;clear hb;go_simp
  refine hK.out _ _ ⟨F3.out.cell 0 0 rfl rfl,F3.out.cell 0 1 rfl rfl⟩ (fun hHeld=> ?_);clear hK K;try go_frame
  clear h32;refine tk 5 12 rfl ?_;try go_frame
  refine tk 6 2 rfl ?_;try go_frame
  refine tk 7 3 rfl ?_;try go_frame
  refine wpAnyH_done (by kernel_rfl) ?_ _;go_wp2_with fail
  exact HP.out _ _ F3.out.b
end
end Go.Proofs.YtdkiloganbhfkaaGreatDoor