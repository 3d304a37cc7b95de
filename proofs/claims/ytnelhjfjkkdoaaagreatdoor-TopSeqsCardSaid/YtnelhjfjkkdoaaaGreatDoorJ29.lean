import Derived.Test.YtnelhjfjkkdoaaaGreatDoorJ28
set_option linter.unusedSimpArgs false
set_option linter.unusedVariables false
set_option maxHeartbeats 4000000
set_option maxRecDepth 100000
namespace Go.Proofs.YtnelhjfjkkdoaaaGreatDoor
section
open Go.RowKit Go.Instr
attribute [local go_sem] ba_get ByteArray.mk_append_mk
attribute [local go_sem ↓] Go.wp_at_zero Go.wp_at_succ
abbrev TxM:=Ex.Tx × Option Addr × Nat
def xcell (p:TxM):List Value:= [.int .i64 p.1.kind,.string ⟨p.1.frm.toArray⟩,.int .i64 p.1.seq,.string ⟨p.1.dst.toArray⟩,.int .i64 p.1.amt,.string ⟨p.1.key.toArray⟩,.string ⟨p.1.val.toArray⟩,.slice p.2.1 p.1.mem.length p.2.2]
abbrev xcells (l:List TxM):List Value:=l.flatMap xcell
theorem xcell_len (p:TxM):(xcell p).length=8:=rfl
structure OkT (x:Ex.Tx):Prop where
 f:x.frm.length≤9223372036854775807
 d:x.dst.length≤9223372036854775807
 k:x.key.length≤9223372036854775807
 v:x.val.length≤9223372036854775807
 m:∀ y∈x.mem,y.1.length≤9223372036854775807
structure TxsAt (w:World) (A:Option Addr) (l:List TxM):Prop where
 r:Reads w w.heap.size 8 A l.length (xcells l)
 m:∀ p∈l,Reads w w.heap.size 2 p.2.1 p.1.mem.length (mcells p.1.mem)
 t:∀ p∈l,OkT p.1
 n:l.length≤9223372036854775807
theorem TxsAt.next {w w':World} {A:Option Addr} {l:List TxM} (h:TxsAt w A l) (hb:Below w.heap.size w w'):TxsAt w' A l:=
 ⟨(h.r.below hb).more hb.size,fun p hp=>((h.m p hp).below hb).more hb.size,h.t,h.n⟩
theorem tx_cells {w:World} {B:Nat} {A:Option Addr} {l:List TxM} (h:Reads w B 8 A l.length (xcells l)) {i:Nat} (hi:i<l.length):
  ∃ ad off,A=some ⟨ad,off,none⟩∧ad<B∧∀ W,Below B w W→
   W.cell? ⟨ad,off+i*8,none⟩=some (.int .i64 l[i].1.kind)∧W.cell? ⟨ad,off+i*8+1,none⟩=some (.string ⟨l[i].1.frm.toArray⟩)∧W.cell? ⟨ad,off+i*8+2,none⟩=some (.int .i64 l[i].1.seq)∧
   W.cell? ⟨ad,off+i*8+3,none⟩=some (.string ⟨l[i].1.dst.toArray⟩)∧W.cell? ⟨ad,off+i*8+4,none⟩=some (.int .i64 l[i].1.amt)∧W.cell? ⟨ad,off+i*8+5,none⟩=some (.string ⟨l[i].1.key.toArray⟩)∧
   W.cell? ⟨ad,off+i*8+6,none⟩=some (.string ⟨l[i].1.val.toArray⟩)∧W.cell? ⟨ad,off+i*8+7,none⟩=some (.slice l[i].2.1 l[i].1.mem.length l[i].2.2):=by
 obtain ⟨ad,off,h1,h2,h3⟩:=flat_cells xcell_len (by decide) h hi;exact ⟨ad,off,h1,h2,fun W hW=>⟨h3 W hW 0 _ rfl,h3 W hW 1 _ rfl,h3 W hW 2 _ rfl,h3 W hW 3 _ rfl,h3 W hW 4 _ rfl,h3 W hW 5 _ rfl,h3 W hW 6 _ rfl,h3 W hW 7 _ rfl⟩⟩
def rcell (r:Ex.Rc):List Value:= [.int .i64 r.1,.string ⟨r.2.1.toArray⟩,.int .i64 r.2.2]
abbrev rcs (l:List Ex.Rc):List Value:=l.flatMap rcell
theorem rcell_len (m:Ex.Rc):(rcell m).length=3:=rfl
theorem rcell_one (r:Ex.Rc):∀ u∈rcell r,u.oneCell'=true:=by
 intro u hu;simp only [rcell,List.mem_cons,List.not_mem_nil,or_false] at hu;rcases hu with rfl|rfl|rfl<;>rfl
theorem mcells_one (l:List Pw.Mem):∀ u∈mcells l,u.oneCell'=true:=by
 intro u hu;rw [List.mem_flatMap] at hu;obtain ⟨m,_,hu⟩:=hu;simp only [mcell,List.mem_cons,List.not_mem_nil,or_false] at hu;rcases hu with rfl|rfl<;>rfl
theorem rcs_snoc (l:List Ex.Rc) (r:Ex.Rc):rcs l++ [.int .i64 r.1,.string ⟨r.2.1.toArray⟩,.int .i64 r.2.2]=rcs (l++ [r]):=by simp [rcs,rcell]
theorem info_rc:(Tryz.prog.info? 75).map (fun i=>(i.zero,i.size,i.bytes))=some (some (.agg #[ζ,ε,ζ]),3,32):=by kernel_rfl
theorem info_mem:(Tryz.prog.info? 165).map (fun i=>(i.zero,i.size,i.bytes))=some (some (.agg #[ε,ζ]),2,24):=by kernel_rfl
theorem own_types_ne {w:World} {base base':Nat} {e e':TypeId} {size size' n n':Nat} {v v':Value} {xs xs':List Value} (h:w.ownsRow base e size v n xs) (h':w.ownsRow base' e' size' v' n' xs') (hne:e≠e'):v.ownBlock=none∨v.ownBlock≠v'.ownBlock:=by
 rcases h'.2 with ⟨rfl,_⟩|⟨g,cap,cur,rfl,_,hh,_⟩
 ·cases hv:v.ownBlock with
  |none=>exact .inl rfl
  |some k=>exact .inr (by simp [Value.ownBlock])
 ·exact .inr (own_blk_ne (cs:=cur) h hh hne)
theorem own_blk {w:World} {base:Nat} {e:TypeId} {size n:Nat} {v:Value} {xs:List Value} (h:w.ownsRow base e size v n xs):∀ k,v.ownBlock=some k→∃ cs,Blk w k e cs:=by
 intro k hk;rcases h.2 with ⟨rfl,_⟩|⟨g,cap,cur,rfl,_,hh,_⟩
 ·cases hk
 ·injection hk with hk
  subst hk;exact ⟨_,hh⟩
def allX (t:Trie.T) (l:List Ex.Tx):(Trie.T × List Ex.Rc × List Pw.Mem) × Nat:=
 if 8<l.length then ((.nil,[],[]),2) else if l.all Ex.fineX=false then ((.nil,[],[]),150) else (Ex.allGo t l [],0)
def AllEnd (w:World) (r:(Trie.T × List Ex.Rc × List Pw.Mem) × Nat) (e:Ending) (w':World):Prop:=
 ∃ v A c B d,e= .returned (.tuple #[v,.slice A r.1.2.1.length c,.slice B r.1.2.2.length d,.int .i64 (r.2:Int)])∧Below w.heap.size w w'∧(r.2=0→TrieP w' r.1.1 v)∧(r.2≠0→v= .pointer none)∧
  w'.ownsRow w.heap.size 75 3 (.slice A r.1.2.1.length c) r.1.2.1.length (rcs r.1.2.1)∧w'.ownsRow w.heap.size 165 2 (.slice B r.1.2.2.length d) r.1.2.2.length (mcells r.1.2.2)
theorem all_take {l:List TxM} {i:Nat} (hi:i<l.length) (h:(l.take i).all (fun p=>Ex.fineX p.1)=true) (hx:Ex.fineX l[i].1=true):(l.take (i+1)).all (fun p=>Ex.fineX p.1)=true:=by
 rw [List.take_succ_eq_append_getElem hi,List.all_append,h];simp [hx]
theorem exec_All (w:World) (t:Trie.T) (v:Value) (h:TrieP w t v) (hcn:Trie.count t≤900) (hT:Tbl w) (l:List TxM) (A:Option Addr) (c:Nat) (HL:TxsAt w A l):
  Calls Tryz.prog 132 #[v,.slice A l.length c] w (AllEnd w (allX t (l.map (·.1)))):=by
 have HPe:Hid (∀ (cd:Nat) w',allX t (l.map (·.1))=((.nil,[],[]),cd)→cd≠0→Below w.heap.size w w'→AllEnd w (allX t (l.map (·.1))) (.returned (.tuple #[.pointer none,ν,ν,cd])) w'):=ι (fun cd w' e hc hb=>by
  rw [e]; exact ⟨_,none,0,none,0,rfl,hb,fun h=>absurd h hc,fun _=>rfl,World.ownsRow_nil _ _ _ _,World.ownsRow_nil _ _ _ _⟩)
 have HPo:Hid (∀ t' D M v A c B d w',allX t (l.map (·.1))=((t',D,M),0)→Below w.heap.size w w'→TrieP w' t' v→w'.ownsRow w.heap.size 75 3 (.slice A D.length c) D.length (rcs D)→w'.ownsRow w.heap.size 165 2 (.slice B M.length d) M.length (mcells M)→AllEnd w (allX t (l.map (·.1))) (.returned (.tuple #[v,.slice A D.length c,.slice B M.length d,.int .i64 0])) w'):=ι (fun t' D M v A c B d w' e hb h1 h2 h3=>by
  rw [e]; exact ⟨v,A,c,B,d,rfl,hb,fun _=>h1,fun h=>absurd rfl h,h2,h3⟩)
 generalize AllEnd w (allX t (l.map (·.1)))=P at HPe HPo ⊢;have HX:Hid (allX t (l.map (·.1))=if 8<l.length then ((.nil,[],[]),2) else if (l.all fun p=>Ex.fineX p.1)=false then ((.nil,[],[]),150) else (Ex.allGo t (l.map (·.1)) [],0)):=ι (by unfold allX; rw [List.length_map,List.all_map]; rfl);generalize allX t (l.map (·.1))=X at *;have HTb:=ι hT;by_cases h8:8<l.length
 ·have h8':(8:Int)<l.length:=by omega
  have HE:Hid (X=((.nil,[],[]),2)):=ι (by rw [HX.out,if_pos h8]);clear HX h8 HL hT h;go_enter Tryz.func132,Tryz.ntmps132
  go_wp2
  refine bodyPost_ret (v:= .tuple #[.pointer none,ν,ν,.int .i64 ((2:Nat):Int)]) (by simp [results,Tryz.results132,go_sem]) rfl ?_;exact HPe.out 2 _ HE.out (by decide) (Below.refl _ _)
 have h8':((8:Int)<l.length)=False:=by simp; omega
 have HX:=ι (HX.out.trans (if_neg h8));have HL8:=ι (Nat.le_of_not_lt h8);have HLL:=ι HL;have HTr:=ι h;have HCn:=ι hcn;obtain ⟨_,vb,vx,rfl,_⟩:=id h;clear HL hT h8 h hcn;go_enter Tryz.func132,Tryz.ntmps132
 go_wp2_with fail
 refine wp_loop_ghost_k (fun k a wr=>∀ Φ:Act→Prop,(∀ ⦃s2 s3 s4 s7 s8 s9 a0 a3 a4 a5 a6 a7 a8 b2 b3 b4 b5 b6 b7 b8 b9 c0 c1 c2 c3 c6 c7 c9 d3 d4 d5 d6 d8 d9 e0 e1 e2 e3 e4 e5 e6 e7 e8 e9 f0 f1 f2 f3 f4 f5 f6 f7 f8 f9 g0:Value⦄ (i:Nat),(i+k=l.length∧(l.take i).all (fun p=>Ex.fineX p.1)=true∧Below w.heap.size w wr)→Φ {tmps:=#[.pointer (some ⟨vb,0,none⟩),.slice A l.length c,s2,s3,s4,.slice none 0 0,.slice none 0 0,s7,s8,s9,a0,a3,a4,a5,a6,a7,a8,.slice A l.length c,.int .i64 l.length,.int .i64 (i:Int),b2,b3,b4,b5,b6,b7,b8,b9,c0,c1,c2,c3,c6,c7,c9,d3,d4,d5,d6,d8,d9,e0,e1,e2,e3,e4,e5,e6,e7,e8,e9,f0,f1,f2,f3,f4,f5,f6,f7,f8,f9,g0],defers:= []})→Φ a) (l.length) ?_ ?_
 ·refine fun Φ hΦ=>hΦ (0) ?_;exact ⟨by omega,rfl,Below.refl _ _⟩
 ·intro k1 a1 wr1 hI1 J1 K1 hJ1 hK1;refine hI1 (fun a=>Code.wp _ _ _ a _) ?_;clear hI1 a1;intro s0 s1 s2 s3 s4 s5 s6 s7 s8 s9 a0 a3 a4 a5 a6 a7 a8 a9 b0 b1 b2 b3 b4 b5 b6 b7 b8 b9 c0 c1 c2 c3 c6 c7 c9 d3 d4 d5 d6 d8 d9 e0 e1 e2 e3 e4 e5 e6 e7 e8 e9 f0 f1 f2 f3 i hrel
  show Code.wp _ _ _ _ _;obtain ⟨h1,h2,hb⟩:=hrel;by_cases hi:i<l.length
  ·have HI:=ι (And.intro h1 (And.intro h2 hb));have HLi:=ι (HLL.out.next hb);obtain ⟨ad,off,rfl,hbl,hcell⟩:=tx_cells HLi.out.r hi;obtain ⟨r0,r1,r2,r3,r4,r5,r6,r7⟩:=hcell _ (Below.refl _ _);have hi1:(i:Int)<l.length:=by omega
   have hi0:(0:Int)≤i:=by omega
   have hi8:(i:Int)<8:=by have:=HL8.out; omega
   have ht:=HLi.out.t _ (List.getElem_mem hi);have hm:=HLi.out.m _ (List.getElem_mem hi);have HStep:=ι (all_take hi h2);have HNo:Hid (Ex.fineX l[i].1=false→(l.all fun p=>Ex.fineX p.1)=false):=ι (fun hx=>by
    rw [List.all_eq_false]; exact ⟨_,List.getElem_mem hi,by rw [hx]; decide⟩)
   clear h1 h2 hb hcell hbl;generalize l[i]=p at *;obtain ⟨⟨kd,fr,sq,dt,am,ky,vl,mm⟩,mA,mc⟩:=p;simp only at r0 r1 r2 r3 r4 r5 r6 r7 HStep HNo hm;obtain ⟨o1,o2,o3,o4,o5⟩:=ht;simp only at o1 o2 o3 o4 o5;have HCk:=ι (fun W (hW:Below wr1.heap.size wr1 W)=>tx_Check W kd fr sq dt am ky vl mm mA mc o1 o2 o3 o4 o5 ((hm.below hW).more hW.size));clear o1 o2 o3 o4 o5 hm;go_upto_region 6 with fail
   have F1:=Live.ha (ι (Live.start wr1)) #[kd,fr,sq,dt,am,ky,vl,.slice mA mm.length mc] 80;generalize World.alloc wr1 _=W1 at F1 ⊢;generalize wr1.heap.size=xb at F1 ⊢;clear r0 r1 r2 r3 r4 r5 r6 r7;obtain ⟨k0_0,k0_1,k0_2,k0_3,k0_4,k0_5,k0_6,k0_7⟩:=(F1.out.blk 0 rfl).c8;generalize Ex.fineX ⟨kd,fr,sq,dt,am,ky,vl,mm⟩=fx at *;go_wp2_with fail
   refine (HCk.out _ F1.out.b).mono ?_;rintro e w2 ⟨rfl,hb⟩;have F2:=Live.hb F1 hb;clear hb F1 k0_0 k0_1 k0_2 k0_3 k0_4 k0_5 k0_6 k0_7 HCk;cases fx with
   |false=>
    have HE:Hid (X=((.nil,[],[]),150)):=ι (by rw [HX.out,if_pos (HNo.out rfl)]);clear HX HStep HNo;simp only [Bool.false_eq_true,if_false];go_wp2_with fail
    refine bodyPost_ret (v:= .tuple #[.pointer none,ν,ν,.int .i64 ((150:Nat):Int)]) (by simp [results,Tryz.results132,go_sem]) rfl ?_;exact HPe.out 150 _ HE.out (by decide) (HI.out.2.2.nxt F2.out.b)
   |true=>
    simp only [if_true];go_wp2_with fail
    refine Handed.intro (l.length - (i+1)) ?_ (hJ1 _ _ _ (fun Φ hΦ=>hΦ (i+1) ?_))
    ·have:=HI.out.1; omega
    exact ⟨by have:=HI.out.1; omega,HStep.out (by first|exact trivial|rfl),HI.out.2.2.nxt F2.out.b⟩
  ·have hi1:((i:Int)<l.length)=False:=by simp; omega
   have HE:Hid (X=(Ex.allGo t (l.map (·.1)) [],0)):=ι (by
    rw [HX.out,if_neg];rw [List.take_of_length_le (by omega)] at h2;rw [h2]; decide)
   have HB1:=ι hb;clear h1 h2 hb hi HX;go_wp2_with fail
   refine wp_loop_ghost_k (fun k a wr=>∀ Φ:Act→Prop,(∀ ⦃s0 s1 s2 s3 s7 s8 s9 a0 a3 a4 a5 a6 a7 a8 a9 b0 b1 b2 b3 b4 b5 b6 b7 b8 b9 c3 c6 c7 c9 d3 d4 d5 d6 d8 d9 e0 e1 e2 e3 e4 e5 e6 e7 e8 e9 f0 f1 f2 f3 f4 f5 f6 f7 f8 f9 g0:Value⦄ (i:Nat) (t2:Trie.T) (v:Value) (D:List Ex.Rc) (rA:Option Addr) (rc:Nat) (M:List Pw.Mem) (mB:Option Addr) (md:Nat),(i+k=l.length∧X=(((Ex.allGo t2 ((l.drop i).map (·.1)) M).1,D++(Ex.allGo t2 ((l.drop i).map (·.1)) M).2.1,(Ex.allGo t2 ((l.drop i).map (·.1)) M).2.2),0)∧D.length=i∧Trie.count t2≤900+2*i∧TrieP wr t2 v∧wr.ownsRow w.heap.size 75 3 (.slice rA D.length rc) D.length (rcs D)∧wr.ownsRow w.heap.size 165 2 (.slice mB M.length md) M.length (mcells M)∧Below w.heap.size w wr)→Φ {tmps:=#[s0,s1,s2,s3,v,.slice rA D.length rc,.slice mB M.length md,s7,s8,s9,a0,a3,a4,a5,a6,a7,a8,a9,b0,b1,b2,b3,b4,b5,b6,b7,b8,b9,.slice A l.length c,.int .i64 l.length,.int .i64 (i:Int),c3,c6,c7,c9,d3,d4,d5,d6,d8,d9,e0,e1,e2,e3,e4,e5,e6,e7,e8,e9,f0,f1,f2,f3,f4,f5,f6,f7,f8,f9,g0],defers:= []})→Φ a) (l.length) ?_ ?_
   ·refine fun Φ hΦ=>hΦ (0) (t) (.pointer (some ⟨vb,0,none⟩)) ([]) (none) (0) ([]) (none) (0) ?_;exact ⟨by omega,HE.out,rfl,HCn.out,HTr.out.next HB1.out,World.ownsRow_nil _ _ _ _,World.ownsRow_nil _ _ _ _,HB1.out⟩
   ·intro k2 a2 wr2 hI2 J2 K2 hJ2 hK2;refine hI2 (fun a=>Code.wp _ _ _ a _) ?_;clear hI2 a2;iterate 56 (intro _)
    intro i t2 v D rA rc M mB md hrel
    show Code.wp _ _ _ _ _;obtain ⟨h1,h2,h3,h4,hk,hD,hM,hb⟩:=hrel;obtain ⟨_,vb2,vx2,rfl,_⟩:=id hk;by_cases hi:i<l.length
    ·have HI:=ι (And.intro h1 (And.intro h4 (And.intro hk (And.intro hD (And.intro hM hb)))));have HLi:=ι (HLL.out.next hb);obtain ⟨ad,off,rfl,hbl,hcell⟩:=tx_cells HLi.out.r hi;obtain ⟨r0,r1,r2,r3,r4,r5,r6,r7⟩:=hcell _ (Below.refl _ _);have hi1:(i:Int)<l.length:=by omega
     have hi0:(0:Int)≤i:=by omega
     have hi8:(i:Int)<8:=by have:=HL8.out; omega
     have ht:=HLi.out.t _ (List.getElem_mem hi);have hm:=HLi.out.m _ (List.getElem_mem hi);have hm0:=HLL.out.m _ (List.getElem_mem hi);have hd:l.drop i=l[i]::l.drop (i+1):=List.drop_eq_getElem_cons hi;have HDl:=ι h3;have hDl8:D.length<8:=by omega
     rw [hd,List.map_cons] at h2;have HH1:=ι h2;have F0:Hid (Live w wr2 []):=ι ⟨hb,by simp,List.Pairwise.nil⟩;clear h1 h2 h3 h4 hk hD hM hb hcell hbl hd;generalize l[i]=p at *;generalize hrest:(l.drop (i+1)).map (·.1)=rest at *;have HRest:=ι hrest;clear hrest;obtain ⟨⟨kd,fr,sq,dt,am,ky,vl,mm⟩,mA,mc⟩:=p;simp only at r0 r1 r2 r3 r4 r5 r6 r7 HH1 hm hm0;obtain ⟨o1,o2,o3,o4,o5⟩:=ht;simp only at o1 o2 o3 o4 o5;have HM0:=ι hm0;have HDo:=ι (fun W (hW:Below wr2.heap.size wr2 W)=>exec_Do W t2 _ (HI.out.2.2.1.next hW) (by have:=HI.out.2.1; omega) (HTb.out.next (HI.out.2.2.2.2.2.nxt hW)) kd fr sq dt am ky vl mm mA mc o1 o2 o3 o4 o5 ((hm.below hW).more hW.size));have hfine:=Ex.doW_done (t:=t2) (x:=⟨kd,fr,sq,dt,am,ky,vl,mm⟩);have hsame:=Ex.doW_same (t:=t2) (x:=⟨kd,fr,sq,dt,am,ky,vl,mm⟩);have hcnt:=(Ex.doW_good HI.out.2.2.1.1 ⟨kd,fr,sq,dt,am,ky,vl,mm⟩).2;have HH2:Hid (X=(((Ex.allGo (Ex.doW t2 ⟨kd,fr,sq,dt,am,ky,vl,mm⟩).1 rest (if (Ex.doW t2 ⟨kd,fr,sq,dt,am,ky,vl,mm⟩).2=0∧kd=4 then mm else M)).1,(D++ [(((Ex.doW t2 ⟨kd,fr,sq,dt,am,ky,vl,mm⟩).2:Int),fr,sq)])++(Ex.allGo (Ex.doW t2 ⟨kd,fr,sq,dt,am,ky,vl,mm⟩).1 rest (if (Ex.doW t2 ⟨kd,fr,sq,dt,am,ky,vl,mm⟩).2=0∧kd=4 then mm else M)).2.1,(Ex.allGo (Ex.doW t2 ⟨kd,fr,sq,dt,am,ky,vl,mm⟩).1 rest (if (Ex.doW t2 ⟨kd,fr,sq,dt,am,ky,vl,mm⟩).2=0∧kd=4 then mm else M)).2.2),0)):=ι (by
      rw [HH1.out,List.append_assoc]; rfl)
     clear HH1;have hok4:Hid ((Ex.doW t2 ⟨kd,fr,sq,dt,am,ky,vl,mm⟩).2=0→kd=4→mm.length≤7):=ι (fun h0 h4=>by
      obtain ⟨hx,_⟩:=hfine h0;rcases (Ex.fineX_spec hx).2.2.2 with ⟨k,_⟩|⟨k,_⟩|⟨k,_⟩|⟨_,_,_,_,_,hm⟩
      ·simp only at k; omega
      ·simp only at k; omega
      ·simp only at k; omega
      ·exact (Pw.okM_len hm).2)
     have HSame:=ι hsame;have HCnt:=ι hcnt;clear o1 o2 o3 o4 o5 hm hm0 hfine hsame hcnt;generalize Ex.doW t2 ⟨kd,fr,sq,dt,am,ky,vl,mm⟩=dr at *;obtain ⟨t3,cd⟩:=dr;simp only at HDo HH2 hok4 HSame HCnt;go_upto_region 13 with fail
     have F1:=Live.ha F0 #[kd,fr,sq,dt,am,ky,vl,.slice mA mm.length mc] 80;have BB1:Hid (Below wr2.heap.size wr2 (wr2.alloc (.cells #[kd,fr,sq,dt,am,ky,vl,.slice mA mm.length mc] 80))):=ι ((Below.refl _ wr2).alloc (Nat.le_refl _) _);generalize World.alloc wr2 _=W1 at F1 BB1 ⊢;generalize wr2.heap.size=xb at F1 ⊢;clear r0 r1 r2 r3 r4 r5 r6 r7 F0;obtain ⟨k0_0,k0_1,k0_2,k0_3,k0_4,k0_5,k0_6,k0_7⟩:=(F1.out.blk 0 rfl).c8;go_wp2_with fail
     refine (HDo.out _ BB1.out).mono ?_;rintro e w3 ⟨v3,rfl,hb,hk3,hn3⟩;have F3:=Live.hb F1 hb;have BB3:=ι (BB1.out.nxt hb);have K3:=ι (And.intro hk3 hn3);clear hb hk3 hn3 F1 BB1 k0_0 k0_1 k0_2 k0_3 k0_4 k0_5 k0_6 k0_7 HDo;have O3:=ι (own_below HI.out.2.2.2.1 BB3.out);have M3:=ι (own_below HI.out.2.2.2.2.1 BB3.out);have T3:=ι (HI.out.2.2.1.next BB3.out);have k0_1:=(F3.out.blk 0 rfl).d1;have k0_2:=(F3.out.blk 0 rfl).d2;go_upto_region 15 with (at_builtin; refine wpList_append_new w3 75 [cd,fr,sq] rfl _ _ 71 rfl w.heap.size 3 32 _ info_rc Tryz.underlying71 rfl (by decide) (.slice rA D.length rc) D.length (rcs D) rfl O3.out 1 1 rfl rfl (by simp [Value.oneCell']) (by simp only [maxLen]; omega) (by omega) w.heap.size w F3.out.b (Nat.le_refl _) F3.out.b.size ?_; intro v4 w4 own4 hb4 hg4 _ _; obtain ⟨A4,c4,rfl,_,_,_⟩:=own_form own4; have G4:=ι (And.intro own4 (And.intro hb4 hg4)); clear own4 hb4 hg4)
     have O4:Hid (w4.ownsRow w.heap.size 75 3 (.slice A4 (D++ [((cd:Int),fr,sq)]).length c4) (D++ [((cd:Int),fr,sq)]).length (rcs (D++ [((cd:Int),fr,sq)]))):=ι (by have:=G4.out.1; rw [rcs_snoc D ((cd:Int),fr,sq)] at this; rw [List.length_append]; exact this);have M4:=ι (M3.out.kept G4.out.2.2 (own_types_ne M3.out O3.out (by decide)));have F4:=Live.hp F3 O3.out (Nat.le_refl _) (by intro x hx; simp only [List.mem_cons,List.not_mem_nil,or_false] at hx; rcases hx with rfl; simp) G4.out.2.2;have T4:Hid (∀ t' v',TrieP w3 t' v'→TrieP w4 t' v'):=ι (fun t' v' hT=>hT.kept G4.out.2.2 (fun k e=>by obtain ⟨cs,hh⟩:=own_blk O3.out k e; exact ⟨_,_,hh,by decide,by decide⟩));clear k0_1 k0_2 G4 O3 M3 F3;rw [show D.length+1=(D++ [((cd:Int),fr,sq)]).length by simp];have HDn:Hid ((D++ [((cd:Int),fr,sq)]).length=i+1):=ι (by rw [List.length_append,HDl.out]; rfl);by_cases hc:cd=0;rotate_left
     ·have hc1:((cd:Int) !=0)=true:=by simp; exact hc
      have hE:=HSame.out hc;subst hE;rw [if_neg (fun e=>hc e.1)] at HH2;generalize D++ [((cd:Int),fr,sq)]=D4 at *;clear hc HSame hok4;go_wp2_with fail
      refine Handed.intro (l.length - (i+1)) ?_ (hJ2 _ _ _ (fun Φ hΦ=>hΦ (i+1) (t3) (.pointer (some ⟨vb2,0,none⟩)) (D4) (A4) (c4) (M) (mB) (md) ?_))
      ·have:=HI.out.1; omega
      exact ⟨by have:=HI.out.1; omega,by rw [HRest.out]; exact HH2.out,HDn.out,by have:=HI.out.2.1; omega,T4.out _ _ T3.out,O4.out,M4.out,F4.out.b⟩
     subst hc;have K3b:=ι (K3.out.1 (by first|exact trivial|rfl));have k0_0:=(F4.out.blk 0 rfl).d0;by_cases h4:kd=4;rotate_left
     ·have h4':(kd==4)=false:=by rw [beq_eq_false_iff_ne]; exact h4
      rw [if_neg (fun e=>h4 e.2)] at HH2;generalize D++ [(((0:Nat):Int),fr,sq)]=D4 at *;clear h4 HSame hok4;go_wp2_with fail
      refine Handed.intro (l.length - (i+1)) ?_ (hJ2 _ _ _ (fun Φ hΦ=>hΦ (i+1) (t3) (v3) (D4) (A4) (c4) (M) (mB) (md) ?_))
      ·have:=HI.out.1; omega
      exact ⟨by have:=HI.out.1; omega,by rw [HRest.out]; exact HH2.out,HDn.out,by have:=HI.out.2.1; have:=HCnt.out; omega,T4.out _ _ K3b.out,O4.out,M4.out,F4.out.b⟩
     subst h4;rw [if_pos ⟨rfl,rfl⟩] at HH2;have hm7:=hok4.out rfl rfl;have k0_7:=(F4.out.blk 0 rfl).d7;generalize D++ [(((0:Nat):Int),fr,sq)]=D4 at *;obtain ⟨i0,hii0,hz0,hz1,hz2⟩:=info_parts info_mem;have hone:=mcells_one mm;clear HSame hok4;go_upto_region 19 with (at_builtin; refine wpList_append_any w4 rfl _ _ 56 rfl w.heap.size 165 i0 _ 2 24 Tryz.underlying56 hii0 hz0 hz1 hz2 rfl (by decide) (.slice none 0 0) 0 [] rfl (World.ownsRow_nil _ _ _ _) w.heap.size mA mm.length mc (mcells mm) rfl (HM0.out.below F4.out.b) hone (by simp only [maxLen]; omega) (by omega) F4.out.b.size ?_; intro v5 w5 own5 hg5 _; rw [Nat.zero_add,List.nil_append] at own5; obtain ⟨A5,c5,rfl,_,_,_⟩:=own_form own5; have O5:=ι own5; have B5:Hid (Below w4.heap.size w4 w5∧w4.grownBy w5 none):=ι ⟨(Below.refl _ _).grown hg5 (Nat.le_refl _) (by intro k e; cases e),hg5⟩; clear own5 hg5)
     go_wp2_with fail
     refine Handed.intro (l.length - (i+1)) ?_ (hJ2 _ _ _ (fun Φ hΦ=>hΦ (i+1) (t3) (v3) (D4) (A4) (c4) (mm) (A5) (c5) ?_))
     ·have:=HI.out.1; omega
     exact ⟨by have:=HI.out.1; omega,by rw [HRest.out]; exact HH2.out,HDn.out,by have:=HI.out.2.1; have:=HCnt.out; omega,(T4.out _ _ K3b.out).next B5.out.1,own_below O4.out B5.out.1,O5.out,F4.out.b.nxt B5.out.1⟩
    ·have hi1:((i:Int)<l.length)=False:=by simp; omega
     have HE2:Hid (X=((t2,D,M),0)):=ι (by
      rw [h2,List.drop_of_length_le (by omega)];simp [Ex.allGo])
     have HI:=ι (And.intro hk (And.intro hD (And.intro hM hb)));clear h1 h2 h3 h4 hk hD hM hb hi;go_wp2_with fail
     refine bodyPost_ret (v:= .tuple #[.pointer (some ⟨vb2,0,none⟩),.slice rA D.length rc,.slice mB M.length md,ζ]) (by simp [results,Tryz.results132,go_sem]) rfl ?_;exact HPo.out t2 D M _ rA rc mB md _ HE2.out HI.out.2.2.2 HI.out.1 HI.out.2.1 HI.out.2.2.1
end
namespace Ex
open Trie Pw
theorem doW_no {t:T} {x:Tx} (h:(doW t x).2≠0):(doW t x).1=t:=by
 unfold doW at h ⊢
 split
 ·rfl
 rename_i hf;rw [if_neg hf] at h
 split
 ·rename_i f tt h1 h2;rw [h1,h2] at h;simp only at h
  split
  ·rfl
  rename_i hg;rw [if_neg hg] at h
  split
  ·rename_i hk;rw [if_pos hk] at h;exact absurd rfl h
  ·rfl
 ·rfl
theorem midW_few {t:T} (hg:Trie.Good t) {x:Tx} (hx:fineX x=true):count (midW t x)≤count t+1:=by
 unfold midW
 split
 ·rename_i f tt h1 h2;refine (kindW_good hg hx (acc_le h1).1 ?_).2.1;unfold accTo at h2
  split at h2
  ·exact acc_le h2
  ·injection h2 with h2; subst h2; exact ⟨by simp,by simp⟩
 ·omega
theorem doL_few {t:T} (hg:Trie.Good t) (h:count t≤1000) (x:Tx):doL t x=doW t x:=by
 by_cases h0:(doW t x).2=0
 ·have hx:fineX x=true:=by
   by_cases hx:fineX x=true
   ·exact hx
   ·unfold doW at h0;rw [if_pos (by simpa using hx)] at h0;cases h0
  have hm:=midW_few hg hx;have h1:full1 t x=false:=by
   unfold full1
   split
   ·exact noRoom_few (by omega)
   ·rfl
  rw [doL_two h0 h1,noRoom_few (by omega),if_neg (by decide),←h0]
 ·rw [doL_no rfl h0];exact (Prod.ext (doW_no h0) rfl).symm
theorem allGoL_few:∀ (l:List Tx) (t:T) (m:List Mem),Trie.Good t→count t+2*l.length≤1000→allGoL t l m=allGo t l m
 | [],t,m,hg,hc=>rfl
 |x::r,t,m,hg,hc=>by
  rw [List.length_cons] at hc;rw [allGoL,allGo,doL_few hg (by omega)];obtain ⟨h1,h2⟩:=doW_good hg x;rw [allGoL_few r _ _ h1 (by omega)]
theorem allL_few {t:T} (hg:Trie.Good t) (h:count t≤900) (l:List Tx):allL t l=allX t l:=by
 unfold allL allX
 split
 ·rfl
 split
 ·rfl
 rw [allGoL_few l t [] hg (by omega)]
end Ex
namespace Led
open Trie Pw
def Few (l:List En) (n:Nat):Prop:=∀ e∈l,count e.st≤n
theorem newE_few (l:List Ex.Ac) (set:List Mem):Few [newE (Ex.genW l set).1 set] 9:=by
 intro e he;rw [List.mem_singleton] at he;subst he;exact (Ex.genW_good l set).2
theorem addW_few {l:List En} (h:Wf l) {n:Nat} (hn:Few l n) (h9:n≤900) (view:Int) (txs:List Ex.Tx):Few (addW l view txs).1 (n+16):=by
 obtain ⟨k,hk⟩:∃ k,l.length=k+1:=⟨l.length - 1,by have:=h.pos; omega⟩
 have hm:Few l (n+16):=fun e he=>Nat.le_trans (hn e he) (by omega);unfold addW;rw [last_of hk];simp only
 split
 ·rename_i hc;have o:=h.one k (by omega);have hc0:=hn _ (List.getElem_mem (show k<l.length by omega));obtain ⟨a1,a2,a3⟩:=Ex.allL_ok (makeC_all hc);intro e he;rcases List.mem_append.1 he with he|he
  ·exact hm e he
  ·rw [List.mem_singleton] at he;subst he
   show count (Ex.allL l[k].st txs).1.1≤_;rw [a3,Ex.allGoL_few txs _ [] o.good (by omega)]
   have:=(Ex.allGo_good txs l[k].st [] o.good).2.1
   simp only
   omega
 ·exact hm
end Led
namespace Ex
open Trie Pw
theorem getW_code (t:T) (k:List UInt8):(getW t k).2≤5:=by
 unfold getW
 split
 ·split<;>simp
 ·simp
theorem kindW_code (t:T) (x:Tx) (f tt:Nat × Nat):(kindW t x f tt).2.1≤162:=by
 have:=getW_code t (dKey x.key)
 unfold kindW
 split
 ·split
  ·simp
  split
  ·simp
  split<;>simp
 split
 ·simp
 split
 ·split
  ·simp
  ·simp only; omega
 split<;>simp
theorem doW_code (t:T) (x:Tx):(doW t x).2≤162:=by
 unfold doW
 split
 ·simp
 split
 ·rename_i f tt _ _
  have:=kindW_code t x f tt
  split
  ·simp
  split
  ·simp
  ·exact this
 ·simp
theorem doL_code (t:T) (x:Tx):(doL t x).2≤162:=by
 have:=doW_code t x
 unfold doL
 split
 ·exact this
 split
 ·simp
 split<;>simp
theorem allGoL_rok:∀ (l:List Tx) (t:T) (m:List Mem),(∀ x∈l,fineX x=true)→∀ r∈(allGoL t l m).2.1,rcOk r.1 r.2.1 r.2.2
 | [],t,m,h=>by simp [allGoL]
 |x::r,t,m,h=>by
  intro y hy;simp only [allGoL,List.mem_cons] at hy;rcases hy with rfl|hy
  ·obtain ⟨h1,h2,h3,_⟩:=fineX_spec (h x (by simp));have hn:=nameW_len h1;have hc:=doL_code t x;exact ⟨by simp only; omega,by simp only; omega,fun e=>by simp only at e; rw [e] at hn; simp at hn,hn.2,h2,h3⟩
  ·exact allGoL_rok r _ _ (fun z hz=>h z (by simp [hz])) y hy
end Ex
theorem treeW_rok:∀ (l:List (Int × List UInt8 × Int)) (t:Trie.T) (k:Nat),(∀ x∈l,rcOk x.1 x.2.1 x.2.2)→(treeW t k l).2=0
 | [],t,k,h=>rfl
 |x::l,t,k,h=>by
  rw [treeW,if_pos (h x (by simp))];exact treeW_rok l _ _ fun y hy=>h y (by simp [hy])
namespace Led
open Trie Pw
structure Rt (e:En):Prop where
 st:e.hd.st=sumT e.st
 rc:e.hd.rc=rootR e.rcs
 tx:e.hd.tx=Ex.rootX e.txs
 len:e.rcs.length=e.txs.length
 few:e.txs.length≤8
 fine:∀ x∈e.txs,Ex.fineX x=true
 rok:∀ r∈e.rcs,rcOk r.1 r.2.1 r.2.2
theorem Rt.tree {e:En} (h:Rt e):(treeF e.rcs).2=0:=by
 have:=h.len
 have:=h.few
 unfold treeF;rw [if_neg (by omega)];exact treeW_rok _ _ _ h.rok
theorem newE_rt (t:T) (set:List Mem):Rt (newE t set):=by
 have h:rootR []= []:=rfl;unfold newE newH;generalize Hd.dig _=d;refine ⟨?_,?_,?_,?_,?_,?_,?_⟩<;>simp [h]
theorem makeE_rt {l:List En} {p:En} {view:Int} {txs:List Ex.Tx} (hg:Trie.Good p.st) (hc0:count p.st≤1024) (hc:makeC p view txs=0):Rt (makeE l p view txs):=by
 obtain ⟨a1,a2,a3⟩:=Ex.allL_ok (makeC_all hc);have hl:=(Ex.allGoL_good txs p.st [] hg hc0).2.2;unfold makeE;rw [a3];have hr:=Ex.allGoL_rok txs p.st [] a2;unfold nextE nextH;generalize Hd.dig _=d;generalize Ex.allGoL p.st txs []=q at *;obtain ⟨t,R,M⟩:=q;simp only at hl hr ⊢;generalize hz:sumT t=a;generalize hy:rootR R=b at *;generalize hx:Ex.rootX txs=c;exact ⟨hz.symm,hy.symm,hx.symm,hl,a1,a2,hr⟩
def Rts (l:List En):Prop:=∀ e∈l,Rt e
theorem addW_rts {l:List En} (h:Wf l) (hr:Rts l) (view:Int) (txs:List Ex.Tx):Rts (addW l view txs).1:=by
 obtain ⟨n,hn⟩:∃ n,l.length=n+1:=⟨l.length - 1,by have:=h.pos; omega⟩
 unfold addW;rw [last_of hn];simp only
 split
 ·rename_i hc;have o:=h.one n (by omega);intro e he;rcases List.mem_append.1 he with he|he
  ·exact hr e he
  ·rw [List.mem_singleton] at he;subst he;exact makeE_rt o.good o.cnt hc
 ·exact hr
theorem Rts.grow:∀ (r:List (Int × List Ex.Tx)) (l:List En),Wf l→Rts l→Rts (growW l r)
 | [],l,h,hr=>hr
 |b::r,l,h,hr=>Rts.grow r _ (addW_wf h b.1 b.2) (addW_rts h hr b.1 b.2)
end Led
namespace Ex
open Pw Trie
end Ex
namespace Led
open Trie Pw
theorem add_ok {l:List En} {n:Nat} (hn:l.length=n+1) {p:En} (hp:l[n]?=some p) {view:Int} {txs:List Ex.Tx} (h:makeC p view txs=0):addW l view txs=(l++ [makeE l p view txs],0):=by
 have e:l[n]'(by omega)=p:=by rw [List.getElem?_eq_getElem (by omega)] at hp; exact Option.some.inj hp
 unfold addW;rw [last_of hn,e];simp only
 rw [if_pos h]
end Led
section
open Go.RowKit Go.Instr
attribute [local go_sem] ba_get ByteArray.mk_append_mk
attribute [local go_sem ↓] Go.wp_at_zero Go.wp_at_succ
structure LeM where
 en:En
 tl:List TxM
 kA:Option Addr
 kc:Nat
 xA:Option Addr
 xc:Nat
 rA:Option Addr
 rc:Nat
 sv:Value
 sA:Option Addr
 sc:Nat
def lcell (e:LeM):List Value:= [.int .i64 e.en.hd.hgt,.int .i64 e.en.hd.epo,.int .i64 e.en.hd.vw,.bool e.en.hd.last,.string ⟨e.en.hd.par.toArray⟩,.string ⟨e.en.hd.st.toArray⟩,.string ⟨e.en.hd.rc.toArray⟩,.string ⟨e.en.hd.tx.toArray⟩,.string ⟨e.en.hd.mem.toArray⟩,.string ⟨e.en.hd.nxt.toArray⟩,.slice e.kA e.en.hd.sk.length e.kc,.string ⟨e.en.sum.toArray⟩,.slice e.xA e.tl.length e.xc,.slice e.rA e.en.rcs.length e.rc,e.sv,.slice e.sA e.en.set.length e.sc]
theorem lcell_len (e:LeM):(lcell e).length=16:=rfl
abbrev lcells (l:List LeM):List Value:=l.flatMap lcell
theorem lcells_snoc (l:List LeM) (e:LeM):lcells l++lcell e=lcells (l++ [e]):=by simp [lcells]
structure LeOk (w:World) (e:LeM):Prop where
 k:Reads w w.heap.size 1 e.kA e.en.hd.sk.length (strv e.en.hd.sk)
 x:TxsAt w e.xA e.tl
 xe:e.en.txs=e.tl.map (·.1)
 r:Reads w w.heap.size 3 e.rA e.en.rcs.length (rcs e.en.rcs)
 s:Reads w w.heap.size 2 e.sA e.en.set.length (mcells e.en.set)
 t:TrieP w e.en.st e.sv
theorem LeOk.next {w w':World} {e:LeM} (h:LeOk w e) (hb:Below w.heap.size w w'):LeOk w' e:=
 ⟨(h.k.below hb).more hb.size,h.x.next hb,h.xe,(h.r.below hb).more hb.size,(h.s.below hb).more hb.size,h.t.next hb⟩
theorem TrieP.one {w:World} {t:Trie.T} {v:Value} (h:TrieP w t v):v.oneCell'=true:=by
 obtain ⟨_,b,x,rfl,_⟩:=h;rfl
theorem lcell_one (e:LeM) (h:e.sv.oneCell'=true):∀ u∈lcell e,u.oneCell'=true:=by
 intro u hu;simp only [lcell,List.mem_cons,List.not_mem_nil,or_false] at hu;rcases hu with rfl|rfl|rfl|rfl|rfl|rfl|rfl|rfl|rfl|rfl|rfl|rfl|rfl|rfl|rfl|rfl<;>first|rfl|exact h
def offA (A:Option Addr) (b:Nat):Prop:=∀ a,A=some a→a.block≠b
def LeM.off (e:LeM) (b:Nat):Prop:=offA e.kA b∧offA e.xA b∧offA e.rA b∧offA e.sA b∧∀ p∈e.tl,offA p.2.1 b
theorem TxsAt.far {w w':World} {A:Option Addr} {l:List TxM} {row:Option Nat} (h:TxsAt w A l) (hg:w.grownBy w' row) (hne:∀ k,row=some k→offA A k∧∀ p∈l,offA p.2.1 k):TxsAt w' A l:=
 ⟨reads_off h.r hg (fun a ha e=>(hne _ e.symm).1 a ha rfl),fun p hp=>reads_off (h.m p hp) hg (fun a ha e=>(hne _ e.symm).2 p hp a ha rfl),h.t,h.n⟩
def wofA (A:Option Addr) (n b:Nat):Prop:=n≠0→∀ a,A=some a→a.block≠b
theorem offA.w {A:Option Addr} {b:Nat} (h:offA A b) (n:Nat):wofA A n b:=fun _=>h
theorem wofA.new {W:World} {size n:Nat} {A:Option Addr} {xs:List Value} (h:Reads W W.heap.size size A n xs) {b:Nat} (hb:W.heap.size≤b):wofA A n b:=fun hn a ha e=>by
 obtain ⟨ad,h1,h2,_⟩:=h.2 (Nat.pos_of_ne_zero hn);rw [h1] at ha
 have:=Option.some.inj ha
 subst this;omega
theorem reads_woff {W W':World} {size n:Nat} {A:Option Addr} {xs:List Value} {row:Option Nat} (h:Reads W W.heap.size size A n xs) (hg:W.grownBy W' row) (hne:∀ k,row=some k→wofA A n k):Reads W' W'.heap.size size A n xs:=by
 by_cases hn:n=0
 ·exact ⟨h.1,fun h=>absurd hn (Nat.ne_of_gt h)⟩
 ·exact reads_off h hg (fun a ha e=>hne _ e.symm hn a ha rfl)
def LeM.woff (e:LeM) (b:Nat):Prop:=wofA e.kA e.en.hd.sk.length b∧wofA e.xA e.tl.length b∧wofA e.rA e.en.rcs.length b∧wofA e.sA e.en.set.length b∧∀ p∈e.tl,wofA p.2.1 p.1.mem.length b
theorem LeOk.new {W:World} {e:LeM} (h:LeOk W e) {b:Nat} (hb:W.heap.size≤b):e.woff b:=
 ⟨wofA.new h.k hb,wofA.new h.x.r hb,wofA.new h.r hb,wofA.new h.s hb,fun p hp=>wofA.new (h.x.m p hp) hb⟩
theorem LeOk.far {w w':World} {e:LeM} {row:Option Nat} (h:LeOk w e) (hg:w.grownBy w' row) (hne:∀ k,row=some k→e.woff k∧∃ ty cs,Blk w k ty cs∧ty≠115∧ty≠136):LeOk w' e:=
 ⟨reads_woff h.k hg (fun k e=>(hne k e).1.1),⟨reads_woff h.x.r hg (fun k e=>(hne k e).1.2.1),fun p hp=>reads_woff (h.x.m p hp) hg (fun k e=>(hne k e).1.2.2.2.2 p hp),h.x.t,h.x.n⟩,h.xe,reads_woff h.r hg (fun k e=>(hne k e).1.2.2.1),reads_woff h.s hg (fun k e=>(hne k e).1.2.2.2.1),h.t.kept hg (fun k e=>(hne k e).2)⟩
structure LgM where
 es:List LeM
 aA:Option Addr
 ac:Nat
 nx:List Pw.Mem
 nA:Option Addr
 nc:Nat
abbrev LgM.L (g:LgM):List En:=g.es.map (·.en)
abbrev LgM.al (g:LgM):Value:= .slice g.aA g.es.length g.ac
structure LgRd (w:World) (lb:Nat) (g:LgM):Prop where
 blk:Blk w lb 147 #[.slice g.aA g.es.length g.ac,.slice g.nA g.nx.length g.nc]
 r:Reads w w.heap.size 16 g.aA g.es.length (lcells g.es)
 ok:∀ e∈g.es,LeOk w e
 nr:Reads w w.heap.size 2 g.nA g.nx.length (mcells g.nx)
 wf:Led.Wf g.L
 rt:Led.Rts g.L
 nx:∃ p,g.L.getLast?=some p∧p.nxt=g.nx
theorem LgRd.next {w w':World} {lb:Nat} {g:LgM} (h:LgRd w lb g) (hb:Below w.heap.size w w'):LgRd w' lb g:=
 ⟨h.blk.below hb h.blk.lt,(h.r.below hb).more hb.size,fun e he=>(h.ok e he).next hb,(h.nr.below hb).more hb.size,h.wf,h.rt,h.nx⟩
structure LgAt (w:World) (B lb:Nat) (g:LgM):Prop extends LgRd w lb g where
 own:w.ownsRow B 149 16 g.al g.es.length (lcells g.es)
 lo:B≤lb
 off:∀ e∈g.es,e.woff lb∧∀ k,g.al.ownBlock=some k→e.woff k
 noff:wofA g.nA g.nx.length lb∧∀ k,g.al.ownBlock=some k→wofA g.nA g.nx.length k
theorem LgAt.next {w w':World} {B lb:Nat} {g:LgM} (h:LgAt w B lb g) (hb:Below w.heap.size w w'):LgAt w' B lb g:=
 {h.toLgRd.next hb with own:=own_below h.own hb,lo:=h.lo,off:=h.off,noff:=h.noff}
theorem LgAt.grow {W w4:World} {B lb:Nat} {g:LgM} (h:LgAt W B lb g) {x:LeM} (hx:LeOk W x) (hwf:Led.Wf (g.L++ [x.en])) (hrt:Led.Rts (g.L++ [x.en])) {nA:Option Addr} {nc:Nat} (hn:Reads W W.heap.size 2 nA x.en.nxt.length (mcells x.en.nxt))
  (hox:x.woff lb∧∀ k,g.al.ownBlock=some k→x.woff k) (hon:wofA nA x.en.nxt.length lb∧∀ k,g.al.ownBlock=some k→wofA nA x.en.nxt.length k) {A4:Option Addr} {c4:Nat} (own4:w4.ownsRow B 149 16 (.slice A4 (g.es.length+1) c4) (g.es.length+1) (lcells g.es++lcell x))
  (hg4:W.grownBy w4 g.al.ownBlock) (h5:(Value.slice A4 (g.es.length+1) c4).ownBlock=g.al.ownBlock∨∃ q,(Value.slice A4 (g.es.length+1) c4).ownBlock=some q∧W.heap.size≤q):
  LgAt ((w4.setCell ⟨lb,0,none⟩ (.slice A4 (g.es.length+1) c4)).setCell ⟨lb,1,none⟩ (.slice nA x.en.nxt.length nc)) B lb ⟨g.es++ [x],A4,c4,x.en.nxt,nA,nc⟩:=by
 have hne:g.al.ownBlock≠some lb:=own_blk_ne h.own h.blk (by decide);have b4:Blk w4 lb 147 #[.slice g.aA g.es.length g.ac,.slice g.nA g.nx.length g.nc]:=blk_grown h.blk hg4 (fun e=>hne e.symm);have hg6:w4.grownBy ((w4.setCell ⟨lb,0,none⟩ (.slice A4 (g.es.length+1) c4)).setCell ⟨lb,1,none⟩ (.slice nA x.en.nxt.length nc)) (some lb):=grown_cell (grown_cell (World.grownBy.refl w4 (some lb)) 0 _) 1 _;have b6:Blk ((w4.setCell ⟨lb,0,none⟩ (.slice A4 (g.es.length+1) c4)).setCell ⟨lb,1,none⟩ (.slice nA x.en.nxt.length nc)) lb 147 #[.slice A4 (g.es.length+1) c4,.slice nA x.en.nxt.length nc]:=by
  have:=heap_setCell_same _ lb 1 _ _ (.slice nA x.en.nxt.length nc) (heap_setCell_same w4 lb 0 _ _ (.slice A4 (g.es.length+1) c4) b4)
  unfold Blk;simpa using this
 generalize (w4.setCell ⟨lb,0,none⟩ (.slice A4 (g.es.length+1) c4)).setCell ⟨lb,1,none⟩ (.slice nA x.en.nxt.length nc)=w6 at *;have own6:=own_keepB own4 hg6 b4 (by decide);have hob:∀ k,g.al.ownBlock=some k→∃ ty cs,Blk W k ty cs∧ty≠115∧ty≠136:=by
  intro k hk;rcases h.own.2 with ⟨e,_⟩|⟨q,cap,cur,e,_,hh,_⟩
  ·rw [e] at hk; cases hk
  ·rw [e] at hk
   have:=Option.some.inj hk
   subst this;exact ⟨_,_,hh,by decide,by decide⟩
 have hee:∀ e,LeOk W e→e.woff lb→(∀ k,g.al.ownBlock=some k→e.woff k)→LeOk w6 e:=fun e he o1 o2=>
  (he.far hg4 (fun k hk=>⟨o2 k hk,hob k hk⟩)).far hg6 (fun k hk=>by have:=Option.some.inj hk; subst this; exact ⟨o1,_,_,b4,by decide,by decide⟩)
 have hnn:∀ (A:Option Addr) (l:List Pw.Mem),Reads W W.heap.size 2 A l.length (mcells l)→wofA A l.length lb→(∀ k,g.al.ownBlock=some k→wofA A l.length k)→Reads w6 w6.heap.size 2 A l.length (mcells l):=fun A l hr o1 o2=>
  reads_woff (reads_woff hr hg4 o2) hg6 (fun k hk=>by have:=Option.some.inj hk; subst this; exact o1)
 have hlc:lcells g.es++lcell x=lcells (g.es++ [x]):=lcells_snoc _ _;rw [hlc] at own6;have hlen:(g.es++ [x]).length=g.es.length+1:=by simp
 have hL:LgM.L ⟨g.es++ [x],A4,c4,x.en.nxt,nA,nc⟩=g.L++ [x.en]:=by simp [LgM.L]
 have hnew:∀ e,LeOk W e→(∀ k,g.al.ownBlock=some k→e.woff k)→∀ k,(Value.slice A4 (g.es.length+1) c4).ownBlock=some k→e.woff k:=fun e he o2 k hk=>by
  rcases h5 with h5|⟨q,h5,hq⟩
  ·exact o2 k (h5.symm.trans hk)
  ·rw [h5] at hk
   have:=Option.some.inj hk
   subst this;exact he.new hq
 rw [←hlen] at own6 b6;refine {blk:=b6,r:=Reads.of_own own6,ok:= ?_,nr:=hnn _ _ hn hon.1 hon.2,wf:=by rw [hL]; exact hwf,rt:=by rw [hL]; exact hrt,nx:=⟨x.en,by rw [hL]; simp,rfl⟩,own:=own6,lo:=h.lo,off:= ?_,noff:=⟨hon.1,fun k hk=> ?_⟩}
 ·intro e he;rcases List.mem_append.1 he with he|he
  ·exact hee e (h.ok e he) (h.off e he).1 (h.off e he).2
  ·rw [List.mem_singleton] at he;subst he;exact hee e hx hox.1 hox.2
 ·intro e he;simp only [LgM.al,hlen];rcases List.mem_append.1 he with he|he
  ·exact ⟨(h.off e he).1,hnew e (h.ok e he) (h.off e he).2⟩
  ·rw [List.mem_singleton] at he;subst he;exact ⟨hox.1,hnew e hx hox.2⟩
 ·simp only [LgM.al,hlen] at hk;rcases h5 with h5|⟨q,h5,hq⟩
  ·exact hon.2 k (h5.symm.trans hk)
  ·rw [h5] at hk
   have:=Option.some.inj hk
   subst this;exact wofA.new hn hq
theorem LgRd.pos {w:World} {lb:Nat} {g:LgM} (h:LgRd w lb g):∃ n,g.es.length=n+1:=by
 have:=h.wf.pos
 rw [List.length_map] at this;exact ⟨g.es.length - 1,by omega⟩
theorem led_cells {w:World} {B:Nat} {A:Option Addr} {l:List LeM} (h:Reads w B 16 A l.length (lcells l)) {i:Nat} (hi:i<l.length):
  ∃ ad off,A=some ⟨ad,off,none⟩∧ad<B∧∀ W,Below B w W→∀ (j:Nat) (v:Value),(lcell l[i])[j]?=some v→W.cell? ⟨ad,off+i*16+j,none⟩=some v:=by
 obtain ⟨ad,off,h1,h2,h3⟩:=flat_cells lcell_len (by decide) h hi;exact ⟨ad,off,h1,h2,fun W hW j v hv=>h3 W hW j v hv⟩
end
section
open Go.RowKit Go.Instr
theorem rcs_one (l:List Ex.Rc):∀ u∈rcs l,u.oneCell'=true:=by
 intro u hu;rw [List.mem_flatMap] at hu;obtain ⟨m,_,hu⟩:=hu;exact rcell_one m u hu
theorem info_tx:(Tryz.prog.info? 80).map (fun i=>(i.zero,i.size,i.bytes))=some (some (.agg #[ζ,ε,ζ,ε,ζ,ε,ε,ν]),8,112):=by kernel_rfl
theorem xcells_one (l:List TxM):∀ u∈xcells l,u.oneCell'=true:=by
 intro u hu;rw [List.mem_flatMap] at hu;obtain ⟨m,_,hu⟩:=hu;simp only [xcell,List.mem_cons,List.not_mem_nil,or_false] at hu;rcases hu with rfl|rfl|rfl|rfl|rfl|rfl|rfl|rfl<;>rfl
end
section
open Go.RowKit Go.Instr
attribute [local go_sem] ba_get ByteArray.mk_append_mk
attribute [local go_sem ↓] Go.wp_at_zero Go.wp_at_succ
def CloneEnd (w:World) (sz n:Nat) (cs:List Value) (e:Ending) (w':World):Prop:=
 ∃ A c,e= .returned (.slice A n c)∧Below w.heap.size w w'∧Reads w' w'.heap.size sz A n cs∧(∀ a,A=some a→w.heap.size≤a.block∧a.block<w'.heap.size)∧n≤c
theorem eqlIn_nil {t e:TypeId} (h:Tryz.prog.underlying t=some (.slice e)) (w:World) (d:Nat) (a:Option Addr) (n c:Nat):(Op.equalIn (d+1) t (.slice a n c) (.slice none 0 0)).run Tryz.prog w= .ok a.isNone w:=by
 cases a<;>simp [Op.equalIn,run_underlying h]
theorem eql_nil {t e:TypeId} (h:Tryz.prog.underlying t=some (.slice e)) (w:World) (a:Option Addr) (n c:Nat):(binOp .eql t (.slice a n c) (.slice none 0 0)).run Tryz.prog w= .ok (.bool a.isNone) w:=by
 simp only [binOp];simp [Op.equal,Op.maxDepth,eqlIn_nil h w 9999 a n c]
theorem clone_strs (w:World) (l:List (List UInt8)) (hl:l.length≤100000) (A:Option Addr) (c:Nat) (HR:Reads w w.heap.size 1 A l.length (strv l)):
  Calls Tryz.prog 115 #[.slice A l.length c] w (CloneEnd w 1 l.length (strv l)):=by
 have HP:Hid (∀ A' c' w',Below w.heap.size w w'→Reads w' w'.heap.size 1 A' l.length (strv l)→(∀ a,A'=some a→w.heap.size≤a.block∧a.block<w'.heap.size)→l.length≤c'→CloneEnd w 1 l.length (strv l) (.returned (.slice A' l.length c')) w'):=ι (fun A' c' w' h1 h2 h3 h4=>⟨A',c',rfl,h1,h2,h3,h4⟩);generalize CloneEnd w 1 l.length (strv l)=P at HP ⊢;have HL:=ι hl;cases A with
 |none=>
  have h0:l= []:=by
   cases l with
   |nil=>rfl
   |cons x r=>obtain ⟨a,o,h,_⟩:=HR.form (by simp) (by decide); cases h
  subst h0;have he:(binOp .eql 26 (.slice none 0 c) (.slice none 0 0)).run Tryz.prog w= .ok (.bool true) w:=eql_nil Tryz.underlying26 w none 0 c;go_enter Tryz.func115,Tryz.ntmps115
  go_wp2_with fail
  exact HP.out none 0 w (Below.refl _ _) Reads.none_ (by simp) (Nat.le_refl _)
 |some ad=>
  have HRR:=ι HR;clear HR hl;have he:(binOp .eql 26 (.slice (some ad) l.length c) (.slice none 0 0)).run Tryz.prog w= .ok (.bool false) w:=eql_nil Tryz.underlying26 w (some ad) l.length c;obtain ⟨i0,hi0,hz0,hz1,hz2⟩:=info_parts info_str;go_enter Tryz.func115,Tryz.ntmps115
  go_upto_region 3 with fail
  have F1:=Live.hb (ι (Live.start w)) ((Below.refl _ w).alloc (Nat.le_refl _) (.cells #[] 9));have O1:=World.ownsRow_made (base:=w.heap.size) (e:=9) (size:=1) w #[] 0 (Nat.le_refl _) (by simp only [maxLen]; omega) rfl;have RA:Reads (w.alloc (.cells #[] 9)) w.heap.size 1 (some ad) l.length (strv l):=HRR.out.below F1.out.b;have hll:=HL.out;go_wp2_with (at_builtin; refine wpList_append_any (w.alloc (.cells #[] 9)) rfl _ _ 26 rfl w.heap.size 9 i0 _ 1 16 Tryz.underlying26 hi0 hz0 hz1 hz2 rfl (by decide) (.slice (some ⟨w.heap.size,0,none⟩) 0 0) 0 [] rfl O1 w.heap.size (some ad) l.length c (strv l) rfl RA (strv_one _) (by simp only [maxLen]; omega) (by omega) F1.out.b.size ?_; intro v2 w2 own2 hg2 _; rw [Nat.zero_add,List.nil_append] at own2; have hlt2:=own2.lt; obtain ⟨A2,c2,rfl,hr2,hc2,hb2⟩:=own_form own2; clear hb2; have hb2:=(show ∀ a,A2=some a→w.heap.size≤a.block∧a.block<w2.heap.size from fun a ha=>hlt2 a.block (by rw [ha]; rfl)); clear hlt2; have H2:=ι (And.intro hr2 (And.intro hc2 hb2)); have HG:=ι (F1.out.b.grown hg2 F1.out.b.size (fun k e=>Nat.le_of_eq (Option.some.inj e))); clear own2 hg2 hr2 hc2 hb2)
  exact HP.out A2 c2 _ HG.out (H2.out.1.more (Nat.le_refl _)) H2.out.2.2 H2.out.2.1
theorem clone_mems (w:World) (l:List Pw.Mem) (hl:l.length≤100000) (A:Option Addr) (c:Nat) (HR:Reads w w.heap.size 2 A l.length (mcells l)):
  Calls Tryz.prog 83 #[.slice A l.length c] w (CloneEnd w 2 l.length (mcells l)):=by
 have HP:Hid (∀ A' c' w',Below w.heap.size w w'→Reads w' w'.heap.size 2 A' l.length (mcells l)→(∀ a,A'=some a→w.heap.size≤a.block∧a.block<w'.heap.size)→l.length≤c'→CloneEnd w 2 l.length (mcells l) (.returned (.slice A' l.length c')) w'):=ι (fun A' c' w' h1 h2 h3 h4=>⟨A',c',rfl,h1,h2,h3,h4⟩);generalize CloneEnd w 2 l.length (mcells l)=P at HP ⊢;have HL:=ι hl;cases A with
 |none=>
  have h0:l= []:=by
   cases l with
   |nil=>rfl
   |cons x r=>obtain ⟨a,o,h,_⟩:=HR.form (by simp) (by decide); cases h
  subst h0;have he:(binOp .eql 56 (.slice none 0 c) (.slice none 0 0)).run Tryz.prog w= .ok (.bool true) w:=eql_nil Tryz.underlying56 w none 0 c;go_enter Tryz.func83,Tryz.ntmps83
  go_wp2_with fail
  exact HP.out none 0 w (Below.refl _ _) Reads.none_ (by simp) (Nat.le_refl _)
 |some ad=>
  have HRR:=ι HR;clear HR hl;have he:(binOp .eql 56 (.slice (some ad) l.length c) (.slice none 0 0)).run Tryz.prog w= .ok (.bool false) w:=eql_nil Tryz.underlying56 w (some ad) l.length c;obtain ⟨i0,hi0,hz0,hz1,hz2⟩:=info_parts info_mem;go_enter Tryz.func83,Tryz.ntmps83
  go_upto_region 3 with fail
  have F1:=Live.hb (ι (Live.start w)) ((Below.refl _ w).alloc (Nat.le_refl _) (.cells #[] 165));have O1:=World.ownsRow_made (base:=w.heap.size) (e:=165) (size:=2) w #[] 0 (Nat.le_refl _) (by simp only [maxLen]; omega) rfl;have RA:Reads (w.alloc (.cells #[] 165)) w.heap.size 2 (some ad) l.length (mcells l):=HRR.out.below F1.out.b;have hll:=HL.out;go_wp2_with (at_builtin; refine wpList_append_any (w.alloc (.cells #[] 165)) rfl _ _ 56 rfl w.heap.size 165 i0 _ 2 24 Tryz.underlying56 hi0 hz0 hz1 hz2 rfl (by decide) (.slice (some ⟨w.heap.size,0,none⟩) 0 0) 0 [] rfl O1 w.heap.size (some ad) l.length c (mcells l) rfl RA (mcells_one _) (by simp only [maxLen]; omega) (by omega) F1.out.b.size ?_; intro v2 w2 own2 hg2 _; rw [Nat.zero_add,List.nil_append] at own2; have hlt2:=own2.lt; obtain ⟨A2,c2,rfl,hr2,hc2,hb2⟩:=own_form own2; clear hb2; have hb2:=(show ∀ a,A2=some a→w.heap.size≤a.block∧a.block<w2.heap.size from fun a ha=>hlt2 a.block (by rw [ha]; rfl)); clear hlt2; have H2:=ι (And.intro hr2 (And.intro hc2 hb2)); have HG:=ι (F1.out.b.grown hg2 F1.out.b.size (fun k e=>Nat.le_of_eq (Option.some.inj e))); clear own2 hg2 hr2 hc2 hb2)
  exact HP.out A2 c2 _ HG.out (H2.out.1.more (Nat.le_refl _)) H2.out.2.2 H2.out.2.1
end
end Go.Proofs.YtnelhjfjkkdoaaaGreatDoor