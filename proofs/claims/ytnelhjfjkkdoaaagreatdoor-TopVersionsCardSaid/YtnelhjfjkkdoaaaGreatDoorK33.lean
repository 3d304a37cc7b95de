import Derived.Test.YtnelhjfjkkdoaaaGreatDoorK32
set_option linter.unusedSimpArgs false
set_option linter.unusedVariables false
set_option maxHeartbeats 4000000
set_option maxRecDepth 100000
namespace Go.Proofs.YtnelhjfjkkdoaaaGreatDoor
section
open Go.RowKit Go.Instr Go.ChangeMaps
attribute [local go_sem] ba_get ByteArray.mk_append_mk
attribute [local go_sem ↓] Go.wp_at_zero Go.wp_at_succ
def commitT:Trie.T→List Trie.KV→Trie.T × Nat
 |t,[]=>(t,0)
 |t,x::l=>if (changedW t x.1 x.2).2=0 then commitT (changedW t x.1 x.2).1 l else (.nil,(changedW t x.1 x.2).2)
theorem changed_count {t:Trie.T} (h:Trie.Good t) (k v:List UInt8) (hc:(changedW t k v).2=0):Trie.count (changedW t k v).1≤Trie.count t+1:=by
 unfold changedW at hc ⊢
 split
 ·exact Trie.count_put t _ v
 ·rename_i h1;rw [if_neg h1] at hc
  split
  ·simp
  ·rename_i h2;rw [if_neg h2] at hc;have hl:Trie.look t (Nib.of k)≠ []:=by
    unfold Trie.getW at hc
    split at hc
    ·split at hc
     ·simp at hc
     ·rename_i hh; simpa using hh
    ·simp at hc
   have:=Trie.count_del t (Nib.of k) h.wf (Nib.fit_of k) hl
   simp only; omega
def CommitEnd (w:World) (vb g b rb:Nat) (T:Trie.T) (D:List Trie.KV) (R:List (Nat × List UInt8)) (last below:Int) (h:Nat) (l:List Trie.KV) (e:Ending) (w':World):Prop:=
 Off3 vb b rb w w'∧(((commitT T l).2≠0∧e= .returned (.tuple #[ε,.int .i64 ((commitT T l).2:Int)])∧VersP w' vb g b rb T D R last below)∨
  ((commitT T l).2=0∧e= .returned (.tuple #[.string ⟨(Trie.sumT (commitT T l).1).toArray⟩,ζ])∧VersP w' vb g b rb (commitT T l).1 (saveD D (toldW allW (commitT T l).1)) (putN R h (Trie.sumT (commitT T l).1)) h below))
theorem vers_Commit (w:World) (vb g b rb:Nat) (T:Trie.T) (D:List Trie.KV) (R:List (Nat × List UInt8)) (last below:Int) (H:VersP w vb g b rb T D R last below) (hT:Tbl w) (h:Nat) (hh:h≤1048576) (hl:last<(h:Int)) (hbw:below≤(h:Int))
  (l:List Trie.KV) (hc:Trie.count T+l.length≤1000) (hs:∀ x∈l,x.1.length≤9223372036854775807∧x.2.length≤9223372036854775807) (A:Option Addr) (c:Nat) (HR:Reads w w.heap.size 2 A l.length (icells l)):
  Calls Tryz.prog 12 #[.pointer (some ⟨vb,0,none⟩),h,.slice A l.length c] w (CommitEnd w vb g b rb T D R last below h l):=by
 have HPe:Hid (∀ (cd:Nat) w',(commitT T l).2=cd→cd≠0→Off3 vb b rb w w'→VersP w' vb g b rb T D R last below→CommitEnd w vb g b rb T D R last below h l (.returned (.tuple #[ε,cd])) w'):=ι (fun cd w' e1 e2 h1 h2=>⟨h1,.inl ⟨by rw [e1]; exact e2,by rw [e1],h2⟩⟩);have HPo:Hid (∀ T' w',commitT T l=(T',0)→Off3 vb b rb w w'→VersP w' vb g b rb T' (saveD D (toldW allW T')) (putN R h (Trie.sumT T')) h below→CommitEnd w vb g b rb T D R last below h l (.returned (.tuple #[.string ⟨(Trie.sumT T').toArray⟩,ζ])) w'):=ι (fun T' w' e1 h1 h2=>⟨h1,.inr ⟨by rw [e1],by rw [e1],by rw [e1]; exact h2⟩⟩);generalize CommitEnd w vb g b rb T D R last below h l=P at HPe HPo ⊢;have HV:=ι H;have HRR:=ι HR;have HS:=ι hs;have HTb:=ι hT;have HC:=ι hc;obtain ⟨nt,hb1,ht1⟩:=H.blk;obtain ⟨_,nb,nx,rfl,_⟩:=id ht1;have HTr:=ι ht1;have HBk:=ι hb1;have c2:w.cell? ⟨vb,2,none⟩=some (.pointer (some ⟨nb,0,none⟩)):=hb1.cell 2;have c3:w.cell? ⟨vb,3,none⟩=some (.int .i64 last):=hb1.cell 3;have c4:w.cell? ⟨vb,4,none⟩=some (.int .i64 below):=hb1.cell 4;have n1:((h:Int)<0)=False:=by simp
 have n2:((1048576:Int)<(h:Int))=False:=by simp; omega
 have n3:((h:Int)≤last)=False:=by simp; omega
 have n4:((h:Int)<below)=False:=by simp; omega
 clear H HR hs hT hc hh hl hbw hb1 ht1;go_enter Tryz.func12,Tryz.ntmps12
 go_wp2_with fail
 refine wp_loop_ghost_k (fun k a wr=>∀ Φ:Act→Prop,(∀ ⦃s2 s3 s4 s5 s6 s9 s0 s1 s7 s8 a0 a2 a3 a4 a5 a6 a7 a8 a9 b0 b1 b4 b5 b6 b7 b8 b9 c5 c6 c7 c8 c9 d0 d1 d4 d5 d6 d7 d8 d9 e3 e4 e5 e6 e7 e8 e9 f0 f1 f4 f5 f6 f7 f8 f9 g0 g1 g2 g4 g5 g6 g7 g8 g9 h0 h4:Value⦄ (i:Nat) (t:Trie.T) (v:Value),(i+k=l.length∧commitT T l=commitT t (l.drop i)∧Trie.count t≤Trie.count T+i∧TrieP wr t v∧Below w.heap.size w wr)→Φ {tmps:=#[.pointer (some ⟨vb,0,none⟩),.int .i64 (h:Int),s2,s3,s4,s5,s6,.int .i64 0,v,s9,s0,s1,s7,s8,a0,a2,a3,a4,a5,a6,a7,a8,a9,b0,b1,b4,b5,b6,b7,b8,b9,c5,c6,c7,c8,.slice A l.length c,.int .i64 l.length,.int .i64 (i:Int),c9,d0,d1,d4,d5,d6,d7,d8,d9,e3,e4,e5,e6,e7,e8,e9,f0,f1,f4,f5,f6,f7,f8,f9,g0,g1,g2,g4,g5,g6,g7,g8,g9,h0,h4],defers:= []})→Φ a) (l.length) ?_ ?_
 ·refine fun Φ hΦ=>hΦ (0) (T) (.pointer (some ⟨nb,0,none⟩)) ?_;exact ⟨by omega,rfl,by omega,HTr.out,Below.refl _ _⟩
 ·intro k1 a1 wr1 hI1 J1 K1 hJ1 hK1;refine hI1 (fun a=>Code.wp _ _ _ a _) ?_;clear hI1 a1;iterate 66 (intro _)
  intro i t v hrel
  show Code.wp _ _ _ _ _;obtain ⟨h1,h2,h3,hk,hb⟩:=hrel;by_cases hi:i<l.length
  ·obtain ⟨ad,off,rfl,hbl,hcell⟩:=HRR.out.form (by omega) (by omega);have ic:=icells_at hi;have hil:=icells_length l;have e0:(icells l)[2*i]'(by omega)= .string ⟨l[i].1.toArray⟩:=by
    have:=ic.1; rw [List.getElem?_eq_getElem (by omega)] at this; exact Option.some.inj this
   have e1:(icells l)[2*i+1]'(by omega)= .string ⟨l[i].2.toArray⟩:=by
    have:=ic.2; rw [List.getElem?_eq_getElem (by omega)] at this; exact Option.some.inj this
   have q0:=hcell (2*i) (by omega);have q1:=hcell (2*i+1) (by omega);rw [e0] at q0;rw [e1] at q1;have r0:wr1.cell? ⟨ad,off+i*2,none⟩=some (.string ⟨l[i].1.toArray⟩):=by rw [show i*2=2*i by omega]; exact (hb.cell (p:=⟨ad,off+2*i,none⟩) hbl).trans q0
   have r1:wr1.cell? ⟨ad,off+i*2+1,none⟩=some (.string ⟨l[i].2.toArray⟩):=by rw [show off+i*2+1=off+(2*i+1) by omega]; exact (hb.cell (p:=⟨ad,off+(2*i+1),none⟩) hbl).trans q1
   have hi1:(i:Int)<l.length:=by omega
   have hi0:(0:Int)≤i:=by omega
   have hl1:l.length≤1000:=by have:=HC.out; omega
   have hd:l.drop i=l[i]::l.drop (i+1):=List.drop_eq_getElem_cons hi;have hlen:=HS.out _ (List.getElem_mem hi);have HI:=ι (And.intro h1 (And.intro h2 (And.intro h3 (And.intro hk (And.intro hb hd)))));clear ic hil e0 e1 q0 q1 h1 h2 h3 hk hb hcell hd;generalize l[i]=x at *;obtain ⟨key,value⟩:=x;simp only at hlen;have HW4:Hid (∀ f,Below wr1.heap.size wr1 (wr1.alloc (.cells f 37))):=ι (fun f=>by go_grown);have HCh:Hid (∀ W,Below wr1.heap.size wr1 W→Calls Tryz.prog 51 #[v,.agg #[key,value]] W (TPutEnd W (changedW t key value).1 (changedW t key value).2)):=ι (fun W hW=>
    vers_changed W t v (HI.out.2.2.2.1.next hW) (by have:=HI.out.2.2.1; have:=HC.out; omega) (HTb.out.next (HI.out.2.2.2.2.1.nxt hW)) key value hlen.1 hlen.2)
   have HQ:Hid (commitT T l=if (changedW t key value).2=0 then commitT (changedW t key value).1 (l.drop (i+1)) else (.nil,(changedW t key value).2)):=ι (by rw [HI.out.2.1,HI.out.2.2.2.2.2,commitT]);have HCn:Hid ((changedW t key value).2=0→Trie.count (changedW t key value).1≤Trie.count T+(i+1)):=ι (fun hz=>by have:=changed_count HI.out.2.2.2.1.1 key value hz; have:=HI.out.2.2.1; omega);clear hlen;generalize changedW t key value=X at *;obtain ⟨t2,pc⟩:=X;simp only at HCh HQ HCn;by_cases hpc:pc=0
   ·subst hpc;rw [if_pos rfl] at HQ;go_wp2_with (go_at_call 51; refine (HCh.out _ (HW4.out _)).mono ?_; rintro e w3 ⟨v3,rfl,hb3,hk3,hn3⟩)
    refine Handed.intro (l.length - (i+1)) ?_ (hJ1 _ _ _ (fun Φ hΦ=>hΦ (i+1) (t2) (v3) ?_))
    ·have:=HI.out.1; omega
    exact ⟨by have:=HI.out.1; omega,HQ.out,HCn.out (by first|exact trivial|rfl),hk3 (by first|exact trivial|rfl),HI.out.2.2.2.2.1.nxt ((HW4.out _).nxt hb3)⟩
   ·rw [if_neg hpc] at HQ;have hpc1:((pc:Int) !=0)=true:=by simp; exact hpc
    have HNZ:=ι hpc;clear hpc;go_wp2_with (go_at_call 51; refine (HCh.out _ (HW4.out _)).mono ?_; rintro e w3 ⟨v3,rfl,hb3,hk3,hn3⟩)
    have hB:=HI.out.2.2.2.2.1.nxt ((HW4.out _).nxt hb3);exact HPe.out _ _ (by rw [HQ.out]) HNZ.out (Off3.low hB) (HV.out.next hB)
  ·have hi1:((i:Int)<l.length)=False:=by simp; omega
   have HQ:Hid (commitT T l=(t,0)):=ι (by rw [h2,List.drop_of_length_le (by omega),commitT]);have hBk1:=HBk.out.below hb HBk.out.lt;obtain ⟨_,tb,tx,rfl,_⟩:=id hk;have HI:=ι (And.intro hk (And.intro hb (HV.out.next hb)));have HCn:Hid (Trie.count t≤1000):=ι (by have:=HC.out; omega);have f2:wr1.frozen? ⟨vb,2,none⟩=false:=hBk1.frozen 2;have f3:wr1.frozen? ⟨vb,3,none⟩=false:=hBk1.frozen 3;have d2:wr1.cell? ⟨vb,2,none⟩=some (.pointer (some ⟨nb,0,none⟩)):=hBk1.cell 2;have d3:wr1.cell? ⟨vb,3,none⟩=some (.int .i64 last):=hBk1.cell 3;have HB1:=ι hBk1;clear h1 h2 h3 hk hb hi hBk1;go_upto_region 14 with fail
   have hg2:wr1.grownBy ((wr1.setCell ⟨vb,2,none⟩ (.pointer (some ⟨tb,0,none⟩))).setCell ⟨vb,3,none⟩ (.int .i64 (h:Int))) (some vb):=grown_cell1.trans grown_cell1;have b2:Blk ((wr1.setCell ⟨vb,2,none⟩ (.pointer (some ⟨tb,0,none⟩))).setCell ⟨vb,3,none⟩ (.int .i64 (h:Int))) vb 112 #[.pointer (some ⟨g,0,none⟩),.map (some rb),.pointer (some ⟨tb,0,none⟩),h,below]:=by
    have:=(HB1.out.set_ 2 (.pointer (some ⟨tb,0,none⟩))).set_ 3 (.int .i64 (h:Int))
    simpa using this
   generalize (wr1.setCell ⟨vb,2,none⟩ (.pointer (some ⟨tb,0,none⟩))).setCell ⟨vb,3,none⟩ (.int .i64 (h:Int))=w2 at hg2 b2 ⊢;have hV:=HI.out.2.2;have hnb:NoByte wr1 vb:=HB1.out.noByte (by decide);have n1':g≠vb:=fun e=>by subst e; exact hV.st.blk.typ (by decide) HB1.out
   have n2':b≠vb:=fun e=>by subst e; exact hV.st.map.no_blk _ _ HB1.out
   have n3':rb≠vb:=fun e=>by subst e; obtain ⟨vs,hm,_⟩:=hV.rm.ex; exact hm.no_blk HB1.out
   have S2:=hV.st.offB hnb n1' n2' hg2;have R2:=hV.rm.offB hnb n3' hg2;have T2:=HI.out.1.offB (fun cs=>HB1.out.typ (by decide)) (fun cs=>HB1.out.typ (by decide)) hg2;have Tb2:Tbl w2:=(HTb.out.next HI.out.2.1).blk HB1.out (v:= .pointer (some ⟨g,0,none⟩)) rfl (fun x=>by simp) hg2;have hgd:Trie.Good t:=T2.1;have HSv:=ι (trie_Save w2 t _ T2 (by have:=HCn.out; omega) (fun x hx=>by have:=told_700v hgd _ x hx; omega) g b D S2 Tb2);have H2:=ι (And.intro hg2 (And.intro b2 (And.intro R2 (And.intro T2 (And.intro n1' (And.intro n2' n3'))))));have HNe:=ι (And.intro hV.ne (And.intro hV.sh hV.tr));have c0:w2.cell? ⟨vb,0,none⟩=some (.pointer (some ⟨g,0,none⟩)):=b2.cell 0;have HBm:Hid (∃ D0,BMap w2 b D0):=ι ⟨D,S2.map⟩;have HGd:=ι hgd;have HO1:Hid (Off3 vb b rb w wr1):=ι (Off3.low HI.out.2.1);clear hg2 b2 hV hnb n1' n2' n3' S2 R2 T2 Tb2 f2 f3 d2 d3;generalize hsm:Trie.sumT t=sm at *;have HSm:=ι hsm;clear hsm;generalize hD2:saveD D (toldW allW t)=D2 at *;have HD2:=ι hD2;clear hD2;go_wp2_with fail
   refine HSv.out.mono ?_;rintro e w3 ⟨rfl,S3,g3⟩;have b3:Blk w3 vb 112 #[.pointer (some ⟨g,0,none⟩),.map (some rb),.pointer (some ⟨tb,0,none⟩),h,below]:=H2.out.2.1.grown g3 (fun e=>H2.out.2.2.2.2.2.1 (Option.some.inj e.symm));have R3:RMap w3 rb R:=H2.out.2.2.1.offB (w':=w3) (k:=b) (by obtain ⟨vs,hm,_⟩:=HBm.out.choose_spec.ex; exact hm.noByte) (fun e=>HNe.out.1 e.symm) g3;have T3:=H2.out.2.2.2.1.offB (w':=w3) (k:=b) (fun cs=>HBm.out.choose_spec.no_blk _ cs) (fun cs=>HBm.out.choose_spec.no_blk _ cs) g3;have c1:w3.cell? ⟨vb,1,none⟩=some (.map (some rb)):=b3.cell 1;have HO3:Hid (Off3 vb b rb w w3):=ι ((HO1.out.trans (Off3.one H2.out.1 (.inl rfl))).trans (Off3.one g3 (.inr (.inl rfl))));obtain ⟨cc,w4,hrun,hrd,hb4⟩:=bytes_of w3 sm;obtain ⟨vs,hm,he⟩:=(R3.next hb4).store h sm _ cc hrd;have H4:=ι (And.intro hm (And.intro he (And.intro (b3.below hb4 b3.lt) (And.intro (S3.next hb4) (And.intro (T3.next hb4) (HO3.out.trans (Off3.low hb4)))))));clear hm he hb4 hrd S3 g3 b3 R3 T3 HSv c0;go_wp2_with (at_mapUpdate; refine wpList_mapUpdate_is _ rfl _ _ _ 110 rfl ik_type _ Tryz.underlying110 rb vs H4.out.1 h (.slice (some ⟨w3.heap.size,0,none⟩) sm.length cc) rfl rfl rfl ?_; intro w5 hm5 hg5 hs5; have H5:=ι (And.intro hm5 (And.intro hg5 hs5)); clear hm5 hg5 hs5)
   have hnb:NoByte w4 rb:=H4.out.1.noByte;have hmr:=H4.out.1;have hne:=HNe.out.1;have nvb:rb≠vb:=H2.out.2.2.2.2.2.2;have h4s:=H4.out.2.2.2.1;have h4r:=H4.out.2.1 _ H5.out.1 H5.out.2.1 H5.out.2.2;rw [←HD2.out] at h4s;rw [←HSm.out] at h4r ⊢;refine HPo.out t _ HQ.out (H4.out.2.2.2.2.2.trans (Off3.one H5.out.2.1 (.inr (.inr rfl)))) ⟨⟨_,H4.out.2.2.1.grown H5.out.2.1 (fun e=>nvb (Option.some.inj e.symm)),H4.out.2.2.2.2.1.offB (fun cs=>hmr.no_blk) (fun cs=>hmr.no_blk) H5.out.2.1⟩,h4s.offB hnb (fun e=>by rw [←e] at hmr; exact hmr.no_blk h4s.blk) hne H5.out.2.1,h4r,?_,?_,hne⟩
   ·intro x hx;rcases saveD_mem hx with hx|hx
    ·exact HNe.out.2.1 x hx
    ·have:=told_700v HGd.out _ _ hx; omega
   ·exact saveD_true HNe.out.2.2
end
end Go.Proofs.YtnelhjfjkkdoaaaGreatDoor