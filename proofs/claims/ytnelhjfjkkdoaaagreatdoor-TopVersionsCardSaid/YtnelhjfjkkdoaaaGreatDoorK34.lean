import Derived.Test.YtnelhjfjkkdoaaaGreatDoorK29
import Derived.Test.YtnelhjfjkkdoaaaGreatDoorK33
set_option linter.unusedSimpArgs false
set_option linter.unusedVariables false
set_option maxHeartbeats 4000000
set_option maxRecDepth 100000
namespace Go.Proofs.YtnelhjfjkkdoaaaGreatDoor
section
open Go.RowKit Go.Instr Go.ChangeMaps
attribute [local go_sem] ba_get ByteArray.mk_append_mk
attribute [local go_sem ↓] Go.wp_at_zero Go.wp_at_succ
def HtsEnd (w:World) (K:List Nat) (e:Ending) (w':World):Prop:=∃ (A:Option Addr) (c:Nat) (ns:List Nat),e= .returned (.slice A ns.length c)∧ns.Perm K∧Reads w' w'.heap.size 1 A ns.length (ints ns)∧Below w.heap.size w w'
theorem vers_Hts (w:World) (vb g b rb:Nat) (T:Trie.T) (D:List Trie.KV) (R:List (Nat × List UInt8)) (last below:Int) (h:VersP w vb g b rb T D R last below) (hk:∀ x∈R,x.1≤1048576) (hl:R.length≤100000):
  Calls Tryz.prog 17 #[.pointer (some ⟨vb,0,none⟩)] w (HtsEnd w (R.map (·.1))):=by
 refine (vers_Heights w vb g b rb T D R last below h hk hl).mono ?_;rintro e w' ⟨v,ss,rfl,hp,_,own,hb⟩;have hnn:∀ x∈ss,((x.toNat:Nat):Int)=x:=fun x hx=>by
  obtain ⟨n,_,rfl⟩:=List.mem_map.1 (hp.mem_iff.1 hx);simp
 have e1:(ss.map Int.toNat).map (fun (n:Nat)=>(n:Int))=ss:=by
  rw [List.map_map]
  conv=>rhs; rw [←List.map_id ss]
  exact List.map_congr_left hnn
 have e2:ints (ss.map Int.toNat)=ss.map encZ:=by
  conv=>rhs; rw [←e1]
  unfold ints;rw [List.map_map (l:=ss.map Int.toNat)];rfl
 obtain ⟨A,c,rfl,hr,_,_⟩:=own_form own;refine ⟨A,c,ss.map Int.toNat,by rw [List.length_map],?_,by rw [List.length_map,e2]; exact hr,hb⟩
 have:=hp.map Int.toNat
 rw [List.map_map] at this;have e3:((R.map (·.1)).map (Int.toNat ∘ fun (n:Nat)=>(n:Int)))=R.map (·.1):=by
  conv=>rhs; rw [←List.map_id (R.map (·.1))]
  exact List.map_congr_left fun x _=>by simp
 rw [e3] at this;exact this
def PruneEnd (w:World) (vb g b rb:Nat) (T:Trie.T) (D:List Trie.KV) (R:List (Nat × List UInt8)) (last:Int) (below:Int) (e:Ending) (w':World):Prop:=
 ∃ (n m:Int) (I:List UInt8→Int) (D':List Trie.KV) (R':List (Nat × List UInt8)) (roots:List (List UInt8)),e= .returned (.int .i64 n)∧VersP w' vb g b rb T D' R' last m∧RInv D roots I []∧KeptD D D' I∧
  NdN R'∧(∀ x∈R',x∈R)∧(∀ s,lookN R' s=if goneN below last s=true then none else lookN R s)∧(∀ s r,lookN R' s=some r→r∈roots)∧Off3 vb b rb w w'
theorem z_21 {P:Prop} (h:P:=by
 clear hgn;go_wp2_with (at_builtin; refine wpList_append_any (wr1.alloc (.cells #[r] 9)) rfl _ _ 26 rfl w2.heap.size 9 i0 _ 1 16 Tryz.underlying26 hi0' hz0 hz1 hz2 rfl (by decide) (.slice A n c) n (strv Si) rfl HO4.out _ (some ⟨wr1.heap.size,0,none⟩) 1 1 [r] rfl R4.out (strv_one [r]) (by simp only [maxLen]; omega) (by omega) HS4.out ?_; intro v5 w5 own5 hg5 _; obtain ⟨A5,c5,rfl,_,_,_⟩:=own_form own5; have H5:=ι (And.intro own5 hg5); clear own5 hg5)
 have hap:strv Si++ [.string ⟨r.toArray⟩]=strv (Si++ [r]):=by simp [strv]
 have hown:=H5.out.1;rw [hap] at hown;have hgr:w2.grownBy w5 (some rb):=⟨H5.out.2.os.trans (HB4.out.os.trans HI.out.2.2.2.1.os),H5.out.2.tape.trans (HB4.out.tape.trans HI.out.2.2.2.1.tape),H5.out.2.output.trans (HB4.out.output.trans HI.out.2.2.2.1.output),Nat.le_trans HI.out.2.2.2.1.size (Nat.le_trans HB4.out.size H5.out.2.size),fun kk hk1 hk2=>by
  have l1:=Nat.lt_of_lt_of_le hk1 HI.out.2.2.2.1.size;rw [H5.out.2.block kk (Nat.lt_of_lt_of_le l1 HB4.out.size) (fun e=>by have:=(HO4.out.lt kk e.symm).1; omega),HB4.out.block kk l1];exact HI.out.2.2.2.1.block kk hk1 hk2⟩
 obtain ⟨vs,hm,he⟩:=HI.out.2.2.1;have hrbl:=hm.lt;have hne:some rb≠(Value.slice A n c).ownBlock:=fun e=>by
  have hm4:=hm.kept (HB4.out.block rb hrbl);rcases HO4.out.2 with ⟨e1,_⟩|⟨qq,cap,cur,e1,_,hh,_⟩
  ·rw [e1] at e; cases e
  ·rw [e1] at e
   have:=Option.some.inj e
   subst this;exact hm4.no_blk hh
 have hm5:MapIs w5 ik rb vs:=hm.kept ((H5.out.2.block rb (Nat.lt_of_lt_of_le hrbl HB4.out.size) hne).trans (HB4.out.block rb hrbl));have hlenS:(Si++ [r]).length=n+1:=by rw [List.length_append,←HI.out.2.2.2.2.2.1]; rfl
 have hgx2:¬(gone x=true):=by rw [HGx.out]; simp
 refine Handed.intro (ns.length - (i+1)) ?_ (hJ1 _ _ _ (fun Φ hΦ=>hΦ (i+1) (q) (n+1) (c5) (A5) ?_))
 ·have:=HI.out.1; omega
 refine ⟨by have:=HI.out.1; omega,by have:=HI.out.2.1; omega,?_,hgr,?_,?_,by omega⟩
 ·rw [HI.out.2.2.2.2.2.2.2.1,if_neg hgx2];exact ⟨vs,hm5,he⟩
 ·rw [HI.out.2.2.2.2.2.2.2.2.1,if_neg hgx2];exact hown
 ·rw [HI.out.2.2.2.2.2.2.2.2.1,if_neg hgx2];exact hlenS.symm):P:=h
theorem vers_Prune (w:World) (vb g b rb:Nat) (T:Trie.T) (D:List Trie.KV) (R:List (Nat × List UInt8)) (last below0:Int) (H:VersP w vb g b rb T D R last below0) (below:Int) (hn:KeysNd D) (hk:∀ x∈D,x.1.length≤100) (hR:NdN R) (hRk:∀ x∈R,x.1≤1048576) (hRl:R.length≤100) (hDl:D.length≤5000):
  Calls Tryz.prog 16 #[.pointer (some ⟨vb,0,none⟩),below] w (PruneEnd w vb g b rb T D R last below):=by
 have HP:Hid (∀ (n m:Int) I D' R' roots w',VersP w' vb g b rb T D' R' last m→RInv D roots I []→KeptD D D' I→NdN R'→(∀ x∈R',x∈R)→(∀ s,lookN R' s=if goneN below last s=true then none else lookN R s)→(∀ s r,lookN R' s=some r→r∈roots)→Off3 vb b rb w w'→PruneEnd w vb g b rb T D R last below (.returned (.int .i64 n)) w'):=ι (fun n m I D' R' roots w' h1 h2 h3 h4 h5 h6 h7 h8=>⟨n,m,I,D',R',roots,rfl,h1,h2,h3,h4,h5,h6,h7,h8⟩);generalize PruneEnd w vb g b rb T D R last below=P at HP ⊢;have HV:=ι H;obtain ⟨nt,hb0,ht0⟩:=H.blk;obtain ⟨_,nb,nx,rfl,_⟩:=id ht0;have HB0:=ι (And.intro hb0 ht0);have HH:=ι (And.intro hn (And.intro hk (And.intro hR (And.intro hRk (And.intro hRl hDl)))));have c4:w.cell? ⟨vb,4,none⟩=some (.int .i64 below0):=hb0.cell 4;have f4:w.frozen? ⟨vb,4,none⟩=false:=hb0.frozen 4;clear H hb0 ht0 hn hk hR hRk hRl hDl;go_enter Tryz.func16,Tryz.ntmps16
 go_upto_region 2 with fail
 have hg1:w.grownBy (w.setCell ⟨vb,4,none⟩ (.int .i64 (max below0 below))) (some vb):=grown_cell1;have hb1:Blk (w.setCell ⟨vb,4,none⟩ (.int .i64 (max below0 below))) vb 112 #[.pointer (some ⟨g,0,none⟩),.map (some rb),.pointer (some ⟨nb,0,none⟩),last,.int .i64 (max below0 below)]:=by
  have:=HB0.out.1.set_ 4 (.int .i64 (max below0 below))
  simpa using this
 have HV1:Hid (VersP (w.setCell ⟨vb,4,none⟩ (.int .i64 (max below0 below))) vb g b rb T D R last (max below0 below)∧Off3 vb b rb w (w.setCell ⟨vb,4,none⟩ (.int .i64 (max below0 below)))):=ι (by
  have hV:=HV.out;have hnb:NoByte w vb:=HB0.out.1.noByte (by decide);have n1':g≠vb:=fun e=>by subst e; exact hV.st.blk.typ (by decide) HB0.out.1
  have n2':b≠vb:=fun e=>by subst e; exact hV.st.map.no_blk _ _ HB0.out.1
  have n3':rb≠vb:=fun e=>by subst e; obtain ⟨vs,hm,_⟩:=hV.rm.ex; exact hm.no_blk HB0.out.1
  exact ⟨⟨⟨_,hb1,HB0.out.2.offB (fun cs=>HB0.out.1.typ (by decide)) (fun cs=>HB0.out.1.typ (by decide)) hg1⟩,hV.st.offB hnb n1' n2' hg1,hV.rm.offB hnb n3' hg1,hV.sh,hV.tr,hV.ne⟩,Off3.one hg1 (.inl rfl)⟩)
 generalize max below0 below=m2 at *;generalize w.setCell ⟨vb,4,none⟩ (.int .i64 m2)=w1 at HV1 ⊢;have HHt:=ι (vers_Hts w1 vb g b rb T D R last m2 HV1.out.1 HH.out.2.2.2.1 (by have:=HH.out.2.2.2.2.1; omega));unfold HtsEnd at HHt;clear c4 f4 hg1 hb1;go_wp2_with fail
 refine HHt.out.mono ?_;rintro e w2 ⟨A2,c2,ns,rfl,hp,hr2,hb2⟩;have HV2:=ι (HV1.out.1.next hb2);obtain ⟨nt2,hbk2,ht2⟩:=HV2.out.blk;have HT2:=ι (And.intro hbk2 ht2);obtain ⟨vs0,hm0,he0⟩:=HV2.out.rm.ex;have HM0:=ι hm0;have HO2:=ι (HV1.out.2.trans (Off3.low hb2));have HR2:=ι hr2;have HPm:=ι hp;have HLn:Hid (ns.length≤100):=ι (by have:=hp.length_eq; rw [List.length_map] at this; have:=HH.out.2.2.2.2.1; omega);have HRM2:Hid (RM2 w2 w2 rb R):=ι ⟨vs0,hm0,he0⟩;have NV:Hid (rb≠vb):=ι (fun e=>by subst e; exact hm0.no_blk hbk2);clear hb2 hr2 hp HHt hbk2 ht2 hm0 he0;have hgd:∃ gone,goneN below last=gone:=⟨_,rfl⟩
 obtain ⟨gone,hgone⟩:=hgd;have HGo:=ι hgone;clear hgone;go_wp2_with fail
 refine wp_loop_ghost_k (fun k a wr=>∀ Φ:Act→Prop,(∀ ⦃s2 s3 s4 s7 s8 s9 s0 s1 s5 s6 a0 a2 a3 a4 a5 a6 a7 a8 a9 b0 b1 b2 b3 b4 b5 b6 b7 b8 b9 c6 c7 c8 c9 d0 d1 d2 d3 d4 d5 d6 d7 d8 d9 e0 e3 e4 e5 e6 e7 e8 e9 f0 f1 f2:Value⦄ (i q n c:Nat) (A:Option Addr),(i+k=ns.length∧q≤i∧RM2 w2 wr rb (pruneL gone R (ns.take i))∧w2.grownBy wr (some rb)∧wr.ownsRow w2.heap.size 9 1 (.slice A n c) n (strv (stayL gone R (ns.take i)))∧n=(stayL gone R (ns.take i)).length∧n≤i)→Φ {tmps:=#[.pointer (some ⟨vb,0,none⟩),.int .i64 below,s2,s3,s4,.int .i64 (q:Int),.slice A n c,s7,s8,s9,s0,s1,s5,s6,a0,a2,a3,a4,a5,.slice A2 ns.length c2,.int .i64 ns.length,.int .i64 (i:Int),a6,a7,a8,a9,b0,b1,b2,b3,b4,b5,b6,b7,b8,b9,c6,c7,c8,c9,d0,d1,d2,d3,d4,d5,d6,d7,d8,d9,e0,e3,e4,e5,e6,e7,e8,e9,f0,f1,f2],defers:= []})→Φ a) (ns.length) ?_ ?_
 ·refine fun Φ hΦ=>hΦ (0) (0) (0) (0) (none) ?_;exact ⟨by omega,Nat.le_refl _,by simpa [pruneL] using HRM2.out,⟨rfl,rfl,rfl,Nat.le_refl _,fun _ _ _=>rfl⟩,World.ownsRow_nil _ _ _ _,rfl,Nat.le_refl _⟩
 ·intro k1 a1 wr1 hI1 J1 K1 hJ1 hK1;refine hI1 (fun a=>Code.wp _ _ _ a _) ?_;clear hI1 a1;iterate 54 (intro _)
  intro i q n c A hrel
  show Code.wp _ _ _ _ _;obtain ⟨h1,h2,hrm,hg,hown,hn,hni⟩:=hrel;by_cases hi:i<ns.length
  ·have R3:Reads wr1 wr1.heap.size 1 A2 ns.length (ints ns):=(HR2.out.off_map HM0.out (Nat.le_refl _) hg).more hg.size;obtain ⟨ad,off,rfl,hbl,hcell⟩:=led_int_cell R3 hi;have q0:=hcell _ (Below.refl _ _);have hi1:(i:Int)<ns.length:=by omega
   have hi0:(0:Int)≤i:=by omega
   have hl:=HLn.out;have hq9:q≤100:=by omega
   have hn9:n≤100:=by omega
   have htk:=pruneL_take gone R ns i hi;have hstk:=stayL_take gone R ns i hi;have hmem:ns[i]∈R.map (·.1):=HPm.out.mem_iff.1 (List.getElem_mem hi);obtain ⟨r,hr⟩:=lookN_some hmem;have hbw:=HT2.out.1.grown hg (fun e=>NV.out (Option.some.inj e.symm));have c1:wr1.cell? ⟨vb,1,none⟩=some (.map (some rb)):=hbw.cell 1;have c3:wr1.cell? ⟨vb,3,none⟩=some (.int .i64 last):=hbw.cell 3;have hspec:=(pruneL_spec gone (ns.take i) R HH.out.2.2.1).2.2 ns[i];have hgn:gone ns[i]=(decide ((ns[i]:Int)<below) && !decide ((ns[i]:Int)=last)):=by rw [←HGo.out]; rfl
   rw [hr] at hstk;have HI:=ι (And.intro h1 (And.intro h2 (And.intro hrm (And.intro hg (And.intro hown (And.intro hn (And.intro hni (And.intro htk (And.intro hstk hspec)))))))));have HRr:=ι hr;clear h1 h2 hrm hg hown hn htk hstk hspec hr hmem R3 hcell hbl hbw;generalize pruneL gone R (ns.take i)=Ri at *;generalize stayL gone R (ns.take i)=Si at *;generalize hx:ns[i]=x at *;have HX:=ι hx;clear hx;cases hgx:gone x with
   |true=>
    rw [hgx] at hgn
    replace hgn:=hgn.symm
    simp only [Bool.and_eq_true,decide_eq_true_eq,Bool.not_eq_true',decide_eq_false_iff_not] at hgn;have g1:(x:Int)<below:=hgn.1;have g2:((x:Int) !=last)=true:=by simpa using hgn.2
    have HGx:=ι hgx;obtain ⟨vs,hm,he⟩:=HI.out.2.2.1;have HW:=ι (And.intro hm he);clear hgx hgn hm he;go_wp2_with (at_delete; refine wpList_delete_is _ rfl _ _ 110 3 rfl ik_type _ Tryz.underlying110 rb vs HW.out.1 x rfl rfl ?_; intro w3 hm3 hg3 hs3; have H3:=ι (And.intro hm3 (And.intro hg3 hs3)); clear hm3 hg3 hs3)
    refine Handed.intro (ns.length - (i+1)) ?_ (hJ1 _ _ _ (fun Φ hΦ=>hΦ (i+1) (q+1) (n) (c) (A) ?_))
    ·have:=HI.out.1; omega
    have hne:(Value.slice A n c).ownBlock=none∨(Value.slice A n c).ownBlock≠some rb:=by
     rcases HI.out.2.2.2.2.1.2 with ⟨e1,_⟩|⟨qq,cap,cur,e1,_,hh,_⟩
     ·rw [e1]; exact .inl rfl
     ·rw [e1];refine .inr fun e=> ?_
      have:=Option.some.inj e
      subst this;obtain ⟨E,cl,h1,_⟩:=HW.out.1;rw [h1] at hh;cases hh
    refine ⟨by have:=HI.out.1; omega,by have:=HI.out.2.1; omega,?_,HI.out.2.2.2.1.trans H3.out.2.1,?_,?_,by omega⟩
    ·rw [HI.out.2.2.2.2.2.2.2.1,if_pos HGx.out];exact ⟨_,H3.out.1,HW.out.2.del x⟩
    ·rw [HI.out.2.2.2.2.2.2.2.2.1,if_pos HGx.out];exact HI.out.2.2.2.2.1.kept H3.out.2.1 hne
    ·rw [HI.out.2.2.2.2.2.2.2.2.1,if_pos HGx.out];exact HI.out.2.2.2.2.2.1
   |false=>
    rw [hgx] at hgn;have HGx:=ι hgx;have hlk:lookN Ri x=some r:=by rw [HI.out.2.2.2.2.2.2.2.2.2,if_neg (fun e=>by rw [hgx] at e; cases e.2)]; exact HRr.out
    obtain ⟨Av,cv,lk,cv1⟩:=HI.out.2.2.1.get HM0.out HI.out.2.2.2.1 Tryz.underlying110 hlk;obtain ⟨i0,hi0',hz0,hz1,hz2⟩:=info_parts info_str;have hb4:Below wr1.heap.size wr1 (wr1.alloc (.cells #[r] 9)):=(Below.refl _ _).alloc (Nat.le_refl _) _;have HO4:=ι (own_below HI.out.2.2.2.2.1 hb4);have HB4:=ι hb4;have R4:Hid (Reads (wr1.alloc (.cells #[r] 9)) (wr1.alloc (.cells #[r] 9)).heap.size 1 (some ⟨wr1.heap.size,0,none⟩) 1 [r]):=ι (reads_blk (Blk.new _ _ _) (by simp));have HS4:Hid (w2.heap.size≤(wr1.alloc (.cells #[r] 9)).heap.size):=ι (Nat.le_trans HI.out.2.2.2.1.size hb4.size);clear hb4 hgx hlk
    replace hgn:=hgn.symm
    simp only [Bool.and_eq_false_iff,decide_eq_false_iff_not,Bool.not_eq_false',decide_eq_true_eq] at hgn;by_cases g1:(x:Int)<below
    ·have g2:((x:Int) !=last)=false:=by
      have:=hgn.resolve_left (fun e=>e g1)
      simpa using this
     exact z_21
    ·exact z_21
  ·have hi1:((i:Int)<ns.length)=False:=by simp; omega
   rw [List.take_of_length_le (by omega)] at hrm hown hn;have hbw:=HT2.out.1.grown hg (fun e=>NV.out (Option.some.inj e.symm));have c0:wr1.cell? ⟨vb,0,none⟩=some (.pointer (some ⟨g,0,none⟩)):=hbw.cell 0;have hnb2:NoByte w2 rb:=HM0.out.noByte;have S3:StoreP wr1 g b D:=HV2.out.st.offB hnb2 (fun e=>by have:=HM0.out; rw [←e] at this; exact this.no_blk HV2.out.st.blk) HV2.out.ne hg;have T3:=HT2.out.2.offB (fun cs=>HM0.out.no_blk) (fun cs=>HM0.out.no_blk) hg;have R3:=hrm.end_ HM0.out hg;have HKp:=ι (store_Keep wr1 g b D S3 HV2.out.sh HH.out.1 HH.out.2.1 (stayL gone R ns) A c (by rw [←hn]; exact Reads.of_own hown) (by have:=HH.out.2.2.2.2.2; have:=HLn.out; omega));rw [←hn] at HKp;unfold KeepEnd at HKp;have HE:=ι (And.intro hg (And.intro hbw (And.intro S3 (And.intro T3 R3))));clear h1 h2 hrm hg hown hn hni hbw S3 T3 R3 hi hnb2;go_wp2_with fail
   refine HKp.out.mono ?_;rintro e w3 ⟨nn,I,D',rfl,S4,hI,hK,hg4⟩;have H4:=ι (And.intro S4 (And.intro hI (And.intro hK hg4)));clear S4 hI hK hg4 HKp c0;go_wp2_with fail
   have hmb:=HE.out.2.2.1.map;refine HP.out (q:Int) m2 I D' (pruneL gone R ns) (stayL gone R ns) _ ⟨⟨_,HE.out.2.1.grown H4.out.2.2.2 (fun e=>by
    have e2:=Option.some.inj e;have hbb:=HE.out.2.1
    first
     |(rw [e2] at hbb; exact hmb.no_blk _ _ hbb)
     |(rw [←e2] at hbb; exact hmb.no_blk _ _ hbb)),HE.out.2.2.2.1.offB (fun cs=>hmb.no_blk _ cs) (fun cs=>hmb.no_blk _ cs) H4.out.2.2.2⟩,H4.out.1,?_,?_,?_,HV2.out.ne⟩ H4.out.2.1 H4.out.2.2.1 ?_ ?_ ?_ ?_ ?_
   ·exact HE.out.2.2.2.2.offB (by obtain ⟨vs,hm,_⟩:=hmb.ex; exact hm.noByte) (fun e=>HV2.out.ne e.symm) H4.out.2.2.2
   ·exact fun x hx=>HV2.out.sh x (H4.out.2.2.1.mem x hx)
   ·intro kk ss hl;rw [H4.out.2.2.1.look] at hl
    split at hl
    ·exact HV2.out.tr kk ss hl
    ·cases hl
   ·exact (pruneL_spec gone ns R HH.out.2.2.1).1
   ·exact (pruneL_spec gone ns R HH.out.2.2.1).2.1
   ·intro ss;rw [HGo.out,(pruneL_spec gone ns R HH.out.2.2.1).2.2 ss];by_cases h1:gone ss=true
    ·rw [if_pos h1];by_cases h2:ss∈ns
     ·rw [if_pos ⟨h2,h1⟩]
     ·rw [if_neg (fun e=>h2 e.1)];exact lookN_none (fun hm=>h2 (HPm.out.mem_iff.2 hm))
    ·rw [if_neg h1,if_neg (fun e=>h1 e.2)]
   ·intro ss rr hl;rw [(pruneL_spec gone ns R HH.out.2.2.1).2.2 ss] at hl
    split at hl
    ·cases hl
    ·rename_i h2;have hin:ss∈ns:=by
      refine HPm.out.mem_iff.2 (Decidable.byContradiction fun hc=> ?_);rw [lookN_none hc] at hl;cases hl
     exact stayL_mem hin (by cases hg:gone ss with|false=>rfl|true=>exact absurd ⟨hin,hg⟩ h2) hl
   ·exact (HO2.out.trans (Off3.one HE.out.1 (.inr (.inr rfl)))).trans (Off3.one H4.out.2.2.2 (.inr (.inl rfl)))
end
end Go.Proofs.YtnelhjfjkkdoaaaGreatDoor