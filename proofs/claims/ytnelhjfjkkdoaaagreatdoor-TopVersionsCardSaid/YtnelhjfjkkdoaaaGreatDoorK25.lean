import Derived.Test.YtnelhjfjkkdoaaaGreatDoorK24
set_option linter.unusedSimpArgs false
set_option linter.unusedVariables false
set_option maxHeartbeats 4000000
set_option maxRecDepth 100000
namespace Go.Proofs.YtnelhjfjkkdoaaaGreatDoor
section
open Go.RowKit Go.Instr Go.ChangeMaps
attribute [local go_sem] ba_get ByteArray.mk_append_mk
attribute [local go_sem ↓] Go.wp_at_zero Go.wp_at_succ
theorem nodeOf_K (D:List Trie.KV) (k:List UInt8):(nodeOf D k).1.2.2.2.length=16:=by
 unfold nodeOf
 split
 ·rfl
 ·exact decN_K _
theorem nodeOf_short (D:List Trie.KV) (k:List UInt8):∀ s∈(nodeOf D k).1.2.2.2,s.length≤9223372036854775807:=by
 unfold nodeOf
 split
 ·intro s hs;rw [List.eq_of_mem_replicate (show s∈List.replicate 16 [] from hs)];simp
 ·rename_i s _;rcases decN_cases s with h|⟨n,h,_⟩
  ·rw [h];intro s hs;rw [List.eq_of_mem_replicate (show s∈List.replicate 16 [] from hs)];simp
  ·have h2:=readN_short 16 (by omega) s;unfold decN at h ⊢
   split
   ·rename_i hc; rw [if_pos hc] at h; cases h
   ·intro x hx
    have:=h2.2.2.2 x hx
    omega
theorem loadW_eq (D:List Trie.KV) (f:Nat) (sum pl:List UInt8) (below:Bool) (m:Nat):Trie.loadW D (f+1) sum pl below m 0=if (nodeOf D sum).2≠0 then (.nil,m,(nodeOf D sum).2)
  else if Trie.oddLd (nodeOf D sum).1 pl below=true then (.nil,m,4)
  else if (Trie.manyLd (nodeOf D sum).1 pl m).2≠0 then (.nil,(Trie.manyLd (nodeOf D sum).1 pl m).1,(Trie.manyLd (nodeOf D sum).1 pl m).2)
  else Trie.endLd (nodeOf D sum).1 (Trie.kidsLd (fun s p m c=>Trie.loadW D f s p (decide ((nodeOf D sum).1.1=2)) m c) (nodeOf D sum).1.2.2.2 (Trie.kidAt (nodeOf D sum).1 pl) 16 (Trie.manyLd (nodeOf D sum).1 pl m).1 0):=by
 conv=>lhs; unfold Trie.loadW
 rw [if_neg (by simp)]
theorem ldr_load (w00:World) (lb g b:Nat) (D:List Trie.KV) (hSt:StoreP w00 g b D) (hD:∀ x∈D,x.2.length≤900000) (hTr:∀ k s,lookB D k=some s→shaW (1::s)=k) (hT:Tbl w00) (hlb:w00.heap.size≤lb):
  ∀ (f:Nat) (sum pl:List UInt8) (below:Bool) (m c:Nat) (W:World),17≤f+pl.length→pl.length≤16→LdrP W lb g m c→Below w00.heap.size w00 W→(c=0→m≤1024)→
  Calls Tryz.prog 109 #[.pointer (some ⟨lb,0,none⟩),sum,pl,below] W (LoadEnd W lb g (Trie.loadW D f sum pl below m c)):=by
 intro f
 induction f with
 |zero=>intro sum pl below m c W h1 h2; omega
 |succ f ih=>
 intro sum pl below m c W hf hpl hL hB hm;have HIH:=ι ih;clear ih;have HP:Hid (∀ x w' T (m' c':Nat),Trie.loadW D (f+1) sum pl below m c=(T,m',c')→KnotP w' T x→LdrP w' lb g m' c'→W.grownBy w' (some lb)→(c'=0→m'≤1024)→LoadEnd W lb g (Trie.loadW D (f+1) sum pl below m c) (.returned x) w'):=ι (fun x w' T m' c' e h1 h2 h3 h4=>by rw [e]; exact ⟨x,rfl,h1,h2,h3,h4⟩);generalize LoadEnd W lb g (Trie.loadW D (f+1) sum pl below m c)=P at HP ⊢;have c2:W.cell? ⟨lb,2,none⟩=some (.int .i64 (c:Int)):=Blk.cell hL 2;have c0:W.cell? ⟨lb,0,none⟩=some (.pointer (some ⟨g,0,none⟩)):=Blk.cell hL 0;have HL:=ι hL;have HB:=ι hB;by_cases hc:c=0;rotate_left
 ·have hX:Hid (Trie.loadW D (f+1) sum pl below m c=(.nil,m,c)):=ι (by unfold Trie.loadW; rw [if_pos hc]);have hcI:((c:Int) !=0)=true:=by simp; exact hc
  clear hm hc hL hB hSt hD hTr hT;go_enter Tryz.func109,Tryz.ntmps109
  go_wp2_with fail
  exact HP.out _ _ _ _ _ hX.out .nil HL.out ⟨rfl,rfl,rfl,Nat.le_refl _,fun _ _ _=>rfl⟩ (fun h=>by simp [h] at hcI)
 subst hc;have HX:=ι (loadW_eq D f sum pl below m);have HNo:=ι (store_Node W g b D (hSt.next hB) sum hD);have HOk:=ι (fun h=>Trie.nodeOf_ok (D:=D) (sum:=sum) hTr h);have hK:=nodeOf_K D sum;have HM:=ι (hm rfl);have HKs:=ι (nodeOf_short D sum);generalize Trie.loadW D (f+1) sum pl below m 0=X at *;generalize nodeOf D sum=nd at *;obtain ⟨⟨k,p,v,K⟩,ec⟩:=nd;simp only at HX HOk hK HKs;unfold DecNEnd at HNo;simp only at HNo;have HSz:=ι (nodeV_size (k:=k) (p:=p) (v:=v) hK);have SZ:(Tryz.prog.info? 133).map (·.size)=some (nodeV k p v K).toArray.size:=by rw [List.size_toArray,HSz.out]; exact info_node
 have HON:=nodeV_one k p v K;clear hm hL hB;go_enter Tryz.func109,Tryz.ntmps109
 go_wp2_with fail
 refine HNo.out.mono ?_;rintro e w2 ⟨rfl,hb2⟩;have F6:Hid (Live W (w2.alloc (.cells #[ζ,ε,ε,ε,ε,ε,ε,ε,ε,ε,ε,ε,ε,ε,ε,ε,ε,ε,ε] 133)) [(w2.heap.size,133,#[ζ,ε,ε,ε,ε,ε,ε,ε,ε,ε,ε,ε,ε,ε,ε,ε,ε,ε,ε])]):=ι (Live.one (hb2.alloc hb2.size _) hb2.size (Blk.new w2 133 #[ζ,ε,ε,ε,ε,ε,ε,ε,ε,ε,ε,ε,ε,ε,ε,ε,ε,ε,ε]));have TH:(w2.alloc (.cells #[ζ,ε,ε,ε,ε,ε,ε,ε,ε,ε,ε,ε,ε,ε,ε,ε,ε,ε,ε] 133)).there w2.heap.size 0 (nodeV k p v K).toArray.size:=by
  rw [show (nodeV k p v K).toArray.size=19 by rw [List.size_toArray]; exact HSz.out];exact F6.out.there 0 19 rfl (by decide)
 clear hb2 c0 c2;go_upto_region 4 with ((with_reducible refine at_put 29 ?_); refine wpList_store_mid rfl 133 _ _ rfl w2.heap.size 0 (nodeV k p v K).toArray rfl rfl TH SZ HON ?_)
 have F7:=Live.hall F6 0 (nodeV k p v K).toArray.toList rfl HSz.out.symm;generalize World.setCells _ w2.heap.size 0 _=W7 at F7 ⊢;obtain ⟨nb,hnb⟩:∃ nb,w2.heap.size=nb:=⟨_,rfl⟩
 rw [hnb] at F7 ⊢;have S0:Hid (Ld0 w00 W W7 lb g nb (k,p,v,K) m 0):=ι ⟨HL.out.below F7.out.b,HB.out.nxt F7.out.b,hlb,F7.out.blk 0 rfl,grown_of_low _ F7.out.b⟩;have HNB:Hid (W.heap.size≤nb):=ι (F7.out.own 0 rfl);clear F6 F7 TH hnb HON SZ HSz HNo;by_cases hec:ec=0;rotate_left
 ·have HW:=ι (ldr_wrong W7 lb g m S0.out.ld ec);have hX:Hid (X=(.nil,m,ec)):=ι (by rw [HX.out,if_pos hec]);have hcI:((ec:Int) !=0)=true:=by simp; exact hec
  clear HX HOk;go_wp2_with fail
  refine HW.out.mono ?_;rintro e w8 ⟨rfl,h1,h2⟩;have H1:=ι (And.intro h1 h2);clear h1 h2;go_wp2_with fail
  exact HP.out _ _ _ _ _ hX.out .nil H1.out.1 (S0.out.gr.trans H1.out.2) (fun h=>absurd h hec)
 subst hec;obtain ⟨_,o2,o3,o4⟩:=HOk.out rfl;obtain ⟨hkk,hfit,hp16,hv32,_⟩:=fineN_parts (show fineN k p v K=true from o2);rw [if_neg (by simp)] at HX;have HO:=ι (And.intro o2 (And.intro hK (And.intro hp16 hv32)));have n1:W7.cell? ⟨nb,1,none⟩=some (p:Value):=S0.out.nd.cell 1;have hsum:pl.length+p.length≤9223372036854775807:=by omega
 have hw1:wrap64 ((pl.length:Int)+p.length)=((pl.length+p.length:Nat):Int):=IntWalk.wrap64_in _ (by constructor<;>omega);clear HOk o2 o3 o4 hkk hfit hv32;go_upto_region 7 with fail
 go_cut [11,12] (fun s11 s12 wx=>s11= .int .i64 ((pl.length+p.length:Nat):Int)∧s12= .bool (decide (k=3) && !decide (K=zeroK))∧wx=W7)
 case first=>
  have n0:W7.cell? ⟨nb,0,none⟩=some (.int .i64 (k:Int)):=S0.out.nd.cell 0;clear HP HX HIH HNB hw1 hsum n1;by_cases hk3:k=3
  ·subst hk3;have hKs:∀ s∈K,s.length≤9223372036854775807:=HKs.out;have EQ:=fun w=>kids_eql K (List.replicate 16 []) hK rfl hKs (by simp) w;rw [noKidsV_eq] at EQ;unfold noKidsV at EQ;have SZ2:(Tryz.prog.info? 131).map (·.size)=some (strv K).length:=by rw [strv_length,hK]; exact size_arr
   obtain ⟨_,_,_,RK,_⟩:=NodeAt.of (C:= []) (by rw [List.append_nil]; exact S0.out.nd);have HZ:Hid (decide (K=List.replicate 16 [])=decide (K=zeroK)):=ι rfl;generalize decide (K=List.replicate 16 [])=bz at *;cases bz with
   |true=>
    go_wp2_with ((with_reducible refine at_op 47 ?_); refine wpList_load_want (by rfl) 131 _ rfl nb 3 rfl _ _ RK Tryz.underlying131 rfl SZ2 ?_)
    go_meet
    exact ⟨rfl,by rw [←HZ.out]; rfl,rfl⟩
   |false=>
    go_wp2_with ((with_reducible refine at_op 47 ?_); refine wpList_load_want (by rfl) 131 _ rfl nb 3 rfl _ _ RK Tryz.underlying131 rfl SZ2 ?_)
    go_meet
    exact ⟨rfl,by rw [←HZ.out]; rfl,rfl⟩
  ·have hkI:((k:Int)==3)=false:=by simp; omega
   go_wp2_with fail
   go_meet
   exact ⟨rfl,by rw [decide_eq_false hk3]; rfl,rfl⟩
 case rest=>
 obtain ⟨rfl,rfl,rfl⟩:=hcut;generalize hbi:(decide (k=3) && !decide (K=zeroK))=bi at *;generalize hLL:pl.length+p.length=LL at *;have hod:Trie.oddLd (k,p,v,K) pl below=((below && !decide (k=3))||decide (16<LL)||(bi && decide (16≤LL))):=by rw [←hbi,←hLL]; rfl
 have HLL:=ι (And.intro hLL (And.intro hbi (show LL≤100000 by omega)));have HOd:=ι hod;clear hLL hbi hod hw1 hsum n1;go_upto_region 8 with fail
 go_cut [67] (fun s67 wx=>s67= .bool (Trie.oddLd (k,p,v,K) pl below)∧wx=wc)
 case first=>
  have n0:wc.cell? ⟨nb,0,none⟩=some (.int .i64 (k:Int)):=S0.out.nd.cell 0;clear HP HX HIH HNB;cases below with
  |false=>
   have HKK:True:=trivial;by_cases h16:16<LL
   ·have hI:(16:Int)<LL:=by omega
    have HE:Hid (Trie.oddLd (k,p,v,K) pl false=true):=ι (by rw [HOd.out]; simp [h16]);clear HOd h16;go_wp2_with fail
    go_meet
    exact ⟨by rw [HE.out],rfl⟩
   ·have hI:((16:Int)<LL)=False:=by simp; omega
    cases bi with
    |false=>
     have HE:Hid (Trie.oddLd (k,p,v,K) pl false=false):=ι (by rw [HOd.out]; simp [h16,HKK]);clear HOd h16;go_wp2_with fail
     go_meet
     exact ⟨by rw [HE.out],rfl⟩
    |true=>
     by_cases h15:16≤LL
     ·have hJ:(16:Int)≤LL:=by omega
      have HE:Hid (Trie.oddLd (k,p,v,K) pl false=true):=ι (by rw [HOd.out]; simp [h15]);clear HOd h16 h15;go_wp2_with fail
      go_meet
      exact ⟨by rw [HE.out],rfl⟩
     ·have hJ:((16:Int)≤LL)=False:=by simp; omega
      have HE:Hid (Trie.oddLd (k,p,v,K) pl false=false):=ι (by rw [HOd.out]; simp [h15,h16,HKK]);clear HOd h16 h15;go_wp2_with fail
      go_meet
      exact ⟨by rw [HE.out],rfl⟩
  |true=>
   by_cases hk3:k=3
   ·have hkI:((k:Int) !=3)=false:=by simp; omega
    have HKK:=hk3;clear hk3;by_cases h16:16<LL
    ·have hI:(16:Int)<LL:=by omega
     have HE:Hid (Trie.oddLd (k,p,v,K) pl true=true):=ι (by rw [HOd.out]; simp [h16]);clear HOd h16;go_wp2_with fail
     go_meet
     exact ⟨by rw [HE.out],rfl⟩
    ·have hI:((16:Int)<LL)=False:=by simp; omega
     cases bi with
     |false=>
      have HE:Hid (Trie.oddLd (k,p,v,K) pl true=false):=ι (by rw [HOd.out]; simp [h16,HKK]);clear HOd h16;go_wp2_with fail
      go_meet
      exact ⟨by rw [HE.out],rfl⟩
     |true=>
      by_cases h15:16≤LL
      ·have hJ:(16:Int)≤LL:=by omega
       have HE:Hid (Trie.oddLd (k,p,v,K) pl true=true):=ι (by rw [HOd.out]; simp [h15]);clear HOd h16 h15;go_wp2_with fail
       go_meet
       exact ⟨by rw [HE.out],rfl⟩
      ·have hJ:((16:Int)≤LL)=False:=by simp; omega
       have HE:Hid (Trie.oddLd (k,p,v,K) pl true=false):=ι (by rw [HOd.out]; simp [h15,h16,HKK]);clear HOd h16 h15;go_wp2_with fail
       go_meet
       exact ⟨by rw [HE.out],rfl⟩
   ·have hkI:((k:Int) !=3)=true:=by simp; omega
    have HE:Hid (Trie.oddLd (k,p,v,K) pl true=true):=ι (by rw [HOd.out]; simp [hk3]);clear HOd hk3;go_wp2_with fail
    go_meet
    exact ⟨by rw [HE.out],rfl⟩
 case rest=>
 obtain ⟨rfl,rfl⟩:=hcut;clear HOd;cases hod:Trie.oddLd (k,p,v,K) pl below with
 |true=>
  have hX:Hid (X=(.nil,m,4)):=ι (by rw [HX.out,if_pos hod]);have HW:=ι (ldr_wrong wc lb g m S0.out.ld 4);clear HX hod;go_wp2_with fail
  refine HW.out.mono ?_;rintro e w8 ⟨rfl,h1,h2⟩;have H1:=ι (And.intro h1 h2);clear h1 h2;go_wp2_with fail
  exact HP.out _ _ _ _ _ hX.out .nil H1.out.1 (S0.out.gr.trans H1.out.2) (fun h=>by cases h)
 |false=>
 rw [if_neg (by simp [hod])] at HX;have HOdd:=ι hod;clear hod;go_upto_region 10 with fail
 go_cut [78] (fun s78 wx=>s78= .bool (!decide ((Trie.manyLd (k,p,v,K) pl m).2=0))∧Ld0 w00 W wx lb g nb (k,p,v,K) (Trie.manyLd (k,p,v,K) pl m).1 (Trie.manyLd (k,p,v,K) pl m).2)
 case first=>
  have n2:wc.cell? ⟨nb,2,none⟩=some (v:Value):=S0.out.nd.cell 2;clear HP HX HIH HNB;by_cases hv:v= []
  ·subst hv;have HMn:Hid (Trie.manyLd (k,p,[],K) pl m=(m,0)):=ι rfl;go_wp2_with fail
   go_meet
   exact ⟨by rw [HMn.out]; rfl,by rw [HMn.out]; exact S0.out⟩
  ·have ne1:(v.toArray=#[])=False:=by simp [hv]
   have ne2:v.isEmpty=false:=by simp [hv]
   have HMn:Hid (Trie.manyLd (k,p,v,K) pl m=Trie.itemLd LL m):=ι (by rw [←HLL.out.1]; simp [Trie.manyLd,hv]);have HIt:=ι (ldr_item wc lb g m LL S0.out.ld (by have:=HM.out; omega) HLL.out.2.2);generalize Trie.itemLd LL m=it at *;clear hv;go_wp2_with fail
   refine HIt.out.mono ?_;rintro e w8 ⟨rfl,h1,h2⟩;have H1:=ι (And.intro h1 h2);clear h1 h2;go_wp2_with fail
   go_meet
   exact ⟨by rw [HMn.out],by rw [HMn.out]; exact S0.out.call H1.out.2 H1.out.1⟩
 case rest=>
 obtain ⟨rfl,s1⟩:=hcut;have S1:=ι s1;clear S0 s1;have HMk:=ι (fun (h3:(Trie.manyLd (k,p,v,K) pl m).2=0) (ts:List Trie.T) (m':Nat) (h:Trie.kidsLd (fun s p m c=>Trie.loadW D f s p (decide (k=2)) m c) K (Trie.kidAt (k,p,v,K) pl) 16 (Trie.manyLd (k,p,v,K) pl m).1 0=(ts,m',0))=>Trie.kidsLd_mk hTr (n:=(k,p,v,K)) HM.out hK HO.out.1 HOdd.out h3 h);have HMl:=ι (fun (h3:(Trie.manyLd (k,p,v,K) pl m).2=0)=>Trie.manyLd_le (n:=(k,p,v,K)) (pl:=pl) HM.out h3);generalize Trie.manyLd (k,p,v,K) pl m=mn at *;obtain ⟨m1,c1⟩:=mn;simp only at HX HMk HMl S1;by_cases hc1:c1=0;rotate_left
 ·have hX:Hid (X=(.nil,m1,c1)):=ι (by rw [HX.out,if_pos hc1]);have hd:decide (c1=0)=false:=decide_eq_false hc1;clear HX HMk HMl;rw [hd];go_wp2_with fail
  exact HP.out _ _ _ _ _ hX.out .nil S1.out.ld S1.out.gr (fun h=>absurd h hc1)
 subst hc1;rw [if_neg (by simp)] at HX;have HMk0:=ι (fun ts m' h=>HMk.out rfl ts m' h);have HMl0:Hid (m1≤1024):=ι (HMl.out rfl);clear HMk HMl;have AL:Below wc.heap.size wc (wc.alloc (.cells #[.pointer none,.pointer none,.pointer none,.pointer none,.pointer none,.pointer none,.pointer none,.pointer none,.pointer none,.pointer none,.pointer none,.pointer none,.pointer none,.pointer none,.pointer none,.pointer none] 134)):=(Below.refl _ _).alloc (Nat.le_refl _) _;have KN:∀ (W':World) j,j<16→KnotP W' (([]:List Trie.T).getD j .nil) ((List.replicate 16 (Value.pointer none)).getD j undef):=fun W' j hj=>by
  rw [List.getD_eq_getElem?_getD (l:=List.replicate 16 (Value.pointer none)),List.getElem?_replicate,if_pos hj];exact .nil
 have L1:Hid (Ld1 w00 W (wc.alloc (.cells #[.pointer none,.pointer none,.pointer none,.pointer none,.pointer none,.pointer none,.pointer none,.pointer none,.pointer none,.pointer none,.pointer none,.pointer none,.pointer none,.pointer none,.pointer none,.pointer none] 134)) lb g nb wc.heap.size (k,p,v,K) [] (List.replicate 16 (.pointer none)) m1 0):=Lib.hid
  {S1.out.call (grown_of_low _ AL) (S1.out.ld.below AL) with kd:=Blk.new _ _ _,k0:=S1.out.gr.size,k00:=S1.out.b0.size,pl:=by simp,kn:=KN _}
 obtain ⟨_,_,_,RK,_⟩:=NodeAt.of (C:= []) (by rw [List.append_nil]; exact L1.out.nd);have SZ2:(Tryz.prog.info? 131).map (·.size)=some (strv K).length:=by rw [strv_length,hK]; exact size_arr
 have IHK:∀ W' i m' c',i<16→K.getD i []≠ []→LdrP W' lb g m' c'→Below w00.heap.size w00 W'→(c'=0→m'≤1024)→Calls Tryz.prog 109 #[.pointer (some ⟨lb,0,none⟩),.string ⟨(K.getD i []).toArray⟩,.string ⟨(Trie.kidAt (k,p,v,K) pl i).toArray⟩,.bool (decide (k=2))] W' (LoadEnd W' lb g ((fun s p m c=>Trie.loadW D f s p (decide (k=2)) m c) (K.getD i []) (Trie.kidAt (k,p,v,K) pl i) m' c')):=fun W' i m' c' hi hne hl hb hm'=>by
  have:=Trie.kidAt_len (n:=(k,p,v,K)) HO.out.1 HOdd.out hne
  exact HIH.out _ _ _ m' c' W' (by omega) this.2 hl hb hm'
 have HLoop:=ι (load_loop w00 W (wc.alloc (.cells #[.pointer none,.pointer none,.pointer none,.pointer none,.pointer none,.pointer none,.pointer none,.pointer none,.pointer none,.pointer none,.pointer none,.pointer none,.pointer none,.pointer none,.pointer none,.pointer none] 134)) lb g nb wc.heap.size k p v K hK (by omega) pl (by omega) (fun s p m c=>Trie.loadW D f s p (decide (k=2)) m c) IHK m1 HMl0.out L1.out);have HTb:=ι hT;clear IHK AL HIH;go_wp2_with ((with_reducible refine at_load 80 ?_); refine wpList_load_mid rfl 131 _ rfl nb 3 rfl _ _ RK Tryz.underlying131 rfl SZ2 ?_)
 refine HLoop.out _ ?_ _ _ _ _ _ _ _ _ _ _ _ _ _ _ _ _ _ _ _ _ _ _ _ _ _ _ _ _ _ _ _ _ _ _ _ _ _ _ _ _ _ _ _ _ _ _ _ _ _ _ _ _ _ _ _ _ _ _ _ _ _ _ _ _ _ _ _ _ _ _ _ _ _ _ _ _ _ _ _ _ _ _ _ _ _ _ _ _ _ _ _ _ _ _ _ _ _ _ _ _ _ _ _ _ _ _ _ _ _ _ _ _;clear RK SZ2;intro s1 s2 s3 s4 s5 s6 s7 s8 s10 s11 s12 s14 s15 s16 s17 s18 s19 s20 s21 s22 s23 s24 s25 s26 s27 s28 s29 s30 s31 s32 s33 s34 s35 s36 s37 s38 s39 s40 s41 s42 s43 s44 s45 s46 s47 s48 s49 s50 s51 s52 s53 s54 s55 s56 s57 s58 s59 s60 s61 s62 s63 s64 s65 s66 s67 s68 s69 s70 s71 s72 s73 s74 s75 s76 s77 s78 s79 s80 s81 s82 s83 s84 s85 s86 s87 s88 s89 s90 s91 s92 s93 s94 s95 s96 s97 s98 s99 s100 s101 s102 s103 s104 s105 s106 s107 s108 s109 s110 s111 s112 s113 s114 s115 s116 s117 w9 ts ps m9 c9 hkl hl1 hm9;rw [hkl] at HX;have HL9:=ι hl1;have HM9:=ι hm9;have d2:w9.cell? ⟨lb,2,none⟩=some (.int .i64 (c9:Int)):=Blk.cell hl1.ld 2;generalize wc.heap.size=kb at *;clear hl1 hm9 HLoop L1 S1;by_cases hc9:c9=0;rotate_left
 ·have hX:Hid (X=(.nil,m9,c9)):=ι (by rw [HX.out]; unfold Trie.endLd; rw [if_neg hc9]);have hcI:((c9:Int) !=0)=true:=by simp; exact hc9
  clear HX HMk0 hkl;go_wp2_with fail
  exact HP.out _ _ _ _ _ hX.out .nil HL9.out.ld HL9.out.gr (fun h=>absurd h hc9)
 subst hc9;obtain ⟨t1,t2,t3,t4,t5,t6,t7⟩:=HMk0.out ts m9 hkl;have hX:Hid (X=(Trie.mkT (k,p,v,K) ts,m9,0)):=ι (by rw [HX.out]; unfold Trie.endLd; rw [if_pos rfl]);have HTi:=ι (trie_tied (Trie.mkT (k,p,v,K) ts) t1.nn t1.wf t1.small (by omega) K hK t6 ps HL9.out.pl w9 (HTb.out.next HL9.out.b0) (fun i=>by rw [t5]; exact HL9.out.kn i.val i.isLt));rw [t2,t3,t4] at HTi;have RN:=Blk.range0 HL9.out.nd;have RP:=Blk.range0 HL9.out.kd;have SZN:(Tryz.prog.info? 133).map (·.size)=some (nodeV k p v K).length:=by rw [nodeV_size hK]; exact info_node
 have SZP:(Tryz.prog.info? 134).map (·.size)=some ps.length:=by rw [HL9.out.pl]; exact info_ptrs
 clear HX HMk0 hkl t1 t2 t3 t4 t5 t6 t7;generalize Trie.mkT (k,p,v,K) ts=T at *;generalize nodeV k p v K=NV at *;go_wp2_with (first|((with_reducible refine at_load 115 ?_); refine wpList_load_mid rfl 133 _ rfl nb 0 rfl _ _ RN Tryz.underlying133 rfl SZN ?_)|((with_reducible refine at_load 116 ?_); refine wpList_load_mid rfl 134 _ rfl kb 0 rfl _ _ RP Tryz.underlying134 rfl SZP ?_))
 refine HTi.out.mono ?_;rintro e w10 ⟨x,rfl,hk10,hb10⟩;have H10:=ι (And.intro hk10 hb10);clear hk10 hb10 RN RP;go_wp2_with fail
 exact HP.out _ _ _ _ _ hX.out H10.out.1 (HL9.out.ld.below H10.out.2) (HL9.out.gr.trans (grown_of_low _ H10.out.2)) (fun _=>HM9.out (by trivial))
end
end Go.Proofs.YtnelhjfjkkdoaaaGreatDoor