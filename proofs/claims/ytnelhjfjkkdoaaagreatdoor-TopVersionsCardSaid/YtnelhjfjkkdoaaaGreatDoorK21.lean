import Derived.Test.YtnelhjfjkkdoaaaGreatDoorK20
set_option linter.unusedSimpArgs false
set_option linter.unusedVariables false
set_option maxHeartbeats 4000000
set_option maxRecDepth 100000
namespace Go.Proofs.YtnelhjfjkkdoaaaGreatDoor
section
open Go.RowKit Go.Instr
attribute [local go_sem] ba_get ByteArray.mk_append_mk
attribute [local go_sem ↓] Go.wp_at_zero Go.wp_at_succ
theorem few_cell {w:World} {B:Nat} {A:Option Addr} {l:List (List UInt8)} (h:Reads w B 1 A l.length (strv l)) {i:Nat} (hi:i<l.length):
  ∃ ad off,A=some ⟨ad,off,none⟩∧ad<B∧∀ w',Below B w w'→w'.cell? ⟨ad,off+i,none⟩=some (.string ⟨l[i].toArray⟩):=by
 obtain ⟨ad,off,rfl,hbl,hcell⟩:=h.form (by omega) (by omega);refine ⟨ad,off,rfl,hbl,fun w' hb=> ?_⟩;have q:=hcell i (by rw [strv_length]; exact hi);have e:=strv_at hi;rw [List.getElem?_eq_getElem (by rw [strv_length]; exact hi)] at e;rw [Option.some.inj e] at q;exact (hb.cell (p:=⟨ad,off+i,none⟩) hbl).trans q
end
section
open Go.RowKit Go.Instr
attribute [local go_sem] ba_get ByteArray.mk_append_mk
def FollowEnd (w:World) (r:List UInt8 × Nat × Bool) (e:Ending) (w':World):Prop:=e= .returned (.tuple #[r.1,r.2.1,r.2.2])∧Below w.heap.size w w'
theorem step_rest {n:Nd} {l:List UInt8} (h:(stepW n l).1≠ []) (hf:Nib.fit l=true):Nib.fit (stepW n l).2=true∧(stepW n l).2.length≤l.length:=by
 obtain ⟨k,p,v,K⟩:=n;rw [stepW_eq] at h ⊢
 split at h
 ·exact absurd rfl h
 rename_i h1;rw [if_neg h1]
 split at h
 ·rename_i h2;rw [if_pos h2];exact ⟨Trie.fit_drop _ hf,by rw [List.length_drop]; omega⟩
 rename_i h2;rw [if_neg h2]
 split at h
 ·exact absurd rfl h
 rename_i h3;rw [if_neg h3]
 split at h
 ·exact absurd rfl h
 rename_i h4;rw [if_neg h4]
 split at h
 ·exact absurd rfl h
 rename_i h5;rw [if_neg h5];cases l with
 |nil=>exact ⟨rfl,Nat.le_refl _⟩
 |cons b r=>exact ⟨(Nib.fit_cons hf).2,by simp⟩
theorem decN_small (s:List UInt8):(decN s).1.2.1.length≤16∧(decN s).1.2.2.2.length=16:=by
 rcases decN_cases s with h|⟨n,h,h1,h2,_⟩
 ·rw [h]; exact ⟨Nat.zero_le _,rfl⟩
 ·rw [h];exact ⟨(fineN_parts h2).2.2.1,h1⟩
theorem proof_follow (w:World) (sought left:List UInt8) (nodes:List (List UInt8)) (A:Option Addr) (c:Nat) (HR:Reads w w.heap.size 1 A nodes.length (strv nodes)) (hn:nodes.length≤100000) (hs:∀ x∈nodes,x.length≤999999) (hl:left.length≤100000) (hf:Nib.fit left=true) (hT:Tbl w):
  Calls Tryz.prog 68 #[sought,left,.slice A nodes.length c] w (FollowEnd w (followW sought left nodes 0)):=by
 have HP:Hid (∀ (v:List UInt8) (t:Nat) b w',followW sought left nodes 0=(v,t,b)→Below w.heap.size w w'→FollowEnd w (followW sought left nodes 0) (.returned (.tuple #[v,t,b])) w'):=ι (fun v t b w' e h=>by rw [e]; exact ⟨rfl,h⟩);generalize FollowEnd w (followW sought left nodes 0)=P at HP ⊢;have H0:Hid (followW sought left nodes 0=followW sought left (nodes.drop 0) 0):=ι rfl;generalize followW sought left nodes 0=X at *;have HRR:=ι HR;have HS:=ι hs;have HTb:=ι hT;have HL:=ι (And.intro hn hl);have HF0:=ι hf;clear HR hs hT hf hn hl;go_enter Tryz.func68,Tryz.ntmps68
 go_wp2_with fail
 refine wp_scope_ghost 0 (fun _ _ _=>False) rfl ?_ (fun _ _ _ h=>h.elim);intro K0 hK0;go_wp2_with fail
 go_step3
 go_wp2_with fail
 refine wp_loop_ghost_k (fun k a wr=>∀ Φ:Act→Prop,(∀ ⦃s2 s3 s4 s5 s6 s8 s9 s0 s1 s7 a0 a2 a3 a4 a5 a6 a7 a8 a9 b0 b1 b2 b3 b4 b5 b6 b7 b8 b9 c0 c1 c2 c3 c4 c5 c6 c7 c8 c9 d0 d1 d2 d3 d4 d5 d6 d7 d8 d9 e0:Value⦄ (i:Nat) (s l:List UInt8),(i+k=nodes.length∧X=followW s l (nodes.drop i) i∧Nib.fit l=true∧l.length≤100000∧Below w.heap.size w wr)→Φ {tmps:=#[.string ⟨s.toArray⟩,.string ⟨l.toArray⟩,s2,s3,s4,s5,s6,.int .i64 (i:Int),s8,s9,s0,s1,s7,a0,a2,a3,a4,.slice A nodes.length c,.int .i64 nodes.length,.int .i64 (i:Int),a5,a6,a7,a8,a9,b0,b1,b2,b3,b4,b5,b6,b7,b8,b9,c0,c1,c2,c3,c4,c5,c6,c7,c8,c9,d0,d1,d2,d3,d4,d5,d6,d7,d8,d9,e0],defers:= []})→Φ a) (nodes.length) ?_ ?_
 ·refine fun Φ hΦ=>hΦ (0) (sought) (left) ?_;exact ⟨by omega,H0.out,HF0.out,HL.out.2,Below.refl _ _⟩
 ·intro k1 a1 wr1 hI1 J1 K1 hJ1 hK1;refine hI1 (fun a=>Code.wp _ _ _ a _) ?_;clear hI1 a1;iterate 50 (intro _)
  intro i s l hrel
  show Code.wp _ _ _ _ _;clear H0 HF0;obtain ⟨h1,h2,h3,h4,hb⟩:=hrel;by_cases hi:i<nodes.length
  ·obtain ⟨ad,off,rfl,hbl,hcell⟩:=few_cell HRR.out hi;have r0:=hcell _ hb;have hd:nodes.drop i=nodes[i]::nodes.drop (i+1):=List.drop_eq_getElem_cons hi;rw [hd,followW_cons] at h2;have hlen:=HS.out _ (List.getElem_mem hi);have HI:=ι h1;have HX:=ι h2;have HF:=ι (And.intro h3 h4);have HB:=ι hb;have hi0:(i:Int)<nodes.length:=by omega
   have hi1:(0:Int)≤i:=by omega
   have hi2:(i:Int)≤100000:=by have:=HL.out.1; omega
   clear h1 h2 h3 h4 hb hd hcell hbl;generalize nodes[i]=x at *;have HSum:Hid (∀ W,Below w.heap.size w W→Calls Tryz.prog 85 #[.int .i64 1,x] W fun e w'=>e= .returned (.tuple #[.string ⟨(shaW (1::x)).toArray⟩,ζ])∧Below W.heap.size W w'):=ι (fun W hW=>digest_Sum W 1 (by omega) (by omega) x hlen (HTb.out.next hW));have HDec:=ι (fun W=>node_Decode W x (by omega));have hsm:=decN_small x;generalize shaW (1::x)=sm at *;generalize decN x=dn at *;obtain ⟨⟨k,p,v,K⟩,dc⟩:=dn;simp only at HX hsm;unfold DecNEnd at HDec;simp only at HDec;have HStep:=ι (fun W=>proof_step W k p v K hsm.2 l (by omega) HF.out.2 HF.out.1);have HRest:=ι (fun h=>step_rest (n:=(k,p,v,K)) (l:=l) h HF.out.1);have SZ:(Tryz.prog.info? 133).map (·.size)=some (nodeV k p v K).length:=by rw [nodeV_size hsm.2]; exact info_node
   have HON:=nodeV_one k p v K;have HSz:=ι (nodeV_size (k:=k) (p:=p) (v:=v) hsm.2);generalize stepW (k,p,v,K) l=st at *;clear hsm hlen;generalize nodeV k p v K=NV at *;go_wp2_with fail
   refine (HSum.out _ HB.out).mono ?_;rintro e w2 ⟨rfl,hb2⟩;have HB2:=ι (HB.out.nxt hb2);clear hb2;go_wp2_with fail
   refine (HDec.out _).mono ?_;rintro e w3 ⟨rfl,hb3⟩;have F3:Hid (Live w (w3.alloc (.cells #[ζ,ε,ε,ε,ε,ε,ε,ε,ε,ε,ε,ε,ε,ε,ε,ε,ε,ε,ε] 133)) [(w3.heap.size,133,#[ζ,ε,ε,ε,ε,ε,ε,ε,ε,ε,ε,ε,ε,ε,ε,ε,ε,ε,ε])]):=ι (Live.one ((HB2.out.nxt hb3).alloc (HB2.out.nxt hb3).size _) (HB2.out.nxt hb3).size (Blk.new _ _ _));have TH:(w3.alloc (.cells #[ζ,ε,ε,ε,ε,ε,ε,ε,ε,ε,ε,ε,ε,ε,ε,ε,ε,ε,ε] 133)).there w3.heap.size 0 NV.toArray.size:=by
    rw [show NV.toArray.size=19 by rw [List.size_toArray]; exact HSz.out];exact F3.out.there 0 19 rfl (by decide)
   have SZ2:(Tryz.prog.info? 133).map (·.size)=some NV.toArray.size:=by rw [List.size_toArray]; exact SZ
   clear hb3 r0;go_upto_region 6 with ((with_reducible refine at_put 31 ?_); refine wpList_store_mid rfl 133 _ _ rfl w3.heap.size 0 NV.toArray rfl rfl TH SZ2 HON ?_)
   have F4:=Live.hall F3 0 NV.toArray.toList rfl HSz.out.symm;generalize World.setCells _ w3.heap.size 0 _=W4 at F4 ⊢;generalize w3.heap.size=nb at F4 ⊢;clear TH SZ2 F3 HON;have RA:=Blk.range0 (F4.out.blk 0 rfl);by_cases hsm:sm=s
   ·subst hsm;have hs1:(sm==sm)=true:=by simp
    by_cases hdc:dc=0
    ·subst hdc;rw [if_neg (by simp)] at HX;obtain ⟨nx,rs⟩:=st;simp only at HX HRest;by_cases hnx:nx= []
     ·subst hnx;rw [if_pos rfl] at HX;clear HRest;go_wp2_with (first|((with_reducible refine at_op 43 ?_); refine wpList_load_want (by rfl) 133 _ rfl nb 0 rfl _ _ RA Tryz.underlying133 rfl SZ ?_)|fail)
      refine (HStep.out _).mono ?_;rintro e w5 ⟨rfl,hb5⟩;have HB5:=ι (F4.out.b.nxt hb5);clear hb5 RA;go_wp2_with fail
      exact HP.out _ (i+1) _ _ HX.out HB5.out
     ·rw [if_neg hnx] at HX;have ne1:(nx.toArray=#[])=False:=by simp [hnx]
      have ne2:nx.isEmpty=false:=by simp [hnx]
      have HRs:=ι (HRest.out hnx);clear HRest hnx;go_wp2_with (first|((with_reducible refine at_op 43 ?_); refine wpList_load_want (by rfl) 133 _ rfl nb 0 rfl _ _ RA Tryz.underlying133 rfl SZ ?_)|fail)
      refine (HStep.out _).mono ?_;rintro e w5 ⟨rfl,hb5⟩;have HB5:=ι (F4.out.b.nxt hb5);clear hb5 RA;go_wp2_with fail
      refine Handed.intro (nodes.length - (i+1)) ?_ (hJ1 _ _ _ (fun Φ hΦ=>hΦ (i+1) (nx) (rs) ?_))
      ·have:=HI.out; omega
      ·exact ⟨by have:=HI.out; omega,HX.out,HRs.out.1,Nat.le_trans HRs.out.2 HF.out.2,HB5.out⟩
    ·rw [if_pos (.inr hdc)] at HX;have hdI:((dc:Int) !=0)=true:=by simp; exact hdc
     clear hdc HRest HStep;go_wp2_with fail
     exact HP.out _ i _ _ HX.out F4.out.b
   ·rw [if_pos (.inl hsm)] at HX;have hs1:(sm==s)=false:=by simp [hsm]
    clear hsm HRest HStep;go_wp2_with fail
    exact HP.out _ i _ _ HX.out F4.out.b
  ·have hi0:((i:Int)<nodes.length)=False:=by simp; omega
   have HX:Hid (X=([],i,false)):=ι (by rw [h2,List.drop_of_length_le (by omega)]; rfl);have HB:=ι hb;clear h1 h2 h3 h4 hb hi;go_wp2_with fail
   exact HP.out _ i _ _ HX.out HB.out
theorem proof_keyed (key:List UInt8) (hk:key.length≤9223372036854775807) (w:World):
  Calls Tryz.prog 66 #[key] w fun e w'=>e= .returned (.bool (Trie.keyedW key))∧w=w':=by
 have HP:Hid (∀ b w',Trie.keyedW key=b→w=w'→(fun e w'=>e=Ending.returned (.bool (Trie.keyedW key))∧w=w') (Ending.returned (.bool b)) w'):=ι (fun b w' h1 h2=>⟨by rw [h1],h2⟩);generalize (fun e w'=>e=Ending.returned (.bool (Trie.keyedW key))∧w=w')=P at HP ⊢;cases key with
 |nil=>
  go_enter Tryz.func66,Tryz.ntmps66
  go_wp2
  exact HP.out _ _ rfl rfl
 |cons a r=>
  have ne1:((a::r).toArray=#[])=False:=by simp
  by_cases h8:(a::r).length≤8
  ·have HR:Hid (Trie.keyedW (a::r)=true):=ι (by simp [Trie.keyedW]; simpa using h8);have e8:((a::r).length:Int)≤8:=by omega
   have ne2:(a::r).isEmpty=false:=rfl;clear h8;generalize ha:(a::r)=l at *;clear ha;go_enter Tryz.func66,Tryz.ntmps66
   go_wp2
   exact HP.out _ _ HR.out rfl
  ·have HR:Hid (Trie.keyedW (a::r)=false):=ι (by simp [Trie.keyedW]; simp at h8; omega);have e8:(((a::r).length:Int)≤8)=False:=by simp at h8 ⊢; omega
   have ne2:(a::r).isEmpty=false:=rfl;clear h8;generalize ha:(a::r)=l at *;clear ha;go_enter Tryz.func66,Tryz.ntmps66
   go_wp2
   exact HP.out _ _ HR.out rfl
def VerEnd (w:World) (r:List UInt8 × Bool × Nat) (e:Ending) (w':World):Prop:=e= .returned (.tuple #[r.1,r.2.1,r.2.2])∧Below w.heap.size w w'
theorem keyed_short {key:List UInt8} (h:Trie.keyedW key=true):key.length≤8:=by
 unfold Trie.keyedW at h;simp at h
 exact h.2
theorem proof_Verify (w:World) (root key:List UInt8) (hk:key.length≤9223372036854775807) (nodes:List (List UInt8)) (A:Option Addr) (c:Nat) (HR:Reads w w.heap.size 1 A nodes.length (strv nodes)) (hn:nodes.length≤100000) (hs:∀ x∈nodes,x.length≤999999) (hT:Tbl w):
  Calls Tryz.prog 24 #[root,key,.slice A nodes.length c] w (VerEnd w (verifyW root key nodes)):=by
 have HP:Hid (∀ (v:List UInt8) b (cd:Nat) w',verifyW root key nodes=(v,b,cd)→Below w.heap.size w w'→VerEnd w (verifyW root key nodes) (.returned (.tuple #[v,b,cd])) w'):=ι (fun v b t w' e h=>by rw [e]; exact ⟨rfl,h⟩);have HX:Hid (verifyW root key nodes=if Trie.keyedW key=false then ([],false,1)
 else if root= [] then (if nodes= [] then ([],false,0) else ([],false,130))
 else if (followW root (Nib.of key) nodes 0).2.2=true∧(followW root (Nib.of key) nodes 0).2.1=nodes.length then ((followW root (Nib.of key) nodes 0).1,decide ((followW root (Nib.of key) nodes 0).1≠ []),0)
 else ([],false,130)):=ι rfl
 generalize VerEnd w (verifyW root key nodes)=P at HP ⊢;generalize verifyW root key nodes=X at *;have HKy:=ι (proof_keyed key hk w);cases hkey:Trie.keyedW key with
 |false=>
  rw [if_pos hkey] at HX;rw [hkey] at HKy;clear HR hs hT;go_enter Tryz.func24,Tryz.ntmps24
  go_wp2_with fail
  refine HKy.out.mono ?_;rintro e w1 ⟨rfl,rfl⟩;go_wp2_with fail
  exact HP.out _ _ 1 _ HX.out (Below.refl _ _)
 |true=>
  rw [if_neg (by simp [hkey])] at HX;rw [hkey] at HKy;have hk8:=keyed_short hkey;by_cases hr:root= []
  ·subst hr;rw [if_pos rfl] at HX;clear HR hs hT;by_cases hnn:nodes= []
   ·subst hnn;rw [if_pos rfl] at HX;go_enter Tryz.func24,Tryz.ntmps24
    go_wp2_with fail
    refine HKy.out.mono ?_;rintro e w1 ⟨rfl,rfl⟩;go_wp2_with fail
    exact HP.out _ _ 0 _ HX.out (Below.refl _ _)
   ·rw [if_neg hnn] at HX;have hpos:(0:Int)<nodes.length:=by have:=List.length_pos_iff.2 hnn; omega
    clear hnn;go_enter Tryz.func24,Tryz.ntmps24
    go_wp2_with fail
    refine HKy.out.mono ?_;rintro e w1 ⟨rfl,rfl⟩;go_wp2_with fail
    exact HP.out _ _ 130 _ HX.out (Below.refl _ _)
  ·rw [if_neg hr] at HX;have ne1:(root.toArray=#[])=False:=by simp [hr]
   have ne2:root.isEmpty=false:=by simp [hr]
   have HOf:=ι (fun W=>nib_Of key W (by omega));have HFo:Hid (∀ W,Below w.heap.size w W→Calls Tryz.prog 68 #[root,.string ⟨(Nib.of key).toArray⟩,.slice A nodes.length c] W (FollowEnd W (followW root (Nib.of key) nodes 0))):=ι (fun W hW=>
    proof_follow W root (Nib.of key) nodes A c ((HR.below hW).more hW.size) hn hs (by rw [Nib.of_length]; omega) (Nib.fit_of key) (hT.next hW))
   have hle:=followW_le nodes root (Nib.of key) 0;generalize followW root (Nib.of key) nodes 0=fr at *;obtain ⟨v,t,b⟩:=fr;simp only at HX HFo hle;unfold FollowEnd at HFo;simp only at HFo;generalize Nib.of key=q at *;clear HR hs hT hr hk hn hk8 hkey;go_enter Tryz.func24,Tryz.ntmps24
   go_wp2_with fail
   refine HKy.out.mono ?_;rintro e w1 ⟨rfl,rfl⟩;go_wp2_with fail
   refine (HOf.out _).mono ?_;rintro e w2 ⟨rfl,hb2⟩;have HB2:=ι hb2;clear hb2;go_wp2_with fail
   refine (HFo.out _ HB2.out).mono ?_;rintro e w3 ⟨rfl,hb3⟩;have HB3:=ι (HB2.out.nxt hb3);clear hb3 HKy HOf HFo;cases b with
   |false=>
    rw [if_neg (by simp)] at HX;go_wp2_with fail
    exact HP.out _ _ 130 _ HX.out HB3.out
   |true=>
    by_cases ht:t=nodes.length
    ·rw [if_pos ⟨rfl,ht⟩] at HX;have htI:((t:Int) !=(nodes.length:Int))=false:=by simp; omega
     by_cases hv:v= []
     ·subst hv;clear ht hle;go_wp2_with fail
      exact HP.out _ _ 0 _ HX.out HB3.out
     ·rw [decide_eq_true (show v≠ [] from hv)] at HX;have ne3:(v.toArray=#[])=False:=by simp [hv]
      have ne4:v.isEmpty=false:=by simp [hv]
      clear ht hle hv;go_wp2_with fail
      exact HP.out _ _ 0 _ HX.out HB3.out
    ·rw [if_neg (fun h=>ht h.2)] at HX;have htI:((t:Int) !=(nodes.length:Int))=true:=by simp; omega
     clear ht hle;go_wp2_with fail
     exact HP.out _ _ 130 _ HX.out HB3.out
def TextsCEnd (w:World) (r:List (List UInt8) × Nat) (e:Ending) (w':World):Prop:=
 ∃ A n c,e= .returned (.tuple #[.slice A n c,r.2])∧n=r.1.length∧w'.ownsRow w.heap.size 9 1 (.slice A n c) n (strv r.1)∧Below w.heap.size w w'
def proveW (t:Trie.T) (key:List UInt8):List (List UInt8) × Nat:=if Trie.keyedW key then (toldW (trailW (Nib.of key)) t,0) else ([],1)
theorem proof_Prove (w:World) (t:Trie.T) (v:Value) (h:TrieP w t v) (hc:Trie.count t≤20000) (key:List UInt8) (hk:key.length≤9223372036854775807):
  Calls Tryz.prog 23 #[v,.string ⟨key.toArray⟩] w (TextsCEnd w (proveW t key)):=by
 have HP:Hid (∀ l (cd:Nat),proveW t key=(l,cd)→∀ A n c w',n=l.length→w'.ownsRow w.heap.size 9 1 (.slice A n c) n (strv l)→Below w.heap.size w w'→TextsCEnd w (proveW t key) (.returned (.tuple #[.slice A n c,cd])) w'):=ι (fun l cd e A n c w' h1 h2 h3=>by rw [e]; exact ⟨A,n,c,rfl,h1,h2,h3⟩);generalize TextsCEnd w (proveW t key)=P at HP ⊢;have HKy:=ι (proof_keyed key hk w);have HT:=ι h;cases hkey:Trie.keyedW key with
 |false=>
  have HE:Hid (proveW t key=([],1)):=ι (by unfold proveW; rw [if_neg (by simp [hkey])]);rw [hkey] at HKy;clear h;go_enter Tryz.func23,Tryz.ntmps23
  go_wp2_with fail
  refine HKy.out.mono ?_;rintro e w1 ⟨rfl,rfl⟩;go_wp2_with fail
  exact HP.out [] 1 HE.out none 0 0 _ rfl (World.ownsRow_nil _ _ _ _) (Below.refl _ _)
 |true=>
  have HE:Hid (proveW t key=(toldW (trailW (Nib.of key)) t,0)):=ι (by unfold proveW; rw [if_pos hkey]);rw [hkey] at HKy;have HTr:=ι (trie_Trail w t v h hc key (by have:=keyed_short hkey; omega));generalize toldW (trailW (Nib.of key)) t=l at *;clear h;go_enter Tryz.func23,Tryz.ntmps23
  go_wp2_with fail
  refine HKy.out.mono ?_;rintro e w1 ⟨rfl,rfl⟩;go_wp2_with fail
  refine HTr.out.mono ?_;rintro e w2 ⟨A,n,c,rfl,h1,h2,h3⟩;have HH:=ι (And.intro h1 (And.intro h2 h3));clear h1 h2 h3;go_wp2_with fail
  exact HP.out l 0 HE.out A n c _ HH.out.1 HH.out.2.1 HH.out.2.2
end
section
open Go.RowKit Go.Instr
attribute [local go_sem] ba_get ByteArray.mk_append_mk
attribute [local go_sem ↓] Go.wp_at_zero Go.wp_at_succ
def treeF (l:List (Int × List UInt8 × Int)):Trie.T × Nat:=if 8<l.length then (.nil,2) else treeW .nil 0 l
end
structure En where
 hd:Hd
 sum:List UInt8
 txs:List Ex.Tx
 rcs:List Ex.Rc
 st:Trie.T
 set:List Pw.Mem
 nxt:List Pw.Mem
namespace Led
open Trie Pw
def rootR (l:List Ex.Rc):List UInt8:=if (treeF l).2=0 then sumT (treeF l).1 else []
def sumAt (l:List En) (i:Nat):List UInt8:=((l[i]?).map (·.sum)).getD []
def makeC (p:En) (view:Int) (txs:List Ex.Tx):Nat:=
 if view<1∨1048576<view∨1048576≤p.hd.hgt then 1 else if p.hd.last=false∧view≤p.hd.vw then 230 else (Ex.allL p.st txs).2
def nextH (l:List En) (p:En) (view:Int) (txs:List Ex.Tx) (t:T) (R:List Ex.Rc) (M:List Mem):Hd:=
 ⟨p.hd.hgt+1,if p.hd.last then p.hd.epo+1 else p.hd.epo,view, !M.isEmpty,p.sum,sumT t,rootR R,Ex.rootX txs,p.hd.nxt,if M.isEmpty then p.hd.nxt else digM M,(Hd.linksH (p.hd.hgt+1)).map (sumAt l)⟩
def nextE (l:List En) (p:En) (view:Int) (txs:List Ex.Tx) (t:T) (R:List Ex.Rc) (M:List Mem):En:=
 ⟨nextH l p view txs t R M,Hd.dig (nextH l p view txs t R M),txs,R,t,p.nxt,if M.isEmpty then p.nxt else M⟩
def makeE (l:List En) (p:En) (view:Int) (txs:List Ex.Tx):En:=nextE l p view txs (Ex.allL p.st txs).1.1 (Ex.allL p.st txs).1.2.1 (Ex.allL p.st txs).1.2.2
def addW (l:List En) (view:Int) (txs:List Ex.Tx):List En × Nat:=
 match l.getLast? with
 |none=>(l,1)
 |some p=>if makeC p view txs=0 then (l++ [makeE l p view txs],0) else (l,makeC p view txs)
end Led
section
open Go.RowKit Go.Instr
attribute [local go_sem] ba_get ByteArray.mk_append_mk
attribute [local go_sem ↓] Go.wp_at_zero Go.wp_at_succ
theorem TrieP.kept {w w':World} {row:Option Nat} {t:Trie.T} {v:Value} (h:TrieP w t v) (hg:w.grownBy w' row) (hk:∀ k,row=some k→∃ ty cs,Blk w k ty cs∧ty≠115∧ty≠136):TrieP w' t v:=by
 obtain ⟨h1,b,x,rfl,h2,h3⟩:=h;refine ⟨h1,b,x,rfl,h2.grown hg (fun e=> ?_),KnotP.far (fun b' cs hb=>hb.grown hg (fun e=> ?_)) h3⟩
 ·obtain ⟨ty,cs,a1,a2,a3⟩:=hk b e.symm;exact a1.ne_ h2 a2 rfl
 ·obtain ⟨ty,cs',a1,a2,a3⟩:=hk b' e.symm;exact a1.ne_ hb a3 rfl
def rcell (r:Ex.Rc):List Value:= [.int .i64 r.1,.string ⟨r.2.1.toArray⟩,.int .i64 r.2.2]
abbrev rcs (l:List Ex.Rc):List Value:=l.flatMap rcell
end
end Go.Proofs.YtnelhjfjkkdoaaaGreatDoor