import Derived.Test.YtnelhjfjkkdoaaaGreatDoorJ22
import Derived.Test.YtnelhjfjkkdoaaaGreatDoorJ21
set_option linter.unusedSimpArgs false
set_option linter.unusedVariables false
set_option maxHeartbeats 4000000
set_option maxRecDepth 100000
namespace Go.Proofs.YtnelhjfjkkdoaaaGreatDoor
section
open Go.RowKit Go.Instr
attribute [local go_sem] ba_get ByteArray.mk_append_mk
theorem len_eq0 {α:Type} (l:List α):((l.length:Int)==0)=l.isEmpty:=by
 cases l<;>simp; omega
theorem z_24 {P:Prop} (h:P:=by
 go_wp2_with fail
 exact HP.out _ _ (by rw [HX.out]; rfl) HB0.out):P:=h
theorem tx_bare (w:World) (kd:Int) (fr:List UInt8) (sq:Int) (dt:List UInt8) (am:Int) (ky vl:List UInt8) (mm:List Pw.Mem) (A:Option Addr) (c:Nat):
  Calls Tryz.prog 188 #[.agg #[kd,fr,sq,dt,am,ky,vl,.slice A mm.length c]] w (Ret w (.bool (Ex.bareX ⟨kd,fr,sq,dt,am,ky,vl,mm⟩))):=by
 have HP:Hid (∀ b w',Ex.bareX ⟨kd,fr,sq,dt,am,ky,vl,mm⟩=b→Below w.heap.size w w'→Ret w (.bool (Ex.bareX ⟨kd,fr,sq,dt,am,ky,vl,mm⟩)) (.returned (.bool b)) w'):=ι (fun b w' e h=>by rw [e]; exact ⟨rfl,h⟩);have HX:Hid (Ex.bareX ⟨kd,fr,sq,dt,am,ky,vl,mm⟩=if kd=1 then (ky.isEmpty && vl.isEmpty) && mm.isEmpty else if kd=2 then (dt.isEmpty && (am==0)) && mm.isEmpty else if kd=3 then (dt.isEmpty && (am==0)) && mm.isEmpty && vl.isEmpty else if kd=4 then (dt.isEmpty && (am==0)) && (ky.isEmpty && vl.isEmpty) else false):=ι (by
  unfold Ex.bareX
  have:decide (am=0)=(am==0):=by simp only [Bool.beq_eq_decide_eq]
  simp only [this])
 generalize Ret w (.bool (Ex.bareX ⟨kd,fr,sq,dt,am,ky,vl,mm⟩))=P at HP ⊢;generalize Ex.bareX ⟨kd,fr,sq,dt,am,ky,vl,mm⟩=X at *;have hml:=len_eq0 mm;go_enter Tryz.func188,Tryz.ntmps188
 go_upto_region 1 with fail
 have F0:=Live.ha (ι (Live.start w)) #[kd,fr,sq,dt,am,ky,vl,.slice A mm.length c] 80;generalize World.alloc w _=W0 at F0 ⊢;generalize w.heap.size=xb at F0 ⊢;obtain ⟨k0_0,k0_1,k0_2,k0_3,k0_4,k0_5,k0_6,k0_7⟩:=(F0.out.blk 0 rfl).c8;go_cut [3] (fun s3 wx=>s3= .bool (dt.isEmpty && (am==0))∧W0=wx)
 case first=>
  cases e1:dt.isEmpty with
  |false=>
   go_wp2_with fail
   go_meet
   exact ⟨by rw [e1]; rfl,rfl⟩
  |true=>
   go_wp2_with fail
   go_meet
   exact ⟨by rw [e1,Bool.true_and],rfl⟩
 case rest=>
 obtain ⟨h3,hw⟩:=hcut;subst h3;subst hw;go_upto_region 2 with fail
 go_cut [4] (fun s4 wx=>s4= .bool (ky.isEmpty && vl.isEmpty)∧W0=wx)
 case first=>
  cases e1:ky.isEmpty with
  |false=>
   go_wp2_with fail
   go_meet
   exact ⟨by rw [e1]; rfl,rfl⟩
  |true=>
   go_wp2_with fail
   go_meet
   exact ⟨by rw [e1,Bool.true_and],rfl⟩
 case rest=>
 obtain ⟨h4,hw⟩:=hcut;subst h4;subst hw;obtain ⟨b3,hb3⟩:∃ b3,(dt.isEmpty && (am==0))=b3:=⟨_,rfl⟩
 obtain ⟨b4,hb4⟩:∃ b4,(ky.isEmpty && vl.isEmpty)=b4:=⟨_,rfl⟩
 obtain ⟨b5,hb5⟩:∃ b5,mm.isEmpty=b5:=⟨_,rfl⟩
 obtain ⟨b6,hb6⟩:∃ b6,vl.isEmpty=b6:=⟨_,rfl⟩
 rw [hb3,hb4,hb5,hb6] at HX;rw [hb3,hb4];rw [hb5] at hml;have HB0:=ι F0.out.b;have k0_6:W0.cell? ⟨xb,6,none⟩=some (vl:Value):=k0_6;clear hb3 hb4 hb5;by_cases k1:kd=1
 ·subst k1;rw [if_pos rfl] at HX;cases b4 with
  |false=>
   exact z_24
  |true=>
   exact z_24
 have kk1:(kd==1)=false:=by rw [beq_eq_false_iff_ne]; exact k1
 rw [if_neg k1] at HX;by_cases k2:kd=2
 ·subst k2;rw [if_pos rfl] at HX;clear k1;cases b3 with
  |false=>
   exact z_24
  |true=>
   exact z_24
 have kk2:(kd==2)=false:=by rw [beq_eq_false_iff_ne]; exact k2
 rw [if_neg k2] at HX;by_cases k3:kd=3
 ·subst k3;rw [if_pos rfl] at HX;clear k1 k2;cases b3 with
  |false=>
   exact z_24
  |true=>
   cases b5 with
   |false=>
    exact z_24
   |true=>
    exact z_24
 have kk3:(kd==3)=false:=by rw [beq_eq_false_iff_ne]; exact k3
 rw [if_neg k3] at HX;by_cases k4:kd=4
 ·subst k4;rw [if_pos rfl] at HX;clear k1 k2 k3;cases b3 with
  |false=>
   exact z_24
  |true=>
   exact z_24
 have kk4:(kd==4)=false:=by rw [beq_eq_false_iff_ne]; exact k4
 rw [if_neg k4] at HX;clear k1 k2 k3 k4;go_wp2_with fail
 exact HP.out _ _ HX.out HB0.out
end
section
open Go.RowKit Go.Instr
attribute [local go_sem] ba_get ByteArray.mk_append_mk
attribute [local go_sem ↓] Go.wp_at_zero Go.wp_at_succ
def acell (a:Ex.Ac):List Value:= [.string ⟨a.1.toArray⟩,.int .i64 a.2.1,.int .i64 a.2.2]
abbrev acells (l:List Ex.Ac):List Value:=l.flatMap acell
theorem acell_len (m:Ex.Ac):(acell m).length=3:=rfl
theorem ac_cells {w:World} {B:Nat} {A:Option Addr} {l:List Ex.Ac} (h:Reads w B 3 A l.length (acells l)) {i:Nat} (hi:i<l.length):
  ∃ ad off,A=some ⟨ad,off,none⟩∧ad<B∧∀ W,Below B w W→W.cell? ⟨ad,off+i*3,none⟩=some (.string ⟨l[i].1.toArray⟩)∧W.cell? ⟨ad,off+i*3+1,none⟩=some (.int .i64 l[i].2.1)∧W.cell? ⟨ad,off+i*3+2,none⟩=some (.int .i64 l[i].2.2):=by
 obtain ⟨ad,off,h1,h2,h3⟩:=flat_cells acell_len (by decide) h hi;exact ⟨ad,off,h1,h2,fun W hW=>⟨h3 W hW 0 _ rfl,h3 W hW 1 _ rfl,h3 W hW 2 _ rfl⟩⟩
theorem exec_Genesis (w:World) (l:List Ex.Ac) (hs:∀ x∈l,x.1.length≤9223372036854775807) (A:Option Addr) (c:Nat) (HR:Reads w w.heap.size 3 A l.length (acells l)) (set:List Pw.Mem) (hm:∀ x∈set,x.1.length≤9223372036854775807) (B:Option Addr) (d:Nat) (HS:Reads w w.heap.size 2 B set.length (mcells set)) (hT:Tbl w):
  Calls Tryz.prog 114 #[.slice A l.length c,.slice B set.length d] w (TPutEnd w (Ex.genW l set).1 (Ex.genW l set).2):=by
 have HP:Hid (∀ t' (c:Nat) v' w',Ex.genW l set=(t',c)→Below w.heap.size w w'→(c=0→TrieP w' t' v')→(c≠0→v'= .pointer none)→TPutEnd w (Ex.genW l set).1 (Ex.genW l set).2 (.returned (.tuple #[v',.int .i64 (c:Int)])) w'):=ι (fun t' c v' w' e h2 h3 h4=>⟨v',by rw [e],h2,by rw [e]; exact h3,by rw [e]; exact h4⟩);generalize TPutEnd w (Ex.genW l set).1 (Ex.genW l set).2=P at HP ⊢;have HX:Hid (Ex.genW l set=if 8<l.length then (.nil,2) else if (Ex.genA .nil l).2≠0 then (.nil,(Ex.genA .nil l).2) else if Pw.okM set=false then (.nil,50)
  else (Trie.put (Ex.genA .nil l).1 (Nib.of Ex.sKey) (Pw.digM set),0)):=ι rfl
 generalize Ex.genW l set=X at *;have HTb:=ι hT;by_cases h8:8<l.length
 ·have h8':(8:Int)<l.length:=by omega
  have HE:Hid (X=(.nil,2)):=ι (by rw [HX.out,if_pos h8]);clear HX h8 HR HS hs hm hT;go_enter Tryz.func114,Tryz.ntmps114
  go_wp2
  exact HP.out .nil 2 _ _ HE.out (Below.refl _ _) (fun h=>by cases h) (fun _=>rfl)
 have h8':((8:Int)<l.length)=False:=by simp; omega
 have HX:=ι (HX.out.trans (if_neg h8));have HL8:=ι (Nat.le_of_not_lt h8);have HRR:=ι HR;have HSl:=ι hs;have HCk:=ι (fun W (hW:Below w.heap.size w W)=>power_Check W set hm B d ((HS.below hW).more hW.size));have HDg:=ι (fun W (hW:Below w.heap.size w W)=>power_Digest W set hm B d ((HS.below hW).more hW.size) (hT.next hW));have hDl:=ι (fun h=>Pw.digM_len (l:=set) h);generalize Pw.okM set=ok at *;generalize Pw.digM set=dg at *;have HGA:Hid (∀ t c,Ex.genA .nil l=(t,c)→c≠0→X=(.nil,c)):=ι (fun t c e hc=>by rw [HX.out,e,if_pos hc]);have HGB:Hid (∀ t,Ex.genA .nil l=(t,0)→X=if ok=false then (.nil,50) else (Trie.put t (Nib.of [115]) dg,0)):=ι (fun t e=>by rw [HX.out,e,if_neg (by simp)]; rfl);clear HR HS hs hm hT h8 HX;go_enter Tryz.func114,Tryz.ntmps114
 go_wp2_with (go_at_call 11; refine (trie_New _).mono ?_; rintro e w1 ⟨v0,rfl,hk0,hb0⟩; have H0:=ι (And.intro hk0 hb0); clear hk0 hb0)
 refine wp_loop_ghost_k (fun k a wr=>∀ Φ:Act→Prop,(∀ ⦃s0 s2 s3 s4 s5 s7 s8 s9 s1 s6 a0 a2 a3 a4 a5 a6 a7 a8 a9 b0 b1 b2 b3 b4 b5 b6 b7 b8 b9 c0 c1 c2 c4 c5 c6 c7 c8 c9 d3 d4 d5 d6 d7 d8 d9 e0 e1 e2 e3 e4 e5 e6 e7 e8 e9 f0 f1 f2 f3 f4 f5 f6 f7 f8:Value⦄ (i:Nat) (t:Trie.T) (v:Value),(i+k=l.length∧Ex.genA .nil l=Ex.genA t (l.drop i)∧Trie.count t≤i∧TrieP wr t v∧Below w.heap.size w wr)→Φ {tmps:=#[s0,.slice B set.length d,s2,s3,s4,s5,v,s7,s8,s9,s1,s6,a0,a2,a3,.slice A l.length c,.int .i64 l.length,.int .i64 (i:Int),a4,a5,a6,a7,a8,a9,b0,b1,b2,b3,b4,b5,b6,b7,b8,b9,c0,c1,c2,c4,c5,c6,c7,c8,c9,d3,d4,d5,d6,d7,d8,d9,e0,e1,e2,e3,e4,e5,e6,e7,e8,e9,f0,f1,f2,f3,f4,f5,f6,f7,f8],defers:= []})→Φ a) (l.length) ?_ ?_
 ·refine fun Φ hΦ=>hΦ (0) (.nil) (v0) ?_;exact ⟨by omega,rfl,by simp [Trie.count],H0.out.1,H0.out.2⟩
 ·intro k1 a1 wr1 hI1 J1 K1 hJ1 hK1;refine hI1 (fun a=>Code.wp _ _ _ a _) ?_;clear hI1 a1;iterate 64 (intro _)
  intro i t v hrel
  show Code.wp _ _ _ _ _;obtain ⟨h1,h2,h3,hk,hb⟩:=hrel;obtain ⟨_,pv,px,rfl,_⟩:=id hk;by_cases hi:i<l.length
  ·obtain ⟨ad,off,rfl,hbl,hcell⟩:=ac_cells HRR.out hi;obtain ⟨r0,r1,r2⟩:=hcell _ hb;have hi1:(i:Int)<l.length:=by omega
   have hi0:(0:Int)≤i:=by omega
   have hi8:(i:Int)<8:=by have:=HL8.out; omega
   have hd:l.drop i=l[i]::l.drop (i+1):=List.drop_eq_getElem_cons hi;have hlen:=HSl.out _ (List.getElem_mem hi);rw [hd] at h2;have HI:=ι (And.intro h1 (And.intro h2 (And.intro h3 (And.intro hk hb))));clear h1 h2 h3 hk hb hcell hd hbl;generalize l[i]=x at *;obtain ⟨n,am,sq⟩:=x;simp only at r0 r1 r2 hlen;have HQ0:Hid (Ex.genA t ((n,am,sq)::l.drop (i+1))=if Ex.okA (n,am,sq)=false then (t,1) else if (Trie.getW t (97::58::n)).2=0 then (t,6) else Ex.genA (Trie.put t (Nib.of (97::58::n)) (Ex.writA (am.toNat,sq.toNat))) (l.drop (i+1))):=ι rfl;have HA:Hid (Ex.okA (n,am,sq)=(Ex.nameW n && (decide (0≤am) && decide (am≤1099511627776)) && (decide (0≤sq) && decide (sq≤1099511627776)))):=ι rfl;have HN:=ι (fun W=>exec_name n hlen W);have HWa:=ι (fun W=>exec_within am W);have HWs:=ι (fun W=>exec_within sq W);go_upto_region 7 with fail
   have F1:=Live.ha (ι (Live.start wr1)) #[n,am,sq] 62;generalize World.alloc wr1 _=W1 at F1 ⊢;generalize wr1.heap.size=ab at F1 ⊢;clear r0 r1 r2;have k0:=(F1.out.blk 0 rfl).c3;cases hn:Ex.nameW n with
   |false=>
    have HE:Hid (X=(.nil,1)):=ι (HGA.out t 1 (HI.out.2.1.trans (by rw [HQ0.out,HA.out,hn]; rfl)) (by decide));rw [hn] at HN;clear hn HA HQ0;go_wp2_with fail
    refine (HN.out _).mono ?_;rintro e w2 ⟨rfl,rfl⟩;go_wp2_with fail
    exact HP.out .nil 1 _ _ HE.out (HI.out.2.2.2.2.nxt F1.out.b) (fun h=>by cases h) (fun _=>rfl)
   |true=>
   rw [hn] at HN HA;rw [Bool.true_and] at HA;have hn6:=(Ex.nameW_len hn).2;clear hn;go_wp2_with fail
   refine (HN.out _).mono ?_;rintro e w2 ⟨rfl,rfl⟩;cases ha:(decide (0≤am) && decide (am≤1099511627776)) with
   |false=>
    have HE:Hid (X=(.nil,1)):=ι (HGA.out t 1 (HI.out.2.1.trans (by rw [HQ0.out,HA.out,ha]; rfl)) (by decide));rw [ha] at HWa;clear ha HA HQ0;go_wp2_with fail
    refine (HWa.out _).mono ?_;rintro e w2 ⟨rfl,rfl⟩;go_wp2_with fail
    exact HP.out .nil 1 _ _ HE.out (HI.out.2.2.2.2.nxt F1.out.b) (fun h=>by cases h) (fun _=>rfl)
   |true=>
   rw [ha] at HWa HA;rw [Bool.true_and] at HA;simp only [Bool.and_eq_true,decide_eq_true_eq] at ha;go_wp2_with fail
   refine (HWa.out _).mono ?_;rintro e w2 ⟨rfl,rfl⟩;cases hq:(decide (0≤sq) && decide (sq≤1099511627776)) with
   |false=>
    have HE:Hid (X=(.nil,1)):=ι (HGA.out t 1 (HI.out.2.1.trans (by rw [HQ0.out,HA.out,hq]; rfl)) (by decide));rw [hq] at HWs;clear hq HA HQ0;go_wp2_with fail
    refine (HWs.out _).mono ?_;rintro e w2 ⟨rfl,rfl⟩;go_wp2_with fail
    exact HP.out .nil 1 _ _ HE.out (HI.out.2.2.2.2.nxt F1.out.b) (fun h=>by cases h) (fun _=>rfl)
   |true=>
   rw [hq] at HWs HA;simp only [Bool.and_eq_true,decide_eq_true_eq] at hq;go_wp2_with fail
   refine (HWs.out _).mono ?_;rintro e w2 ⟨rfl,rfl⟩;have HQ1:=ι (HQ0.out.trans (by rw [HA.out,if_neg (by decide)]));obtain ⟨a,rfl⟩:=Int.eq_ofNat_of_zero_le ha.1;obtain ⟨q,rfl⟩:=Int.eq_ofNat_of_zero_le hq.1;simp only [Int.toNat_natCast] at HQ1;have HGt:=ι (trie_Get W1 t _ (HI.out.2.2.2.1.next F1.out.b) (97::58::n) (by simp only [List.length_cons]; omega));have HWr:=ι (fun W=>exec_written n a q (by omega) (by omega) W);have hpc:=Ex.putCode_a (n:=n) hn6 (p:=(a,q)) (by simp only; omega) (by simp only; omega);have HPt:=ι (fun W (hW:Below W1.heap.size W1 W)=>trie_Put W t _ (HI.out.2.2.2.1.next (F1.out.b.nxt hW)) (by have:=HI.out.2.2.1; omega) (HTb.out.next (HI.out.2.2.2.2.nxt (F1.out.b.nxt hW))) (97::58::n) (Ex.writA (a,q)) (by simp only [List.length_cons]; omega) (by have:=(Ex.writA_len (p:=(a,q)) (by simp only; omega) (by simp only; omega)).2; omega));have hpc:Trie.putCode (97::58::n) (Ex.writA (a,q))=0:=hpc;rw [hpc] at HPt;have HCn:Hid (Trie.count (Trie.put t (Nib.of (97::58::n)) (Ex.writA (a,q)))≤i+1):=ι (by have:=Trie.count_put t (Nib.of (97::58::n)) (Ex.writA (a,q)); have:=HI.out.2.2.1; omega);have hsum:2+n.length≤9223372036854775807:=by omega
   have hsum2:n.length+2≤9223372036854775807:=by omega
   have hsum3:n.length+1+1≤9223372036854775807:=by omega
   have hnl1:(9223372036854775807<2+n.length)=False:=by simp; omega
   have hnl2:(9223372036854775807<n.length+2)=False:=by simp; omega
   have hnl3:(9223372036854775807<n.length+1+1)=False:=by simp; omega
   clear hpc ha hq HA HQ0 HN HWa HWs hlen hn6;generalize Ex.writA (a,q)=wt at *;generalize Trie.put t (Nib.of (97::58::n)) wt=t2 at *;generalize Trie.getW t (97::58::n)=gr at *;obtain ⟨gv,gc⟩:=gr;unfold TGetEnd at HGt;simp only at HGt HQ1;by_cases hg:gc=0
   ·subst hg;have HE:Hid (X=(.nil,6)):=ι (HGA.out t 6 (HI.out.2.1.trans (by rw [HQ1.out,if_pos rfl])) (by decide));clear HQ1;go_wp2_with fail
    refine HGt.out.mono ?_;rintro e w2 ⟨rfl,hb⟩;have B2:=ι (F1.out.b.nxt hb);clear hb;go_wp2_with fail
    exact HP.out .nil 6 _ _ HE.out (HI.out.2.2.2.2.nxt B2.out) (fun h=>by cases h) (fun _=>rfl)
   have hgc:((gc:Int)==0)=false:=by rw [beq_eq_false_iff_ne]; omega
   have HQ:=ι (HQ1.out.trans (if_neg hg));clear HQ1 hg;go_wp2_with fail
   refine HGt.out.mono ?_;rintro e w2 ⟨rfl,hb⟩;have F2:=Live.hb F1 hb;have B2:=ι hb;clear hb F1 k0 HGt;go_upto_region 12 with fail
   have d0:w2.cell? ⟨ab,0,none⟩=some (n:Value)∧w2.cell? ⟨ab,1,none⟩=some (.int .i64 (a:Int))∧w2.cell? ⟨ab,2,none⟩=some (.int .i64 (q:Int)):=⟨F2.out.cell 0 0 rfl rfl,F2.out.cell 0 1 rfl rfl,F2.out.cell 0 2 rfl rfl⟩
   go_region_held3 (fun w'=>w'.cell? ⟨ab,0,none⟩=some (n:Value)∧w'.cell? ⟨ab,1,none⟩=some (.int .i64 (a:Int))∧w'.cell? ⟨ab,2,none⟩=some (.int .i64 (q:Int))) (first|go_keep|assumption) (first|(go_at_call 153; refine (HWr.out _).mono ?_; rintro e w3 ⟨rfl,hb⟩; have hb3:Below w2.heap.size w2 w3:=(by first|exact hb|exact hb.start); clear hb; have F3:=Live.hb F2 hb3; have d1:w3.cell? ⟨ab,0,none⟩=some (n:Value)∧w3.cell? ⟨ab,1,none⟩=some (.int .i64 (a:Int))∧w3.cell? ⟨ab,2,none⟩=some (.int .i64 (q:Int)):=⟨F3.out.cell 0 0 rfl rfl,F3.out.cell 0 1 rfl rfl,F3.out.cell 0 2 rfl rfl⟩)|(go_at_call 13; refine (HPt.out _ (by first|exact B2.out.nxt hb3|exact (B2.out.nxt hb3).drew)).mono ?_; rintro e w4 ⟨v4,rfl,hb,hk4,_⟩; have hb4:Below w3.heap.size w3 w4:=(by first|exact hb|exact hb.start); clear hb; have K4:=ι (hk4 (by first|exact trivial|rfl)); clear hk4; have F4:=Live.hb F3 hb4; have d2:w4.cell? ⟨ab,0,none⟩=some (n:Value)∧w4.cell? ⟨ab,1,none⟩=some (.int .i64 (a:Int))∧w4.cell? ⟨ab,2,none⟩=some (.int .i64 (q:Int)):=⟨F4.out.cell 0 0 rfl rfl,F4.out.cell 0 1 rfl rfl,F4.out.cell 0 2 rfl rfl⟩))
   go_wp2_with fail
   refine Handed.intro (l.length - (i+1)) ?_ (hJ1 _ _ _ (fun Φ hΦ=>hΦ (i+1) (t2) (v4) ?_))
   ·have:=HI.out.1; omega
   exact ⟨by have:=HI.out.1; omega,HI.out.2.1.trans HQ.out,HCn.out,K4.out,HI.out.2.2.2.2.nxt F4.out.b⟩
  ·have hi1:((i:Int)<l.length)=False:=by simp; omega
   have HGe:Hid (Ex.genA .nil l=(t,0)):=ι (by rw [h2,List.drop_of_length_le (by omega)]; rfl);have HE:=ι (HGB.out t HGe.out);have HI:=ι (And.intro h3 (And.intro hk hb));have HCk1:=ι (HCk.out _ hb);have HDg1:=ι (fun W (hW:Below wr1.heap.size wr1 W)=>HDg.out W (hb.nxt hW));have HiL:Hid (i≤8):=ι (by have:=HL8.out; omega);clear h1 h2 h3 hk hb hi HGA HGB HGe HCk HDg;cases ok with
   |false=>
    rw [if_pos rfl] at HE;unfold codeM at HCk1;simp only [Bool.false_eq_true,if_false] at HCk1;go_wp2_with fail
    refine HCk1.out.mono ?_;rintro e w2 ⟨rfl,hb⟩;have B2:=ι hb;clear hb;go_wp2_with fail
    exact HP.out .nil 50 _ _ HE.out (HI.out.2.2.nxt B2.out) (fun h=>by cases h) (fun _=>rfl)
   |true=>
    rw [if_neg (by decide)] at HE;unfold codeM at HCk1;simp only [if_true] at HCk1;have hdl:=hDl.out rfl;have hpc:Trie.putCode [115] dg=0:=Ex.putCode_v (k:= [115]) (v:=dg) rfl (by omega) (by omega);have HPt:=ι (fun W (hW:Below wr1.heap.size wr1 W)=>trie_Put W t _ (HI.out.2.1.next hW) (by have:=HI.out.1; have:=HiL.out; omega) (HTb.out.next (HI.out.2.2.nxt hW)) [115] dg (by simp) (by omega));rw [hpc] at HPt;clear hpc hdl hDl;go_wp2_with fail
    refine HCk1.out.mono ?_;rintro e w2 ⟨rfl,hb⟩;have B2:=ι hb;clear hb;go_wp2_with fail
    refine (HDg1.out _ B2.out).mono ?_;rintro e w3 ⟨rfl,hb⟩;have B3:=ι (B2.out.nxt hb);clear hb;go_wp2_with fail
    refine (HPt.out _ B3.out).mono ?_;rintro e w4 ⟨v4,rfl,hb,hk4,_⟩;have K4:=ι (And.intro (hk4 (by first|exact trivial|rfl)) (HI.out.2.2.nxt (B3.out.nxt hb)));clear hb hk4;go_wp2_with fail
    exact HP.out _ 0 _ _ HE.out K4.out.2 (fun _=>K4.out.1) (fun h=>absurd rfl h)
end
section
open Go.RowKit Go.Instr
theorem Led.nextE_eq (L:List En) (p:En) (view:Int) (txs:List Ex.Tx) (t:Trie.T) (D:List Ex.Rc) (M:List Pw.Mem) (EP:Int) (LB:Bool) (stt RR TR:List UInt8) (N:List Pw.Mem) (NX:List UInt8) (S:List (List UInt8))
  (h1:(if p.hd.last then p.hd.epo+1 else p.hd.epo)=EP) (h2:decide (0<M.length)=LB) (h3:Trie.sumT t=stt) (h4:Led.rootR D=RR) (h5:Ex.rootX txs=TR) (h6:(if M.isEmpty then p.nxt else M)=N)
  (h7:(if M.isEmpty then p.hd.nxt else Pw.digM M)=NX) (h8:(Hd.linksH (p.hd.hgt+1)).map (Led.sumAt L)=S):
  Led.nextE L p view txs t D M=⟨⟨p.hd.hgt+1,EP,view,LB,p.sum,stt,RR,TR,p.hd.nxt,NX,S⟩,Hd.dig ⟨p.hd.hgt+1,EP,view,LB,p.sum,stt,RR,TR,p.hd.nxt,NX,S⟩,txs,D,t,p.nxt,N⟩:=by
 have hb:(!M.isEmpty)=LB:=by rw [←h2]; cases M<;>simp
 unfold Led.nextE Led.nextH;rw [hb,h1,h3,h4,h5,h6,h7,h8]
theorem led_int_cell {w:World} {B:Nat} {A:Option Addr} {l:List Nat} (h:Reads w B 1 A l.length (ints l)) {i:Nat} (hi:i<l.length):
  ∃ ad off,A=some ⟨ad,off,none⟩∧ad<B∧∀ w',Below B w w'→w'.cell? ⟨ad,off+i,none⟩=some (.int .i64 (l[i]:Int)):=by
 obtain ⟨ad,off,rfl,hbl,hcell⟩:=h.form (by omega) (by omega);refine ⟨ad,off,rfl,hbl,fun w' hb=> ?_⟩;have q:=hcell i (by rw [ints_length]; exact hi);simp only [ints,List.getElem_map] at q;exact (hb.cell (p:=⟨ad,off+i,none⟩) hbl).trans q
theorem h10_get {H10:List Value} (h:H10.length=10) (v:Value):(H10++ [v]).toArray[10]?=some v:=by
 rw [List.getElem?_toArray,List.getElem?_append_right (by omega),h]; rfl
theorem h10_set {H10:List Value} (h:H10.length=10) (v u:Value):(H10++ [v]).toArray.setIfInBounds 10 u=(H10++ [u]).toArray:=by
 rw [List.setIfInBounds_toArray,List.set_append_right _ _ (by omega),h]; rfl
structure LoopI (w w3 W:World) (L:List (Nat × Nat × Array Value)) (hb:Nat) (H10:List Value) (S:List (List UInt8)) (SA:Option Addr) (SC:Nat):Prop where
 own:W.ownsRow w3.heap.size 9 1 (.slice SA S.length SC) S.length (strv S)
 f3:Live w3 W [(hb,65,(H10++ [Value.slice SA S.length SC]).toArray)]
 f:Live w W ((hb,65,(H10++ [Value.slice SA S.length SC]).toArray)::L)
end
end Go.Proofs.YtnelhjfjkkdoaaaGreatDoor