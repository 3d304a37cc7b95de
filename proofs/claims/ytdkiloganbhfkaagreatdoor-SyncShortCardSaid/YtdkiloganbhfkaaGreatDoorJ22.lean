import Derived.Test.YtdkiloganbhfkaaGreatDoorJ21
set_option linter.unusedSimpArgs false
set_option linter.unusedVariables false
set_option maxHeartbeats 4000000
set_option maxRecDepth 100000
namespace Go.Proofs.YtdkiloganbhfkaaGreatDoor
section
open Go.RowKit Go.Instr
attribute [local go_sem] ba_get ByteArray.mk_append_mk
attribute [local go_sem ↓] Go.wp_at_zero Go.wp_at_succ
theorem IAt.nil (w:World):IAt w none 0 0 .nil:=⟨rfl,Nat.le_refl _,⟨0,World.ownsRow_nil _ _ _ _⟩⟩
theorem ref16_Genesis (w:World) (l:List Ex.Ac) (hs:∀ x∈l,x.1.length≤9223372036854775807) (A:Option Addr) (c:Nat) (HR:Reads w w.heap.size 3 A l.length (acells l)) (set:List Pw.Mem) (hm:∀ x∈set,x.1.length≤9223372036854775807) (B:Option Addr) (d:Nat) (HS:Reads w w.heap.size 2 B set.length (mcells set)):
  Calls Tryz.prog 70 #[.slice A l.length c,.slice B set.length d] w (DoIEnd w (Ex.genW l set).1 (Ex.genW l set).2):=by
 have HP:Hid (∀ t' cd A' n' c' w',Ex.genW l set=(t',cd)→Below w.heap.size w w'→(cd=0→IAt w' A' n' c' t'∧∀ a,A'=some a→w.heap.size≤a.block)→(cd≠0→n'=0)→DoIEnd w (Ex.genW l set).1 (Ex.genW l set).2 (.returned (.tuple #[.slice A' n' c',cd])) w'):=ι (fun t' cd A' n' c' w' e h1 h2 h3=>by rw [e]; exact ⟨A',n',c',rfl,h1,h2,h3⟩);generalize DoIEnd w (Ex.genW l set).1 (Ex.genW l set).2=P at HP ⊢;have HX:Hid (Ex.genW l set=if 8<l.length then (.nil,2) else if (Ex.genA .nil l).2≠0 then (.nil,(Ex.genA .nil l).2) else if Pw.okM set=false then (.nil,50)
  else (Trie.put (Ex.genA .nil l).1 (Nib.of Ex.sKey) (Pw.digM set),0)):=ι rfl
 generalize Ex.genW l set=X at *;by_cases h8:8<l.length
 ·have h8':(8:Int)<l.length:=by omega
  have HE:Hid (X=(.nil,2)):=ι (by rw [HX.out,if_pos h8]);clear HX h8 HR HS hs hm;go_enter Tryz.func70,Tryz.ntmps70
  go_wp2
  exact HP.out .nil 2 none 0 0 _ HE.out (Below.refl _ _) (fun h=>by cases h) (fun _=>rfl)
 have h8':((8:Int)<l.length)=False:=by simp; omega
 have HX:=ι (HX.out.trans (if_neg h8));have HL8:=ι (Nat.le_of_not_lt h8);have HRR:=ι HR;have HSl:=ι hs;have HCk:=ι (fun W (hW:Below w.heap.size w W)=>ref05_Check W set hm B d ((HS.below hW).more hW.size));have HDg:Hid (∀ W,Below w.heap.size w W→Calls Tryz.prog 72 #[.slice B set.length d] W (Ret W (.string ⟨(Pw.digM set).toArray⟩))):=ι (fun W hW=>ref05_Digest W set hm B d ((HS.below hW).more hW.size));have hDl:=ι (fun h=>Pw.digM_len (l:=set) h);generalize Pw.okM set=ok at *;generalize Pw.digM set=dg at *;have HGA:Hid (∀ t c,Ex.genA .nil l=(t,c)→c≠0→X=(.nil,c)):=ι (fun t c e hc=>by rw [HX.out,e,if_pos hc]);have HGB:Hid (∀ t,Ex.genA .nil l=(t,0)→X=if ok=false then (.nil,50) else (Trie.put t (Nib.of [115]) dg,0)):=ι (fun t e=>by rw [HX.out,e,if_neg (by simp)]; rfl);clear HR HS hs hm h8 HX;go_enter Tryz.func70,Tryz.ntmps70
 go_wp2_with fail
 refine wp_loop_ghost_k (fun k a wr=>∀ Φ:Act→Prop,(∀ ⦃s2 s3 s4 s5 s8 s9 s0 s1 s6 s7 a0 a2 a3 a4 a5 a6 a7 a8 a9 b0 b1 b2 b3 b4 b5 b6 b7 b8 b9 c0 c2 c3 c5 c6 c7 c8 c9 d0 d1 d2 d3 d4 d5 d6 d7 d8 d9 e0 e1 e2 e3 e4 e5 e6 e7 e8 e9 f0 f1 f2 f3 f4 f5 f6 f7 f8 f9 g0 g1 g2 g3 g4 g5 g6 g7 g8 g9:Value⦄ (i:Nat) (t:Trie.T) (I:Option Addr) (n1:Nat) (c1:Nat),(i+k=l.length∧Ex.genA .nil l=Ex.genA t (l.drop i)∧Trie.count t≤i∧Trie.Good t∧IAt wr I n1 c1 t∧Below w.heap.size w wr)→Φ {tmps:=#[.slice A l.length c,.slice B set.length d,s2,s3,s4,s5,.slice I n1 c1,.int .i64 (i:Int),s8,s9,s0,s1,s6,s7,a0,a2,a3,a4,a5,a6,a7,a8,a9,b0,b1,b2,b3,b4,b5,b6,b7,b8,b9,c0,c2,c3,c5,c6,c7,c8,c9,d0,d1,d2,d3,d4,d5,d6,d7,d8,d9,e0,e1,e2,e3,e4,e5,e6,e7,e8,e9,f0,f1,f2,f3,f4,f5,f6,f7,f8,f9,g0,g1,g2,g3,g4,g5,g6,g7,g8,g9],defers:= []})→Φ a) (l.length) ?_ ?_
 ·refine fun Φ hΦ=>hΦ (0) (.nil) (none) (0) (0) ?_;exact ⟨by omega,rfl,by simp [Trie.count],Trie.Good.nil,IAt.nil _,Below.refl _ _⟩
 ·intro k1 a1 wr1 hI1 J1 K1 hJ1 hK1;refine hI1 (fun a=>Code.wp _ _ _ a _) ?_;clear hI1 a1;iterate 77 (intro _)
  intro i t I n1 c1 hrel
  show Code.wp _ _ _ _ _;obtain ⟨h1,h2,h3,hg,hI,hb⟩:=hrel;by_cases hi:i<l.length
  ·obtain ⟨ad,off,rfl,hbl,hcell⟩:=ac_cells HRR.out hi;obtain ⟨r0,r1,r2⟩:=hcell _ hb;have hi1:(i:Int)<l.length:=by omega
   have hi0:(0:Int)≤i:=by omega
   have hi8:(i:Int)<8:=by have:=HL8.out; omega
   have hd:l.drop i=l[i]::l.drop (i+1):=List.drop_eq_getElem_cons hi;have hlen:=HSl.out _ (List.getElem_mem hi);rw [hd] at h2;have HI:=ι (And.intro h1 (And.intro h2 (And.intro h3 (And.intro hg (And.intro hI hb)))));have HC:=ι hcell;clear h1 h2 h3 hg hI hb hcell hd hbl;generalize l[i]=x at *;obtain ⟨n,am,sq⟩:=x;simp only at r0 r1 r2 hlen HC;have HQ0:Hid (Ex.genA t ((n,am,sq)::l.drop (i+1))=if Ex.okA (n,am,sq)=false then (t,1) else if (Trie.getW t (97::58::n)).2=0 then (t,6) else Ex.genA (Trie.put t (Nib.of (97::58::n)) (Ex.writA (am.toNat,sq.toNat))) (l.drop (i+1))):=ι rfl;have HA:Hid (Ex.okA (n,am,sq)=(Ex.nameW n && (decide (0≤am) && decide (am≤1099511627776)) && (decide (0≤sq) && decide (sq≤1099511627776)))):=ι rfl;have HN:=ι (fun W=>ref15_Name n hlen W);have HWa:=ι (fun W=>ref16_within am W);have HWs:=ι (fun W=>ref16_within sq W);cases hn:Ex.nameW n with
   |false=>
    have HE:Hid (X=(.nil,1)):=ι (HGA.out t 1 (HI.out.2.1.trans (by rw [HQ0.out,HA.out,hn]; rfl)) (by decide));rw [hn] at HN;clear hn HA HQ0;go_wp2_with fail
    refine (HN.out _).mono ?_;rintro e w2 ⟨rfl,rfl⟩;go_wp2_with fail
    exact HP.out .nil 1 none 0 0 _ HE.out HI.out.2.2.2.2.2 (fun h=>by cases h) (fun _=>rfl)
   |true=>
   rw [hn] at HN HA;rw [Bool.true_and] at HA;have hn6:=(Ex.nameW_len hn).2;clear hn;go_wp2_with fail
   refine (HN.out _).mono ?_;rintro e w2 ⟨rfl,rfl⟩;cases ha:(decide (0≤am) && decide (am≤1099511627776)) with
   |false=>
    have HE:Hid (X=(.nil,1)):=ι (HGA.out t 1 (HI.out.2.1.trans (by rw [HQ0.out,HA.out,ha]; rfl)) (by decide));rw [ha] at HWa;clear ha HA HQ0;go_wp2_with fail
    refine (HWa.out _).mono ?_;rintro e w2 ⟨rfl,rfl⟩;go_wp2_with fail
    exact HP.out .nil 1 none 0 0 _ HE.out HI.out.2.2.2.2.2 (fun h=>by cases h) (fun _=>rfl)
   |true=>
   rw [ha] at HWa HA;rw [Bool.true_and] at HA;simp only [Bool.and_eq_true,decide_eq_true_eq] at ha;go_wp2_with fail
   refine (HWa.out _).mono ?_;rintro e w2 ⟨rfl,rfl⟩;cases hq:(decide (0≤sq) && decide (sq≤1099511627776)) with
   |false=>
    have HE:Hid (X=(.nil,1)):=ι (HGA.out t 1 (HI.out.2.1.trans (by rw [HQ0.out,HA.out,hq]; rfl)) (by decide));rw [hq] at HWs;clear hq HA HQ0;go_wp2_with fail
    refine (HWs.out _).mono ?_;rintro e w2 ⟨rfl,rfl⟩;go_wp2_with fail
    exact HP.out .nil 1 none 0 0 _ HE.out HI.out.2.2.2.2.2 (fun h=>by cases h) (fun _=>rfl)
   |true=>
   rw [hq] at HWs HA;simp only [Bool.and_eq_true,decide_eq_true_eq] at hq;go_wp2_with fail
   refine (HWs.out _).mono ?_;rintro e w2 ⟨rfl,rfl⟩;have HQ1:=ι (HQ0.out.trans (by rw [HA.out,if_neg (by decide)]));obtain ⟨a,rfl⟩:=Int.eq_ofNat_of_zero_le ha.1;obtain ⟨q,rfl⟩:=Int.eq_ofNat_of_zero_le hq.1;simp only [Int.toNat_natCast] at HQ1;have HAt:Hid (Calls Tryz.prog 101 #[.slice I n1 c1,.string ⟨(97::58::n).toArray⟩] wr1 (AtIEnd wr1 (Trie.itemsW t) (97::58::n))):=ι (by
    have h:=HI.out.2.2.2.2.1
    have:=ref10_At wr1 I c1 (Trie.itemsW t) (h.hn ▸ h.hr) (by rw [items_len]; have:=HI.out.2.2.1; omega) (97::58::n)
    rwa [←h.hn] at this)
   obtain ⟨hat1,hat2⟩:=at_getW HI.out.2.2.2.1 (k:=97::58::n) (Ex.keyed_a hn6);have HV:Hid (∀ W,Calls Tryz.prog 103 #[.agg #[n,a,q]] W (Ret W (.string ⟨(Ex.writA (a,q)).toArray⟩))):=ι (fun W=>ref16_Value W n a q (by omega) (by omega));have hpc:=Ex.putCode_a (n:=n) hn6 (p:=(a,q)) (by simp only; omega) (by simp only; omega);have HPt:Hid (∀ W,Below wr1.heap.size wr1 W→Calls Tryz.prog 102 #[.slice I n1 c1,.string ⟨(97::58::n).toArray⟩,.string ⟨(Ex.writA (a,q)).toArray⟩] W (DoIEnd W (Trie.put t (Nib.of (97::58::n)) (Ex.writA (a,q))) 0)):=ι (fun W hW=>items_Put W t HI.out.2.2.2.1 (by have:=HI.out.2.2.1; omega) I n1 c1 (HI.out.2.2.2.2.1.next hW) _ _ hpc (by simp only [List.length_cons]; omega) (by have:=(Ex.writA_len (p:=(a,q)) (by simp only; omega) (by simp only; omega)).2; omega));have HCn:Hid (Trie.count (Trie.put t (Nib.of (97::58::n)) (Ex.writA (a,q)))≤i+1∧Trie.Good (Trie.put t (Nib.of (97::58::n)) (Ex.writA (a,q)))):=ι ⟨by have:=Trie.count_put t (Nib.of (97::58::n)) (Ex.writA (a,q)); have:=HI.out.2.2.1; omega,Ex.good_putA HI.out.2.2.2.1 hn6 (by simp only; omega) (by simp only; omega)⟩;have hsum:2+n.length≤9223372036854775807:=by omega
   have hsum2:n.length+2≤9223372036854775807:=by omega
   have hsum3:n.length+1+1≤9223372036854775807:=by omega
   have hnl1:(9223372036854775807<2+n.length)=False:=by simp; omega
   have hnl2:(9223372036854775807<n.length+2)=False:=by simp; omega
   have hnl3:(9223372036854775807<n.length+1+1)=False:=by simp; omega
   clear hpc ha hq HA HQ0 HN HWa HWs hlen hn6;generalize Ex.writA (a,q)=wt at *;generalize Trie.put t (Nib.of (97::58::n)) wt=t2 at *;unfold AtIEnd at HAt;cases hb2:(Trie.atI (97::58::n) (Trie.itemsW t)).2 with
   |true=>
    obtain ⟨_,hrv⟩:=hat1 hb2;have HE:Hid (X=(.nil,6)):=ι (HGA.out t 6 (HI.out.2.1.trans (by rw [HQ1.out,if_pos (by rw [hrv])])) (by decide));rw [hb2] at HAt;generalize (Trie.atI (97::58::n) (Trie.itemsW t)).1=ix at *;clear HQ1 hat1 hat2 hb2 hrv;go_wp2_with fail
    refine HAt.out.mono ?_;rintro e w2 ⟨rfl,hb⟩;have B2:=ι (HI.out.2.2.2.2.2.nxt hb);clear hb;go_wp2_with fail
    exact HP.out .nil 6 none 0 0 _ HE.out B2.out (fun h=>by cases h) (fun _=>rfl)
   |false=>
   have HQ:=ι (HQ1.out.trans (if_neg (by rw [hat2 hb2]; decide)));rw [hb2] at HAt;generalize (Trie.atI (97::58::n) (Trie.itemsW t)).1=ix at *;clear HQ1 hat1 hat2 hb2;go_wp2_with fail
   refine HAt.out.mono ?_;rintro e w2 ⟨rfl,hb⟩;have F:=Live.hb (ι (Live.start wr1)) hb;clear hb r0 r1 r2 HAt;obtain ⟨r0,r1,r2⟩:=HC.out _ (HI.out.2.2.2.2.2.nxt F.out.b);go_upto_region 12 with fail
   go_region_held3 (fun w'=>w'.cell? ⟨ad,off+i*3,none⟩=some (n:Value)∧w'.cell? ⟨ad,off+i*3+1,none⟩=some (.int .i64 (a:Int))∧w'.cell? ⟨ad,off+i*3+2,none⟩=some (.int .i64 (q:Int))) (first|go_keep|(refine ⟨?_,?_,?_⟩<;>assumption)) (first|(go_at_call 103; ((with_reducible refine (HV.out _).mono ?_); (rintro e w3 ⟨rfl,hb⟩; (first|have F:=Live.hb F hb|have F:=Live.hbd F hb); clear hb; obtain ⟨r0,r1,r2⟩:=HC.out _ (HI.out.2.2.2.2.2.nxt F.out.b))))|(go_at_call 102; ((with_reducible refine (HPt.out _ ?_).mono ?_); (first|exact F.out.b|exact F.out.b.drew); (rintro e w4 ⟨A4,n4,c4,rfl,hb,hI4,_⟩; have K4:=ι (hI4 rfl).1; (first|have F:=Live.hb F hb|have F:=Live.hbd F hb); clear hb hI4; obtain ⟨r0,r1,r2⟩:=HC.out _ (HI.out.2.2.2.2.2.nxt F.out.b)))))
   all_goals go_wp2_with fail
   all_goals
    refine Handed.intro (l.length - (i+1)) ?_ (hJ1 _ _ _ (fun Φ hΦ=>hΦ (i+1) (t2) (A4) (n4) (c4) ?_))
    ·have:=HI.out.1; omega
    exact ⟨by have:=HI.out.1; omega,HI.out.2.1.trans HQ.out,HCn.out.1,HCn.out.2,K4.out,HI.out.2.2.2.2.2.nxt F.out.b⟩
  ·have hi1:((i:Int)<l.length)=False:=by simp; omega
   have HGe:Hid (Ex.genA .nil l=(t,0)):=ι (by rw [h2,List.drop_of_length_le (by omega)]; rfl);have HE:=ι (HGB.out t HGe.out);have HI:=ι (And.intro h3 (And.intro hg (And.intro hI hb)));have HCk1:=ι (HCk.out _ hb);have HDg1:=ι (fun W (hW:Below wr1.heap.size wr1 W)=>HDg.out W (hb.nxt hW));have HiL:Hid (i≤8):=ι (by have:=HL8.out; omega);clear h1 h2 h3 hg hI hb hi HGA HGB HGe HCk HDg;cases ok with
   |false=>
    rw [if_pos rfl] at HE;unfold codeM at HCk1;simp only [Bool.false_eq_true,if_false] at HCk1;go_wp2_with fail
    refine HCk1.out.mono ?_;rintro e w2 ⟨rfl,hb⟩;have B2:=ι hb;clear hb;go_wp2_with fail
    exact HP.out .nil 50 none 0 0 _ HE.out (HI.out.2.2.2.nxt B2.out) (fun h=>by cases h) (fun _=>rfl)
   |true=>
    rw [if_neg (by decide)] at HE;unfold codeM at HCk1;simp only [if_true] at HCk1;have hdl:=hDl.out rfl;have hpc:Trie.putCode [115] dg=0:=Ex.putCode_v (k:= [115]) (v:=dg) rfl (by omega) (by omega);have HPt:Hid (∀ W,Below wr1.heap.size wr1 W→Calls Tryz.prog 102 #[.slice I n1 c1,.string ⟨#[115]⟩,dg] W (DoIEnd W (Trie.put t (Nib.of [115]) dg) 0)):=ι (fun W hW=>items_Put W t HI.out.2.1 (by have:=HI.out.1; have:=HiL.out; omega) I n1 c1 (HI.out.2.2.1.next hW) [115] dg hpc (by simp) (by omega));clear hpc hdl hDl;go_wp2_with fail
    refine HCk1.out.mono ?_;rintro e w2 ⟨rfl,hb⟩;have B2:=ι hb;clear hb;go_wp2_with fail
    refine (HDg1.out _ B2.out).mono ?_;rintro e w3 ⟨rfl,hb⟩;have B3:=ι (B2.out.nxt hb);clear hb B2;go_wp2_with fail
    refine (HPt.out _ B3.out).mono ?_;rintro e w4 ⟨A4,n4,c4,rfl,hb,hI4,_⟩;have B4:=ι (HI.out.2.2.2.nxt (B3.out.nxt hb));have K4:Hid (IAt w4 A4 n4 c4 (Trie.put t (Nib.of [115]) dg)∧∀ a,A4=some a→w.heap.size≤a.block):=ι ⟨(hI4 rfl).1,fun a e=>Nat.le_trans (HI.out.2.2.2.nxt B3.out).size ((hI4 rfl).2 a e)⟩;clear hb hI4;go_wp2_with fail
    exact HP.out _ 0 _ _ _ _ HE.out B4.out (fun _=>K4.out) (fun h=>absurd rfl h)
def RAllL (w:World) (l:List TxM) (r:(Trie.T × List Ex.Rc × List Pw.Mem) × Nat) (e:Ending) (w':World):Prop:=
 ∃ I n c R c2 B d,e= .returned (.tuple #[.agg #[.slice I n c,.slice R r.1.2.1.length c2,.slice B r.1.2.2.length d],r.2])∧Below w.heap.size w w'∧(r.2=0→IAt w' I n c r.1.1)∧
  w'.ownsRow w.heap.size 225 3 (.slice R r.1.2.1.length c2) r.1.2.1.length (rcs r.1.2.1)∧(r.1.2.2= []∨∃ p∈l,B=p.2.1∧r.1.2.2=p.1.mem)
theorem Ex.doL_same {t:Trie.T} {x:Ex.Tx} (h:(Ex.doL t x).2≠0):(Ex.doL t x).1=t:=by
 unfold Ex.doL at h ⊢
 split
 ·rfl
 split
 ·rfl
 split
 ·rfl
 rename_i h1 h2 h3;rw [if_neg h1,if_neg h2,if_neg h3] at h;exact absurd rfl h
theorem ref16_AllL (w:World) (t:Trie.T) (hg:Trie.Good t) (hcn:Trie.count t≤1024) (A0:Option Addr) (n c0:Nat) (HI:IAt w A0 n c0 t) (l:List TxM) (A:Option Addr) (c:Nat) (HL:TxsAt w A l):
  Calls Tryz.prog 108 #[.slice A0 n c0,.slice A l.length c] w (RAllL w l (Ex.allL t (l.map (·.1)))):=by
 have HPe:Hid (∀ (cd:Nat) w',Ex.allL t (l.map (·.1))=((.nil,[],[]),cd)→cd≠0→Below w.heap.size w w'→RAllL w l (Ex.allL t (l.map (·.1))) (.returned (.tuple #[.agg #[ν,ν,ν],cd])) w'):=ι (fun cd w' e hc hb=>by
  rw [e]; exact ⟨_,0,0,none,0,none,0,rfl,hb,fun h=>absurd h hc,World.ownsRow_nil _ _ _ _,.inl rfl⟩)
 have HPo:Hid (∀ t' D M I n c R c2 B d w',Ex.allL t (l.map (·.1))=((t',D,M),0)→Below w.heap.size w w'→IAt w' I n c t'→w'.ownsRow w.heap.size 225 3 (.slice R D.length c2) D.length (rcs D)→(M= []∨∃ p∈l,B=p.2.1∧M=p.1.mem)→RAllL w l (Ex.allL t (l.map (·.1))) (.returned (.tuple #[.agg #[.slice I n c,.slice R D.length c2,.slice B M.length d],ζ])) w'):=ι (fun t' D M I n c R c2 B d w' e hb h1 h2 h3=>by
  rw [e]; exact ⟨I,n,c,R,c2,B,d,rfl,hb,fun _=>h1,h2,h3⟩)
 generalize RAllL w l (Ex.allL t (l.map (·.1)))=P at HPe HPo ⊢;have HX:Hid (Ex.allL t (l.map (·.1))=if 8<l.length then ((.nil,[],[]),2) else if (l.all fun p=>Ex.fineX p.1)=false then ((.nil,[],[]),150) else (Ex.allGoL t (l.map (·.1)) [],0)):=ι (by unfold Ex.allL; rw [List.length_map,List.all_map]; rfl);generalize Ex.allL t (l.map (·.1))=X at *;have HLL:=ι HL;have HIt:=ι (And.intro hg (And.intro hcn HI));clear HL hg hcn HI;go_enter Tryz.func108,Tryz.ntmps108
 go_upto_region 1 with fail
 have F0:=Live.ha (ι (Live.start w)) #[ν,ν,ν] 181;generalize World.alloc w _=W0 at F0 ⊢;generalize w.heap.size=rb at F0 ⊢;by_cases h8:8<l.length
 ·have h8':(8:Int)<l.length:=by omega
  have HE:Hid (X=((.nil,[],[]),2)):=ι (by rw [HX.out,if_pos h8]);clear HX h8;have r0:=(F0.out.blk 0 rfl).d0;have r1:=(F0.out.blk 0 rfl).d1;have r2:=(F0.out.blk 0 rfl).d2;have f0:=F0.out.frozen 0 0 rfl;have f1:=F0.out.frozen 0 1 rfl;have f2:=F0.out.frozen 0 2 rfl;go_wp2_with fail
  have F9:Hid (Live w (((W0.setCell ⟨rb,0,none⟩ (.slice none 0 0)).setCell ⟨rb,1,none⟩ (.slice none 0 0)).setCell ⟨rb,2,none⟩ (.slice none 0 0)) [(rb,181,#[ν,ν,ν])]):=ι (((F0.out.set 0 0 _ rfl).set 0 1 _ rfl).set 0 2 _ rfl);generalize ((W0.setCell ⟨rb,0,none⟩ (.slice none 0 0)).setCell ⟨rb,1,none⟩ (.slice none 0 0)).setCell ⟨rb,2,none⟩ (.slice none 0 0)=W9 at F9 ⊢;have s0:=(F9.out.blk 0 rfl).d0;have s1:=(F9.out.blk 0 rfl).d1;have s2:=(F9.out.blk 0 rfl).d2
  (try simp only [Exit.inBlock,Exit.then])
  refine bodyPost_ret (v:= .tuple #[.agg #[ν,ν,ν],.int .i64 ((2:Nat):Int)]) (by simp [results,Tryz.results108,go_sem,s0,s1,s2]) rfl ?_;exact HPe.out 2 _ HE.out (by decide) F9.out.b
 have h8':((8:Int)<l.length)=False:=by simp; omega
 have HX:=ι (HX.out.trans (if_neg h8));have HL8:=ι (Nat.le_of_not_lt h8);clear h8;go_wp2_with fail
 refine wp_loop_ghost_k (fun k a wr=>∀ Φ:Act→Prop,(∀ ⦃s2 s3 s5 s7 s8 s9 a0 a3 a4 a5 a6 a7 a8 a9 b0 b1 b2 b3 b4 b5 b6 b7 b8 b9 c5 c6 c7 c9 d3 d4 d5 d6 d8 d9 e0 e1 e2 e3 e4 e5 e6 e7 e8 e9 f3 f4 f5 f6 f7 f8 f9 g0 g1 g2 g3 g4 g5 g6 g7 g8 g9 h0 h5 h6 h7 h9:Value⦄ (i:Nat),(i+k=l.length∧(l.take i).all (fun p=>Ex.fineX p.1)=true∧Live w wr [(rb,181,#[ν,ν,ν])])→Φ {tmps:=#[.slice A0 n c0,.slice A l.length c,s2,s3,.pointer (some ⟨rb,0,none⟩),s5,.int .i64 (i:Int),s7,s8,s9,a0,a3,a4,a5,a6,a7,a8,a9,b0,b1,b2,b3,b4,b5,b6,b7,b8,b9,c5,c6,c7,c9,d3,d4,d5,d6,d8,d9,e0,e1,e2,e3,e4,e5,e6,e7,e8,e9,f3,f4,f5,f6,f7,f8,f9,g0,g1,g2,g3,g4,g5,g6,g7,g8,g9,h0,h5,h6,h7,h9],defers:= []})→Φ a) (l.length) ?_ ?_
 ·refine fun Φ hΦ=>hΦ (0) ?_;exact ⟨by omega,rfl,F0.out⟩
 ·intro k1 a1 wr1 hI1 J1 K1 hJ1 hK1;refine hI1 (fun a=>Code.wp _ _ _ a _) ?_;clear hI1 a1;intro s0 s1 s2 s3 s4 s5 s6 s7 s8 s9 a0 a3 a4 a5 a6 a7 a8 a9 b0 b1 b2 b3 b4 b5 b6 b7 b8 b9 c5 c6 c7 c9 d3 d4 d5 d6 d8 d9 e0 e1 e2 e3 e4 e5 e6 e7 e8 e9 f3 f4 f5 f6 f7 f8 f9 g0 g1 g2 g3 g4 g5 g6 g7 g8 g9 h0 i hrel
  show Code.wp _ _ _ _ _;obtain ⟨h1,h2,hF⟩:=hrel;by_cases hi:i<l.length
  ·have HI:=ι (And.intro h1 (And.intro h2 hF));have HLi:=ι (HLL.out.next hF.b);obtain ⟨ad,off,rfl,hbl,hcell⟩:=tx_cells HLi.out.r hi;obtain ⟨r0,r1,r2,r3,r4,r5,r6,r7⟩:=hcell _ (Below.refl _ _);have hi1:(i:Int)<l.length:=by omega
   have hi0:(0:Int)≤i:=by omega
   have hi8:(i:Int)<8:=by have:=HL8.out; omega
   have ht:=HLi.out.t _ (List.getElem_mem hi);have hm:=HLi.out.m _ (List.getElem_mem hi);have HStep:=ι (all_take hi h2);have HNo:Hid (Ex.fineX l[i].1=false→(l.all fun p=>Ex.fineX p.1)=false):=ι (fun hx=>by
    rw [List.all_eq_false]; exact ⟨_,List.getElem_mem hi,by rw [hx]; decide⟩)
   clear h1 h2 hF hcell hbl;generalize l[i]=p at *;obtain ⟨⟨kd,fr,sq,dt,am,ky,vl,mm⟩,mA,mc⟩:=p;simp only at r0 r1 r2 r3 r4 r5 r6 r7 HStep HNo hm;obtain ⟨o1,o2,o3,o4,o5⟩:=ht;simp only at o1 o2 o3 o4 o5;have HCk:=ι (ref15_Fine wr1 kd fr sq dt am ky vl mm mA mc ⟨o1,o2,o3,o4,o5⟩ hm);clear o1 o2 o3 o4 o5 hm;generalize Ex.fineX ⟨kd,fr,sq,dt,am,ky,vl,mm⟩=fx at *;go_wp2_with fail
   refine HCk.out.mono ?_;rintro e w2 ⟨rfl,hb⟩;have F2:=Live.hb (ι HI.out.2.2) hb;clear hb HCk r0 r1 r2 r3 r4 r5 r6 r7;cases fx with
   |false=>
    have HE:Hid (X=((.nil,[],[]),150)):=ι (by rw [HX.out,if_pos (HNo.out rfl)]);clear HX HStep HNo;have r0:=(F2.out.blk 0 rfl).d0;have r1:=(F2.out.blk 0 rfl).d1;have r2:=(F2.out.blk 0 rfl).d2;have f0:=F2.out.frozen 0 0 rfl;have f1:=F2.out.frozen 0 1 rfl;have f2:=F2.out.frozen 0 2 rfl;go_wp2_with fail
    have F9:Hid (Live w (((w2.setCell ⟨rb,0,none⟩ (.slice none 0 0)).setCell ⟨rb,1,none⟩ (.slice none 0 0)).setCell ⟨rb,2,none⟩ (.slice none 0 0)) [(rb,181,#[ν,ν,ν])]):=ι (((F2.out.set 0 0 _ rfl).set 0 1 _ rfl).set 0 2 _ rfl);generalize ((w2.setCell ⟨rb,0,none⟩ (.slice none 0 0)).setCell ⟨rb,1,none⟩ (.slice none 0 0)).setCell ⟨rb,2,none⟩ (.slice none 0 0)=W9 at F9 ⊢;have s0:=(F9.out.blk 0 rfl).d0;have s1:=(F9.out.blk 0 rfl).d1;have s2:=(F9.out.blk 0 rfl).d2
    (try simp only [Exit.inBlock,Exit.then])
    refine bodyPost_ret (v:= .tuple #[.agg #[ν,ν,ν],.int .i64 ((150:Nat):Int)]) (by simp [results,Tryz.results108,go_sem,s0,s1,s2]) rfl ?_;exact HPe.out 150 _ HE.out (by decide) F9.out.b
   |true=>
    go_wp2_with fail
    refine Handed.intro (l.length - (i+1)) ?_ (hJ1 _ _ _ (fun Φ hΦ=>hΦ (i+1) ?_))
    ·have:=HI.out.1; omega
    exact ⟨by have:=HI.out.1; omega,HStep.out (by first|exact trivial|rfl),F2.out⟩
  ·have hi1:((i:Int)<l.length)=False:=by simp; omega
   have HE:Hid (X=(Ex.allGoL t (l.map (·.1)) [],0)):=ι (by
    rw [HX.out,if_neg];rw [List.take_of_length_le (by omega)] at h2;rw [h2]; decide)
   have F1:=ι hF;clear h1 h2 hF hi HX;go_upto_region 9 with fail
   have F2:=Live.ha F1 #[.slice A0 n c0,ν,ν] 181;generalize World.alloc wr1 _=w2 at F2 ⊢;generalize wr1.heap.size=db at F2 ⊢;clear F1;go_wp2_with fail
   refine wp_loop_ghost_k (fun k a wr=>∀ Φ:Act→Prop,(∀ ⦃s0 s2 s3 s5 s6 s9 a0 a3 a4 a5 a6 a7 a8 a9 b0 b1 b2 b3 b4 b5 b6 b7 b8 b9 c5 c6 c7 c9 d3 d4 d5 d6 d8 d9 e0 e1 e2 e3 e4 e5 e6 e7 e8 e9 f3 f4 f5 f6 f7 f8 f9 g0 g1 g2 g3 g4 g5 g6 g7 g8 g9 h0 h5 h6 h7 h9:Value⦄ (i:Nat) (t2:Trie.T) (I:Option Addr) (n1 c1:Nat) (D:List Ex.Rc) (rA:Option Addr) (rc:Nat) (M:List Pw.Mem) (mB:Option Addr) (md:Nat),(i+k=l.length∧X=(((Ex.allGoL t2 ((l.drop i).map (·.1)) M).1,D++(Ex.allGoL t2 ((l.drop i).map (·.1)) M).2.1,(Ex.allGoL t2 ((l.drop i).map (·.1)) M).2.2),0)∧D.length=i∧Trie.count t2≤1024∧Trie.Good t2∧IAt wr I n1 c1 t2∧wr.ownsRow w.heap.size 225 3 (.slice rA D.length rc) D.length (rcs D)∧(M= []∨∃ p∈l,mB=p.2.1∧M=p.1.mem)∧Live w wr [(db,181,#[.slice I n1 c1,.slice rA D.length rc,.slice mB M.length md]),(rb,181,#[ν,ν,ν])])→Φ {tmps:=#[s0,.slice A l.length c,s2,s3,.pointer (some ⟨rb,0,none⟩),s5,s6,.pointer (some ⟨db,0,none⟩),.int .i64 (i:Int),s9,a0,a3,a4,a5,a6,a7,a8,a9,b0,b1,b2,b3,b4,b5,b6,b7,b8,b9,c5,c6,c7,c9,d3,d4,d5,d6,d8,d9,e0,e1,e2,e3,e4,e5,e6,e7,e8,e9,f3,f4,f5,f6,f7,f8,f9,g0,g1,g2,g3,g4,g5,g6,g7,g8,g9,h0,h5,h6,h7,h9],defers:= []})→Φ a) (l.length) ?_ ?_
   ·refine fun Φ hΦ=>hΦ (0) (t) (A0) (n) (c0) ([]) (none) (0) ([]) (none) (0) ?_;exact ⟨by omega,HE.out,rfl,HIt.out.2.1,HIt.out.1,HIt.out.2.2.next F2.out.b,World.ownsRow_nil _ _ _ _,.inl rfl,F2.out⟩
   ·intro k2 a2 wr2 hI2 J2 K2 hJ2 hK2;refine hI2 (fun a=>Code.wp _ _ _ a _) ?_;clear hI2 a2;intro s0 s1 s2 s3 s4 s5 s6 s7 s8 s9 a0 a3 a4 a5 a6 a7 a8 a9 b0 b1 b2 b3 b4 b5 b6 b7 b8 b9 c5 c6 c7 c9 d3 d4 d5 d6 d8 d9 e0 e1 e2 e3 e4 e5 e6 e7 e8 e9 f3 f4 f5 f6 f7 f8 f9 g0 g1 g2 g3 g4 g5 g6 g7 g8 g9 h0 i t2 I n1 c1 D rA rc M mB md hrel
    show Code.wp _ _ _ _ _;obtain ⟨h1,h2,h3,h4,hgd,hI,hD,hM,hF⟩:=hrel;have k0_0:wr2.cell? ⟨db,0,none⟩=some (.slice I n1 c1):=hF.cell 0 0 rfl rfl;by_cases hi:i<l.length
    ·have HI:=ι (And.intro h1 (And.intro h4 (And.intro hgd (And.intro hI (And.intro hD hM)))));have HLi:=ι (HLL.out.next hF.b);obtain ⟨ad,off,rfl,hbl,hcell⟩:=tx_cells HLi.out.r hi;obtain ⟨r0,r1,r2,r3,r4,r5,r6,r7⟩:=hcell _ (Below.refl _ _);have hi1:(i:Int)<l.length:=by omega
     have hi0:(0:Int)≤i:=by omega
     have hi8:(i:Int)<8:=by have:=HL8.out; omega
     have ht:=HLi.out.t _ (List.getElem_mem hi);have hm:=HLi.out.m _ (List.getElem_mem hi);have hm0:l[i].1.mem= []∨∃ p∈l,l[i].2.1=p.2.1∧l[i].1.mem=p.1.mem:= .inr ⟨l[i],List.getElem_mem hi,rfl,rfl⟩;have hd:l.drop i=l[i]::l.drop (i+1):=List.drop_eq_getElem_cons hi;have HDl:=ι h3;have hDl8:D.length<8:=by omega
     rw [hd,List.map_cons] at h2;have HH1:=ι h2;have F0:=ι hF;clear h1 h2 h3 h4 hgd hI hD hM hF hcell hbl hd;generalize l[i]=p at *;generalize hrest:(l.drop (i+1)).map (·.1)=rest at *;have HRest:=ι hrest;clear hrest;obtain ⟨⟨kd,fr,sq,dt,am,ky,vl,mm⟩,mA,mc⟩:=p;simp only at r0 r1 r2 r3 r4 r5 r6 r7 HH1 hm hm0;obtain ⟨o1,o2,o3,o4,o5⟩:=ht;simp only at o1 o2 o3 o4 o5;have HM0:=ι hm0;have HDo:=ι (fun W (hW:Below wr2.heap.size wr2 W)=>ref16_DoL W t2 HI.out.2.2.1 HI.out.2.1 I n1 c1 (HI.out.2.2.2.1.next hW) kd fr sq dt am ky vl mm mA mc ⟨o1,o2,o3,o4,o5⟩ ((hm.below hW).more hW.size));have hsame:=Ex.doL_same (t:=t2) (x:=⟨kd,fr,sq,dt,am,ky,vl,mm⟩);have hcnt:=Ex.doL_good HI.out.2.2.1 HI.out.2.1 ⟨kd,fr,sq,dt,am,ky,vl,mm⟩;have HH2:Hid (X=(((Ex.allGoL (Ex.doL t2 ⟨kd,fr,sq,dt,am,ky,vl,mm⟩).1 rest (if (Ex.doL t2 ⟨kd,fr,sq,dt,am,ky,vl,mm⟩).2=0∧kd=4 then mm else M)).1,(D++ [(((Ex.doL t2 ⟨kd,fr,sq,dt,am,ky,vl,mm⟩).2:Int),fr,sq)])++(Ex.allGoL (Ex.doL t2 ⟨kd,fr,sq,dt,am,ky,vl,mm⟩).1 rest (if (Ex.doL t2 ⟨kd,fr,sq,dt,am,ky,vl,mm⟩).2=0∧kd=4 then mm else M)).2.1,(Ex.allGoL (Ex.doL t2 ⟨kd,fr,sq,dt,am,ky,vl,mm⟩).1 rest (if (Ex.doL t2 ⟨kd,fr,sq,dt,am,ky,vl,mm⟩).2=0∧kd=4 then mm else M)).2.2),0)):=ι (by
      rw [HH1.out,List.append_assoc]; rfl)
     clear HH1;have HSame:=ι hsame;have HCnt:=ι hcnt;clear o1 o2 o3 o4 o5 hm hm0 hsame hcnt;generalize Ex.doL t2 ⟨kd,fr,sq,dt,am,ky,vl,mm⟩=dr at *;obtain ⟨t3,cd⟩:=dr;simp only at HDo HH2 HSame HCnt;go_upto_region 13 with fail
     have F1:=Live.ha F0 #[kd,fr,sq,dt,am,ky,vl,.slice mA mm.length mc] 101;have BB1:Hid (Below wr2.heap.size wr2 (wr2.alloc (.cells #[kd,fr,sq,dt,am,ky,vl,.slice mA mm.length mc] 101))):=ι ((Below.refl _ wr2).alloc (Nat.le_refl _) _);generalize World.alloc wr2 _=W1 at F1 BB1 ⊢;generalize wr2.heap.size=xb at F1 ⊢;clear r0 r1 r2 r3 r4 r5 r6 r7 F0 k0_0;have k1_0:=(F1.out.blk 1 rfl).d0;obtain ⟨k0_0,k0_1,k0_2,k0_3,k0_4,k0_5,k0_6,k0_7⟩:=(F1.out.blk 0 rfl).c8;go_wp2_with fail
     refine (HDo.out _ BB1.out).mono ?_;rintro e w3 ⟨I3,n3,c3,rfl,hb,hk3,_⟩;have F3:=Live.hb F1 hb;have BB3:=ι (BB1.out.nxt hb);have K3:=ι (fun e=>(hk3 e).1);clear hb hk3 F1 BB1 k1_0 k0_0 k0_1 k0_2 k0_3 k0_4 k0_5 k0_6 k0_7 HDo;have O3:=ι (own_below HI.out.2.2.2.2.1 BB3.out);have T3:=ι (HI.out.2.2.2.1.next BB3.out);have k0_1:=(F3.out.blk 0 rfl).d1;have k0_2:=(F3.out.blk 0 rfl).d2;have k1_1:=(F3.out.blk 1 rfl).d1;have fz1:=F3.out.frozen 1 1 rfl;go_upto_region 15 with (at_builtin; refine wpList_append_new w3 225 [cd,fr,sq] rfl _ _ 43 rfl w.heap.size 3 32 _ info_rc Tryz.underlying43 rfl (by decide) (.slice rA D.length rc) D.length (rcs D) rfl O3.out 1 1 rfl rfl (by simp [Value.oneCell']) (by simp only [maxLen]; omega) (by omega) w.heap.size w F3.out.b (Nat.le_refl _) F3.out.b.size ?_; intro v4 w4 own4 hb4 hg4 _ _; obtain ⟨A4,c4,rfl,_,_,_⟩:=own_form own4; have G4:=ι (And.intro own4 (And.intro hb4 hg4)); have F4:=Live.hp F3 O3.out (Nat.le_refl _) (by intro x hx; simp only [List.mem_cons,List.not_mem_nil,or_false] at hx; rcases hx with rfl|rfl|rfl<;>simp) hg4; clear own4 hb4 hg4; have fz4:=F4.out.frozen 1 1 rfl; have k4_1:w4.cell? ⟨db,1,none⟩=some (.slice rA D.length rc):=F4.out.cell 1 1 rfl rfl)
     have O4:Hid (w4.ownsRow w.heap.size 225 3 (.slice A4 (D++ [((cd:Int),fr,sq)]).length c4) (D++ [((cd:Int),fr,sq)]).length (rcs (D++ [((cd:Int),fr,sq)]))):=ι (by have:=G4.out.1; rw [rcs_snoc D ((cd:Int),fr,sq)] at this; rw [List.length_append]; exact this);have R4:Hid (∀ I n c t,IAt w3 I n c t→IAt w4 I n c t):=ι (fun I n c t h=>h.grownO G4.out.2.2 (fun k e=>by obtain ⟨cs,hh⟩:=own_blk O3.out k e; exact ⟨_,_,hh,by decide⟩));have F5:=Live.hs F4 1 1 (.slice A4 (D.length+1) c4) rfl;simp only [List.set_cons_zero,List.setIfInBounds_toArray,List.set_cons_succ] at F5;have hgr:=grown_cell (World.grownBy.refl w4 (some db)) 1 (.slice A4 (D.length+1) c4);have O5:=ι (O4.out.kept hgr (.inr (own_blk_ne O4.out (F4.out.blk 1 rfl) (by decide))));have R5:Hid (∀ I n c t,IAt w3 I n c t→IAt (w4.setCell ⟨db,1,none⟩ (.slice A4 (D.length+1) c4)) I n c t):=ι (fun I n c t h=>(R4.out I n c t h).grownO (grown_cell (World.grownBy.refl w4 (some db)) 1 (.slice A4 (D.length+1) c4)) (fun k e=>by injection e with e; subst e; exact ⟨_,_,F4.out.blk 1 rfl,by decide⟩));generalize w4.setCell ⟨db,1,none⟩ _=w5 at F5 O5 R5 ⊢;clear k0_1 k0_2 k1_1 fz1 G4 O3 F3 O4 R4 F4 fz4 k4_1 hgr;rw [show D.length+1=(D++ [((cd:Int),fr,sq)]).length by simp] at F5;have HDn:Hid ((D++ [((cd:Int),fr,sq)]).length=i+1):=ι (by rw [List.length_append,HDl.out]; rfl);have T5:=ι (R5.out _ _ _ _ T3.out);have K5:=ι (fun e=>R5.out _ _ _ _ (K3.out e));clear T3 K3 R5;by_cases hc:cd=0;rotate_left
     ·have hc1:((cd:Int) !=0)=true:=by simp; exact hc
      have hE:=HSame.out hc;subst hE;rw [if_neg (fun e=>hc e.1)] at HH2;generalize (D++ [((cd:Int),fr,sq)])=D4 at *;have F6:=ι (F5.out.drop 1);simp only [List.drop_succ_cons,List.drop_zero] at F6;clear hc HSame K5;go_wp2_with fail
      refine Handed.intro (l.length - (i+1)) ?_ (hJ2 _ _ _ (fun Φ hΦ=>hΦ (i+1) (t3) (I) (n1) (c1) (D4) (A4) (c4) (M) (mB) (md) ?_))
      ·have:=HI.out.1; omega
      exact ⟨by have:=HI.out.1; omega,by rw [HRest.out]; exact HH2.out,HDn.out,HI.out.2.1,HI.out.2.2.1,T5.out,O5.out,HI.out.2.2.2.2.2,F6.out⟩
     subst hc;have K6:=ι (K5.out rfl);clear K5 T5 HSame;have k1_0:=(F5.out.blk 1 rfl).d0;have fz0:=F5.out.frozen 1 0 rfl;generalize D++ [(((0:Nat):Int),fr,sq)]=D4 at *;go_upto_region 17 with fail
     have F6:=Live.hs F5 1 0 (.slice I3 n3 c3) rfl;simp only [List.set_cons_zero,List.setIfInBounds_toArray,List.set_cons_succ] at F6;have O6:=ι (O5.out.kept (grown_cell (World.grownBy.refl w5 (some db)) 0 (.slice I3 n3 c3)) (.inr (own_blk_ne O5.out (F5.out.blk 1 rfl) (by decide))));have K7:=ι (K6.out.grownO (grown_cell (World.grownBy.refl w5 (some db)) 0 (.slice I3 n3 c3)) (fun k e=>by injection e with e; subst e; exact ⟨_,_,F5.out.blk 1 rfl,by decide⟩));generalize w5.setCell ⟨db,0,none⟩ _=w6 at F6 O6 K7 ⊢;clear F5 O5 K6 k1_0 fz0;have k0_0:=(F6.out.blk 0 rfl).d0;by_cases h4:kd=4;rotate_left
     ·have h4':(kd==4)=false:=by rw [beq_eq_false_iff_ne]; exact h4
      rw [if_neg (fun e=>h4 e.2)] at HH2;have F7:=ι (F6.out.drop 1);simp only [List.drop_succ_cons,List.drop_zero] at F7;clear h4;go_wp2_with fail
      refine Handed.intro (l.length - (i+1)) ?_ (hJ2 _ _ _ (fun Φ hΦ=>hΦ (i+1) (t3) (I3) (n3) (c3) (D4) (A4) (c4) (M) (mB) (md) ?_))
      ·have:=HI.out.1; omega
      exact ⟨by have:=HI.out.1; omega,by rw [HRest.out]; exact HH2.out,HDn.out,HCnt.out.2,HCnt.out.1,K7.out,O6.out,HI.out.2.2.2.2.2,F7.out⟩
     subst h4;rw [if_pos ⟨rfl,rfl⟩] at HH2;have k0_7:=(F6.out.blk 0 rfl).d7;have k1_2:=(F6.out.blk 1 rfl).d2;have fz2:=F6.out.frozen 1 2 rfl;go_wp2_with fail
     have F7:=Live.hs F6 1 2 (.slice mA mm.length mc) rfl;simp only [List.set_cons_zero,List.setIfInBounds_toArray,List.set_cons_succ] at F7;have O7:=ι (O6.out.kept (grown_cell (World.grownBy.refl w6 (some db)) 2 (.slice mA mm.length mc)) (.inr (own_blk_ne O6.out (F6.out.blk 1 rfl) (by decide))));have K8:=ι (K7.out.grownO (grown_cell (World.grownBy.refl w6 (some db)) 2 (.slice mA mm.length mc)) (fun k e=>by injection e with e; subst e; exact ⟨_,_,F6.out.blk 1 rfl,by decide⟩));have F8:=ι (F7.out.drop 1);simp only [List.drop_succ_cons,List.drop_zero] at F8;refine Handed.intro (l.length - (i+1)) ?_ (hJ2 _ _ _ (fun Φ hΦ=>hΦ (i+1) (t3) (I3) (n3) (c3) (D4) (A4) (c4) (mm) (mA) (mc) ?_))
     ·have:=HI.out.1; omega
     exact ⟨by have:=HI.out.1; omega,by rw [HRest.out]; exact HH2.out,HDn.out,HCnt.out.2,HCnt.out.1,K8.out,O7.out,HM0.out,F8.out⟩
    ·have hi1:((i:Int)<l.length)=False:=by simp; omega
     have HE2:Hid (X=((t2,D,M),0)):=ι (by
      rw [h2,List.drop_of_length_le (by omega)];simp [Ex.allGoL])
     have HI:=ι (And.intro hI (And.intro hD hM));have F1:=ι hF;have k0_1:wr2.cell? ⟨db,1,none⟩=some (.slice rA D.length rc):=hF.cell 0 1 rfl rfl;have k0_2:wr2.cell? ⟨db,2,none⟩=some (.slice mB M.length md):=hF.cell 0 2 rfl rfl;clear h1 h2 h3 h4 hgd hI hD hM hF hi;have r0:=(F1.out.blk 1 rfl).d0;have r1:=(F1.out.blk 1 rfl).d1;have r2:=(F1.out.blk 1 rfl).d2;have f0:=F1.out.frozen 1 0 rfl;have f1:=F1.out.frozen 1 1 rfl;have f2:=F1.out.frozen 1 2 rfl;go_wp2_with fail
     have F9:Hid (Live w (((wr2.setCell ⟨rb,0,none⟩ (.slice I n1 c1)).setCell ⟨rb,1,none⟩ (.slice rA D.length rc)).setCell ⟨rb,2,none⟩ (.slice mB M.length md)) [(db,181,#[.slice I n1 c1,.slice rA D.length rc,.slice mB M.length md]),(rb,181,#[.slice I n1 c1,.slice rA D.length rc,.slice mB M.length md])]):=ι (((F1.out.set 1 0 _ rfl).set 1 1 _ rfl).set 1 2 _ rfl);have hgr:wr2.grownBy (((wr2.setCell ⟨rb,0,none⟩ (.slice I n1 c1)).setCell ⟨rb,1,none⟩ (.slice rA D.length rc)).setCell ⟨rb,2,none⟩ (.slice mB M.length md)) (some rb):=grown_cell (grown_cell (grown_cell (World.grownBy.refl wr2 (some rb)) 0 _) 1 _) 2 _;have O9:=ι (HI.out.2.1.kept hgr (.inr (own_blk_ne HI.out.2.1 (F1.out.blk 1 rfl) (by decide))));have K9:=ι (HI.out.1.grownO hgr (fun k e=>by injection e with e; subst e; exact ⟨_,_,F1.out.blk 1 rfl,by decide⟩));clear hgr;generalize ((wr2.setCell ⟨rb,0,none⟩ (.slice I n1 c1)).setCell ⟨rb,1,none⟩ (.slice rA D.length rc)).setCell ⟨rb,2,none⟩ (.slice mB M.length md)=W9 at F9 O9 K9 ⊢;have s0:=(F9.out.blk 1 rfl).d0;have s1:=(F9.out.blk 1 rfl).d1;have s2:=(F9.out.blk 1 rfl).d2
     (try simp only [Exit.inBlock,Exit.then])
     refine bodyPost_ret (v:= .tuple #[.agg #[.slice I n1 c1,.slice rA D.length rc,.slice mB M.length md],ζ]) (by simp [results,Tryz.results108,go_sem,s0,s1,s2]) rfl ?_;exact HPo.out t2 D M I n1 c1 rA rc mB md _ HE2.out F9.out.b K9.out O9.out HI.out.2.2
end
end Go.Proofs.YtdkiloganbhfkaaGreatDoor