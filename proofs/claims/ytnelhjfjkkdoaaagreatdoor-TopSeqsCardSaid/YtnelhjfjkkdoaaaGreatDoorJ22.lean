import Derived.Test.YtnelhjfjkkdoaaaGreatDoorJ19
set_option linter.unusedSimpArgs false
set_option linter.unusedVariables false
set_option maxHeartbeats 4000000
set_option maxRecDepth 100000
namespace Go.Proofs.YtnelhjfjkkdoaaaGreatDoor
section
open Go.RowKit
theorem flat_len {α:Type} (f:α→List Value) (k:Nat) (hf:∀ x,(f x).length=k):∀ l:List α,(l.flatMap f).length=l.length*k
 | []=>by simp
 |x::l=>by
  rw [List.flatMap_cons,List.length_append,flat_len f k hf l,hf x,List.length_cons,Nat.succ_mul]; omega
theorem flat_at {α:Type} (f:α→List Value) (k:Nat) (hf:∀ x,(f x).length=k):∀ (l:List α) (i:Nat) (hi:i<l.length) (j:Nat),j<k→(l.flatMap f)[i*k+j]?=(f l[i])[j]?
 | [],i,hi,_,_=>absurd hi (by simp)
 |x::l,0,_,j,hj=>by
  rw [List.flatMap_cons,Nat.zero_mul,Nat.zero_add,List.getElem?_append_left (by rw [hf x]; exact hj)]; rfl
 |x::l,i+1,hi,j,hj=>by
  rw [List.flatMap_cons,List.getElem?_append_right (by rw [hf x,Nat.succ_mul]; omega),hf x];rw [show (i+1)*k+j - k=i*k+j by rw [Nat.succ_mul]; omega];exact flat_at f k hf l i (by simpa using hi) j hj
theorem flat_cells {α:Type} {f:α→List Value} {k:Nat} (hf:∀ x,(f x).length=k) (hk:0<k) {w:World} {B:Nat} {A:Option Addr} {l:List α} (h:Reads w B k A l.length (l.flatMap f)) {i:Nat} (hi:i<l.length):
  ∃ ad off,A=some ⟨ad,off,none⟩∧ad<B∧∀ W,Below B w W→∀ (j:Nat) (v:Value),(f l[i])[j]?=some v→W.cell? ⟨ad,off+i*k+j,none⟩=some v:=by
 obtain ⟨ad,off,rfl,hb,hc⟩:=h.form (by omega) hk;refine ⟨ad,off,rfl,hb,fun W hW j v hv=> ?_⟩;have hj:j<k:=by have:=(List.getElem?_eq_some_iff.1 hv).1; rwa [hf] at this
 rw [hW.cell (p:=⟨ad,off+i*k+j,none⟩) hb];have h1:=flat_at f k hf l i hi j hj;rw [hv] at h1;obtain ⟨h2,h3⟩:=List.getElem?_eq_some_iff.1 h1
 have:=hc (i*k+j) h2
 rw [h3] at this;rw [Nat.add_assoc]; exact this
end
section
open Go.RowKit Go.Instr
attribute [local go_sem] ba_get ByteArray.mk_append_mk
def mcell (m:Pw.Mem):List Value:= [.string ⟨m.1.toArray⟩,.int .i64 m.2]
abbrev mcells (l:List Pw.Mem):List Value:=l.flatMap mcell
theorem mcell_len (m:Pw.Mem):(mcell m).length=2:=rfl
theorem mem_cells {w:World} {B:Nat} {A:Option Addr} {l:List Pw.Mem} (h:Reads w B 2 A l.length (mcells l)) {i:Nat} (hi:i<l.length):
  ∃ ad off,A=some ⟨ad,off,none⟩∧ad<B∧∀ W,Below B w W→W.cell? ⟨ad,off+i*2,none⟩=some (.string ⟨l[i].1.toArray⟩)∧W.cell? ⟨ad,off+i*2+1,none⟩=some (.int .i64 l[i].2):=by
 obtain ⟨ad,off,h1,h2,h3⟩:=flat_cells mcell_len (by decide) h hi;exact ⟨ad,off,h1,h2,fun W hW=>⟨h3 W hW 0 _ rfl,h3 W hW 1 _ rfl⟩⟩
theorem bl_leq (a b:List UInt8):(Op.bytesLess a b||a==b)= !Op.bytesLess b a:=by
 cases h:Op.bytesLess b a with
 |true=>
  have h1:=bl_asymm b a h;have h2:(a==b)=false:=by
   rw [beq_eq_false_iff_ne]; intro e; subst e; rw [bl_irrefl] at h; cases h
  rw [h1,h2]; rfl
 |false=>
  cases h1:Op.bytesLess a b with
  |true=>rfl
  |false=>rw [bl_tri a b h1 h]; simp
def codeM (b:Bool):Int:=if b then 0 else 50
theorem power_Check (w:World) (l:List Pw.Mem) (hs:∀ x∈l,x.1.length≤9223372036854775807) (A:Option Addr) (c:Nat) (HR:Reads w w.heap.size 2 A l.length (mcells l)):
  Calls Tryz.prog 122 #[.slice A l.length c] w (Ret w (.int .i64 (codeM (Pw.okM l)))):=by
 have HP:Hid (∀ (b:Bool) w',Pw.okM l=b→Below w.heap.size w w'→Ret w (.int .i64 (codeM (Pw.okM l))) (.returned (.int .i64 (codeM b))) w'):=ι (fun b w' h1 h2=>by rw [h1]; exact ⟨rfl,h2⟩);generalize Ret w (.int .i64 (codeM (Pw.okM l)))=P at HP ⊢;have HPt:=ι (fun w' h1 h2=>HP.out true w' h1 h2);have HPf:=ι (fun w' h1 h2=>HP.out false w' h1 h2);simp only [codeM,if_true,Bool.false_eq_true,if_false] at HPt HPf;clear HP;by_cases h0:l= []
 ·subst h0;go_enter Tryz.func122,Tryz.ntmps122
  go_wp2
  exact HPf.out _ rfl (Below.refl _ _)
 have hl0:((l.length:Int)==0)=false:=by rw [beq_eq_false_iff_ne]; intro e; exact h0 (List.eq_nil_of_length_eq_zero (by omega))
 by_cases h7:7<l.length
 ·have hl7:(7:Int)<l.length:=by omega
  have HNo:Hid (Pw.okM l=false):=ι (by unfold Pw.okM; rw [decide_eq_false (show ¬l.length≤7 by omega)]; simp);clear h0 h7 HR hs;go_enter Tryz.func122,Tryz.ntmps122
  go_wp2
  exact HPf.out _ HNo.out (Below.refl _ _)
 have hl7:((7:Int)<l.length)=False:=by simp; omega
 have HK:Hid (Pw.okM l=Pw.risM [] l):=ι (by
  unfold Pw.okM;rw [decide_eq_true (show 1≤l.length from List.length_pos_iff.2 h0),decide_eq_true (show l.length≤7 by omega)]; rfl)
 have HRR:=ι HR;have HS:=ι hs;have HL7:=ι (Nat.le_of_not_lt h7);clear HR hs h0 h7;go_enter Tryz.func122,Tryz.ntmps122
 go_wp2_with fail
 refine wp_loop_ghost_k (fun k a wr=>∀ Φ:Act→Prop,(∀ ⦃s0 s1 s2 s4 s5 s6 s7 s8 s9 s3 a0 a2 a3 a4 a5 a6 a7 a8 a9 b0 b1 b2 b3 b4 b5 b6 b7 b8 b9 c0 c1 c3 c4 c5 c6 c7 c8 c9 d0:Value⦄ (i:Nat) (last:List UInt8),(i+k=l.length∧Pw.risM [] l=Pw.risM last (l.drop i)∧Below w.heap.size w wr)→Φ {tmps:=#[s0,s1,s2,.string ⟨last.toArray⟩,s4,s5,s6,s7,s8,s9,s3,a0,a2,a3,.slice A l.length c,.int .i64 l.length,.int .i64 (i:Int),a4,a5,a6,a7,a8,a9,b0,b1,b2,b3,b4,b5,b6,b7,b8,b9,c0,c1,c3,c4,c5,c6,c7,c8,c9,d0],defers:= []})→Φ a) (l.length) ?_ ?_
 ·refine fun Φ hΦ=>hΦ (0) ([]) ?_;exact ⟨by omega,rfl,Below.refl _ _⟩
 ·intro k1 a1 wr1 hI1 J1 K1 hJ1 hK1;refine hI1 (fun a=>Code.wp _ _ _ a _) ?_;clear hI1 a1;iterate 39 (intro _)
  intro i last hrel
  show Code.wp _ _ _ _ _;obtain ⟨h1,h2,hb⟩:=hrel;by_cases hi:i<l.length
  ·obtain ⟨ad,off,rfl,hbl,hcell⟩:=mem_cells HRR.out hi;obtain ⟨r0,r1⟩:=hcell _ hb;have hi1:(i:Int)<l.length:=by omega
   have hi0:(0:Int)≤i:=by omega
   have hi8:(i:Int)<8:=by have:=HL7.out; omega
   have hd:l.drop i=l[i]::l.drop (i+1):=List.drop_eq_getElem_cons hi;have hlen:=HS.out _ (List.getElem_mem hi);rw [hd] at h2;have HI:=ι (And.intro h1 hb);clear h1 hb hcell hd hbl;generalize l[i]=x at *;have H2:=ι (HK.out.trans h2);clear h2;go_upto_region 7 with fail
   have F1:=Live.ha (ι (Live.start wr1)) #[x.1,x.2] 165;generalize World.alloc wr1 _=W1 at F1 ⊢;generalize wr1.heap.size=bm at F1 ⊢;clear r0 r1;have k0:=(F1.out.blk 0 rfl).c2;by_cases g1:6<x.1.length
   ·have g1':(6:Int)<x.1.length:=by omega
    have HNo:Hid (Pw.okM l=false):=ι (by rw [H2.out,Pw.risM,decide_eq_false (show ¬x.1.length≤6 by omega)]; simp);clear g1;go_wp2_with fail
    exact HPf.out _ HNo.out (HI.out.2.nxt F1.out.b)
   have g1':((6:Int)<x.1.length)=False:=by simp; omega
   have hq:=bl_leq x.1 last;cases g2:Op.bytesLess last x.1 with
   |false=>
    have HNo:Hid (Pw.okM l=false):=ι (by rw [H2.out,Pw.risM,g2]; simp);rw [g2,Bool.not_false] at hq;clear g1 g2;go_wp2_with fail
    exact HPf.out _ HNo.out (HI.out.2.nxt F1.out.b)
   |true=>
   rw [g2,Bool.not_true] at hq;by_cases g3:x.2<1
   ·have g3':(x.2<1)=True:=by simp; omega
    have HNo:Hid (Pw.okM l=false):=ι (by rw [H2.out,Pw.risM,decide_eq_false (show ¬1≤x.2 by omega)]; simp);clear g1 g2;go_wp2_with fail
    exact HPf.out _ HNo.out (HI.out.2.nxt F1.out.b)
   have g3':(x.2<1)=False:=by simp; omega
   by_cases g4:1000<x.2
   ·have HNo:Hid (Pw.okM l=false):=ι (by rw [H2.out,Pw.risM,decide_eq_false (show ¬x.2≤1000 by omega)]; simp);clear g1 g2;go_wp2_with fail
    exact HPf.out _ HNo.out (HI.out.2.nxt F1.out.b)
   have g4':(1000<x.2)=False:=by simp; omega
   have HY:Hid (Pw.okM l=Pw.risM x.1 (l.drop (i+1))):=ι (by
    rw [H2.out,Pw.risM,decide_eq_true (show x.1.length≤6 by omega),g2,decide_eq_true (show 1≤x.2 by omega),decide_eq_true (show x.2≤1000 by omega)]; rfl)
   clear g1 g2 g3 g4 H2;go_wp2_with fail
   refine Handed.intro (l.length - (i+1)) ?_ (hJ1 _ _ _ (fun Φ hΦ=>hΦ (i+1) (x.1) ?_))
   ·have:=HI.out.1; omega
   exact ⟨by have:=HI.out.1; omega,HK.out.symm.trans HY.out,HI.out.2.nxt F1.out.b⟩
  ·have hi1:((i:Int)<l.length)=False:=by simp; omega
   have HY:Hid (Pw.okM l=true):=ι (by rw [HK.out,h2,List.drop_of_length_le (by omega),Pw.risM]);have HI:=ι hb;clear h1 h2 hb hi;go_wp2_with fail
   exact HPt.out _ HY.out HI.out
def encMo (l:List Pw.Mem):List UInt8:=if Pw.okM l then Pw.encM l else []
theorem flat_take (l:List Pw.Mem) (i:Nat) (hi:i<l.length):((l.take (i+1)).map Pw.memB).flatten=((l.take i).map Pw.memB).flatten++Pw.memB l[i]:=by
 rw [List.take_succ_eq_append_getElem hi,List.map_append,List.flatten_append,List.map_cons,List.map_nil,List.flatten_cons,List.flatten_nil,List.append_nil]
def MEncEnd (w:World) (l:List Pw.Mem) (e:Ending) (w':World):Prop:=e= .returned (.tuple #[.string ⟨(encMo l).toArray⟩,.int .i64 (codeM (Pw.okM l))])∧Below w.heap.size w w'
theorem power_Encode (w:World) (l:List Pw.Mem) (hs:∀ x∈l,x.1.length≤9223372036854775807) (A:Option Addr) (c:Nat) (HR:Reads w w.heap.size 2 A l.length (mcells l)):
  Calls Tryz.prog 84 #[.slice A l.length c] w (MEncEnd w l):=by
 have HCk:=ι (power_Check w l hs A c HR);cases hok:Pw.okM l with
 |false=>
  have HP:Hid (∀ w',Below w.heap.size w w'→MEncEnd w l (.returned (.tuple #[ε,.int .i64 50])) w'):=ι (fun w' h=>by
   unfold MEncEnd encMo;rw [hok]; exact ⟨rfl,h⟩)
  generalize MEncEnd w l=P at HP ⊢;rw [hok] at HCk;simp only [codeM,Bool.false_eq_true,if_false] at HCk;clear HR hs hok;go_enter Tryz.func84,Tryz.ntmps84
  go_wp2_with fail
  refine HCk.out.mono ?_;rintro q w1 ⟨rfl,hb⟩;have HB:=ι hb;clear hb;go_wp2_with fail
  exact HP.out _ HB.out
 |true=>
  have hlen:=(Pw.okM_len hok).2;have hall:=Pw.okM_all hok;have HP:Hid (∀ s w',Pw.encM l=s→Below w.heap.size w w'→MEncEnd w l (.returned (.tuple #[s,ζ])) w'):=ι (fun s w' e h=>by
   unfold MEncEnd encMo;rw [hok,if_pos rfl,e]; exact ⟨rfl,h⟩)
  generalize MEncEnd w l=P at HP ⊢;rw [hok] at HCk;simp only [codeM,if_true] at HCk;have HRR:=ι HR;have HA:=ι hall;have HL:=ι hlen;have HNum:=ι (fun W=>code_Num l.length (by omega) W);clear HR hs hok hall;go_enter Tryz.func84,Tryz.ntmps84
  go_wp2_with fail
  refine HCk.out.mono ?_;rintro q w1 ⟨rfl,hb⟩;have HB:=ι hb;clear hb;go_wp2_with fail
  refine (HNum.out _).mono ?_;rintro q w2 ⟨rfl,hb⟩;have HB2:=ι (HB.out.nxt hb);clear hb HB HCk HNum hlen;obtain ⟨S0,hS0⟩:∃ S0,numW l.length=S0:=⟨_,rfl⟩
  have HS0:=ι hS0;rw [hS0];clear hS0;go_wp2_with fail
  refine wp_loop_ghost_k (fun k a wr=>∀ Φ:Act→Prop,(∀ ⦃s0 s1 s2 s3 s4 s6 s7 s8 s9 s5 a0 a5 a6 a7 a8 a9 b0 b1 b2 b3 b4 b5 b6 b7 b8 b9 c0 c1 c2 c3 c4 c5 c6 c7 c8 c9 d2 d3 d4:Value⦄ (i:Nat) (S:List UInt8),(i+k=l.length∧S=numW l.length++((l.take i).map Pw.memB).flatten∧S.length≤9+24*i∧Below w.heap.size w wr)→Φ {tmps:=#[s0,s1,s2,s3,s4,.string ⟨S.toArray⟩,s6,s7,s8,s9,s5,a0,a5,a6,a7,a8,a9,b0,b1,b2,b3,b4,.slice A l.length c,.int .i64 l.length,.int .i64 (i:Int),b5,b6,b7,b8,b9,c0,c1,c2,c3,c4,c5,c6,c7,c8,c9,d2,d3,d4],defers:= []})→Φ a) (l.length) ?_ ?_
  ·refine fun Φ hΦ=>hΦ (0) (S0) ?_;exact ⟨by omega,by rw [HS0.out]; simp,by rw [←HS0.out]; have:=numW_len l.length (by have:=HL.out; omega); omega,HB2.out⟩
  ·intro k1 a1 wr1 hI1 J1 K1 hJ1 hK1;refine hI1 (fun a=>Code.wp _ _ _ a _) ?_;clear hI1 a1;iterate 39 (intro _)
   intro i S hrel
   show Code.wp _ _ _ _ _;obtain ⟨h1,h2,h3,hb⟩:=hrel;by_cases hi:i<l.length
   ·obtain ⟨ad,off,rfl,hbl,hcell⟩:=mem_cells HRR.out hi;obtain ⟨r0,r1⟩:=hcell _ hb;have hi1:(i:Int)<l.length:=by omega
    have hi0:(0:Int)≤i:=by omega
    obtain ⟨a1,a2,a3,a4⟩:=HA.out _ (List.getElem_mem hi);have HI:=ι (And.intro h1 (And.intro hb h3));have HN:=ι (show S++Pw.memB l[i]=numW l.length++((l.take (i+1)).map Pw.memB).flatten by rw [flat_take l i hi,h2,List.append_assoc]);have hi8:i<8:=by have:=HL.out; omega
    clear h1 hb hcell hbl h2;generalize l[i]=x at *;obtain ⟨nm,pw⟩:=x;simp only at a1 a3 a4 r0 r1;obtain ⟨n,rfl⟩:=Int.eq_ofNat_of_zero_le (show 0≤pw by omega);have HNum:=ι (fun W=>code_Num n (by omega) W);have HTx:=ι (fun W=>code_Text nm (by omega) W);have HLl:Hid ((textW nm).length≤15∧(numW n).length≤9∧(Pw.memB (nm,(n:Int))).length≤24):=ι ⟨by rw [textW,List.length_append]; have:=numW_len nm.length (by omega); omega,numW_len n (by omega),Pw.memB_len a1 a3 a4⟩;have HM:Hid (Pw.memB (nm,(n:Int))=textW nm++numW n):=ι rfl;clear a1 a2 a3 a4;go_upto_region 8 with fail
    have F1:=Live.ha (ι (Live.start wr1)) #[nm,n] 165;generalize World.alloc wr1 _=W1 at F1 ⊢;generalize wr1.heap.size=bm at F1 ⊢;clear r0 r1;have k0_1:=(F1.out.blk 0 rfl).d1;go_wp2_with fail
    refine (HNum.out _).mono ?_;rintro q w3 ⟨rfl,hb⟩;have F3:=Live.hb F1 hb;clear hb F1 k0_1 HNum;have k0_0:=(F3.out.blk 0 rfl).d0;go_wp2_with fail
    refine (HTx.out _).mono ?_;rintro q w4 ⟨rfl,hb⟩;have F4:=Live.hb F3 hb;clear hb F3 k0_0 HTx;obtain ⟨l1,l2,l3⟩:=HLl.out;rw [HM.out] at HN l3;clear HLl HM;generalize textW nm=X at *;generalize numW n=Y at *;rw [List.length_append] at l3;have m1:X.length+Y.length≤9223372036854775807:=by omega
    have m2:S.length+(X.length+Y.length)≤9223372036854775807:=by omega
    have m3:S.length+(X++Y).length≤9223372036854775807:=by rw [List.length_append]; omega
    have m4:(S++(X++Y)).length≤9+24*(i+1):=by rw [List.length_append,List.length_append]; omega
    have HM4:=ι m4;clear m4 l1 l2 l3 h3;go_wp2_with fail
    refine Handed.intro (l.length - (i+1)) ?_ (hJ1 _ _ _ (fun Φ hΦ=>hΦ (i+1) (S++(X++Y)) ?_))
    ·have:=HI.out.1; omega
    exact ⟨by have:=HI.out.1; omega,HN.out,HM4.out,HI.out.2.1.nxt F4.out.b⟩
   ·have hi1:((i:Int)<l.length)=False:=by simp; omega
    have HY:Hid (Pw.encM l=S):=ι (by rw [h2,List.take_of_length_le (by omega)]; rfl);have HI:=ι hb;clear h1 h2 h3 hb hi;go_wp2_with fail
    exact HP.out _ _ HY.out HI.out
theorem power_Digest (w:World) (l:List Pw.Mem) (hs:∀ x∈l,x.1.length≤9223372036854775807) (A:Option Addr) (c:Nat) (HR:Reads w w.heap.size 2 A l.length (mcells l)) (hT:Tbl w):
  Calls Tryz.prog 38 #[.slice A l.length c] w (Ret w (.string ⟨(Pw.digM l).toArray⟩)):=by
 have HEn:=ι (power_Encode w l hs A c HR);unfold MEncEnd encMo at HEn;cases hok:Pw.okM l with
 |false=>
  have HP:Hid (∀ w',Below w.heap.size w w'→Ret w (.string ⟨(Pw.digM l).toArray⟩) (.returned (.string ⟨#[]⟩)) w'):=ι (fun w' h=>by
   unfold Ret Pw.digM;rw [hok]; exact ⟨rfl,h⟩)
  generalize Ret w (.string ⟨(Pw.digM l).toArray⟩)=P at HP ⊢;rw [hok] at HEn;simp only [codeM,Bool.false_eq_true,if_false] at HEn;clear HR hs hok hT;go_enter Tryz.func38,Tryz.ntmps38
  go_wp2_with fail
  refine HEn.out.mono ?_;rintro q w1 ⟨rfl,hb⟩;have HB:=ι hb;clear hb;go_wp2_with fail
  exact HP.out _ HB.out
 |true=>
  have HP:Hid (∀ w',Below w.heap.size w w'→Ret w (.string ⟨(Pw.digM l).toArray⟩) (.returned (.string ⟨(shaW (4::Pw.encM l)).toArray⟩)) w'):=ι (fun w' h=>by
   unfold Ret Pw.digM;rw [hok,if_pos rfl]; exact ⟨rfl,h⟩)
  generalize Ret w (.string ⟨(Pw.digM l).toArray⟩)=P at HP ⊢;have hel:=Pw.encM_len hok;rw [hok] at HEn;simp only [codeM,if_true] at HEn;have HD:=ι (fun W (hW:Below w.heap.size w W)=>digest_Sum W 4 (by omega) (by omega) (Pw.encM l) (by omega) (hT.next hW));rw [show UInt8.ofNat 4=4 from rfl] at HD;generalize shaW (4::Pw.encM l)=sm at *;generalize Pw.encM l=en at *;clear HR hs hok hT hel;go_enter Tryz.func38,Tryz.ntmps38
  go_wp2_with fail
  refine HEn.out.mono ?_;rintro q w1 ⟨rfl,hb⟩;have HB:=ι hb;clear hb;go_wp2_with fail
  refine (HD.out _ HB.out).mono ?_;rintro q w2 ⟨rfl,hb⟩;have HB2:=ι (HB.out.nxt hb);clear hb;go_wp2_with fail
  exact HP.out _ HB2.out
end
section
open Go.RowKit Go.Instr
theorem reads_off {W W':World} {size n:Nat} {A:Option Addr} {xs:List Value} {row:Option Nat} (h:Reads W W.heap.size size A n xs) (hg:W.grownBy W' row) (hne:∀ a,A=some a→some a.block≠row):Reads W' W'.heap.size size A n xs:=by
 refine ⟨h.1,fun hn=> ?_⟩;obtain ⟨ad,rfl,hlt,hc⟩:=h.2 hn;refine ⟨ad,rfl,Nat.lt_of_lt_of_le hlt hg.size,fun j u hu=> ?_⟩;have hb:(ad.add j).block=ad.block:=by unfold Addr.add; split<;>rfl
 rw [←hc j u hu];exact World.cell?_of_block (hg.block _ (by rw [hb]; exact hlt) (by rw [hb]; exact hne ad rfl))
theorem blk_grown {w w':World} {g t:Nat} {cs:Array Value} {row:Option Nat} (hb:Blk w g t cs) (hg:w.grownBy w' row) (hne:some g≠row):Blk w' g t cs:=by
 unfold Blk;rw [hg.block g hb.lt hne];exact hb
theorem blk_there {w:World} {g t:Nat} {cs:Array Value} (hb:Blk w g t cs) (n:Nat) (hn:n≤cs.size):w.there g 0 n:=fun j hj=>by
 rw [Nat.zero_add];refine ⟨?_,hb.frozen j⟩;rw [hb.cell,Array.getElem?_eq_getElem (by omega)]; rfl
theorem own_keepB {w w':World} {base:Nat} {e:TypeId} {size n:Nat} {v:Value} {xs:List Value} {g t:Nat} {cs:Array Value} (h:w.ownsRow base e size v n xs) (hg:w.grownBy w' (some g)) (hb:Blk w g t cs) (hne:e≠t):w'.ownsRow base e size v n xs:=h.kept hg (by
 have:=own_blk_ne h hb hne
 cases hv:v.ownBlock with
 |none=>exact .inl rfl
 |some k=>exact .inr (by rw [←hv]; exact this))
theorem step_store_all {P:Program} {ops:Array Oper} {o:Oper} {a:Act} {w:World} {K:Act→World→Prop} {Q:Exit→Act→World→Prop} {E:Prop} (hgd:o.guard=none) (ty:TypeId) (x y:Operand) (ho:o.op= .store ty x y)
  (b f:Nat) (cells:Array Value) (hx:a.eval x= .pointer (some ⟨b,f,none⟩)) (hy:a.eval y= .agg cells) (ht:w.there b f cells.size) (hi:(P.info? ty).map (·.size)=some cells.size) (h1:cells.all (·.oneCell')=true)
  (h:K (a.put o.dst undef) (w.setCells b f cells.toList)):if Region.wanted o (yielded ops a.tmps)=true then Oper.wp P o a w K Q else E:=by
 have hw:Region.wanted o (yielded ops a.tmps)=true:=by simp [Region.wanted,hgd]
 rw [if_pos hw];exact wp_store_mid ty x y ho b f cells hx hy ht hi h1 h
theorem wpList_store_as {P:Program} {ops:Array Oper} {rest:List Oper} {op:Oper} {a:Act} {w:World} {Q:Exit→Act→World→Prop} (hgd:op.guard=none) (ty:TypeId) (x y:Operand) (ho:op.op= .store ty x y)
  (b o:Nat) (cells:Array Value) (hx:a.eval x= .pointer (some ⟨b,o,none⟩)) (hy:a.eval y= .agg cells)
  (ht:w.there b o cells.size) (hi:(P.info? ty).map (·.size)=some cells.size) (h1:cells.all (·.oneCell')=true) (W:World) (hW:w.setCells b o cells.toList=W)
  (h:wpList P ops Q rest (a.put op.dst undef) W):wpList P ops Q (op::rest) a w:=
 wpList_store_mid hgd ty x y ho b o cells hx hy ht hi h1 (by rw [hW]; exact h)
theorem range_of_blk {w:World} {g t:Nat} {xs:List Value} (h:Blk w g t xs.toArray):w.rangeAt g 0 xs:=fun j v hv=>by
 rw [Nat.zero_add,h.cell];simpa using hv
theorem range_head {w:World} {g t:Nat} {cs:Array Value} {xs:List Value} (h:Blk w g t cs) (hx:cs.toList.take xs.length=xs):w.rangeAt g 0 xs:=fun j v hv=>by
 rw [Nat.zero_add,h.cell];have hl:j<xs.length:=(List.getElem?_eq_some_iff.1 hv).1;rw [←hx,List.getElem?_take,if_pos hl] at hv;simpa using hv
theorem foldl_set:∀ (pl Z pre:List Value),pl.length=Z.length→List.foldl (fun (cs:Array Value) (x:Value × Nat)=>cs.setIfInBounds x.snd x.fst) (pre++Z).toArray (pl.zipIdx pre.length)=(pre++pl).toArray
 | [],Z,pre,h=>by
  have:Z= []:=List.length_eq_zero_iff.1 (by simpa using h.symm)
  subst this;rfl
 |v::r,[],pre,h=>by simp at h
 |v::r,z::Z,pre,h=>by
  rw [List.zipIdx_cons,List.foldl_cons];have e:(pre++z::Z).toArray.setIfInBounds pre.length v=((pre++ [v])++Z).toArray:=by simp
  have ih:=foldl_set r Z (pre++ [v]) (by simpa using h);rw [List.length_append] at ih
  show List.foldl _ ((pre++z::Z).toArray.setIfInBounds pre.length v) _=_;rw [e];simpa using ih
theorem live_drew {w W:World} {L:List (Nat × Nat × Array Value)} (h:Hid (Live w W L)):Hid (Live w W.drew L):=ι ⟨⟨h.out.b.os,h.out.b.tape,h.out.b.output,h.out.b.size,h.out.b.block⟩,h.out.l,h.out.d⟩
theorem results_one_cell {P:Program} {fn:Func} {tmps:Array Value} {w:World} {a:Tmp} {t:TypeId} {p:Addr} {v:Value} (hr:fn.results=#[.cell a t]) (ha:tmps.getD a undef= .pointer (some p)) (hv:(loadVar t p).run P w= .ok v w):
  (results fn tmps).run P w= .ok v w:=by
 unfold results;rw [hr];rw [Array.getD_eq_getD_getElem?] at ha;simp [Sem.run_bind,ha,hv,asAddr]
end
section
open Go.RowKit
theorem skip_Links (h:Nat) (w:World) (hl:1≤h) (hh:h≤1048576):
  Calls Tryz.prog 94 #[h] w fun e w'=>∃ v,e= .returned v∧w'.ownsRow w.heap.size 3 1 v (Skip.links h).length (ints (Skip.links h))∧Below w.heap.size w w':=by
 go_enter Tryz.func94,Tryz.ntmps94
 go_wp2
 refine wp_scope_ghost 0 (fun k a wr=>∀ Φ:Act→Prop,(∀ ⦃s1 s5 s6 s7 s8 s9 s0 s2 s3 s4 a0 a2 a3 a4 a5 a6 a7 a8 a9 b0:Value⦄ (st:Nat) (acc:List Nat) (o:Value),(2≤st∧st≤2097152∧4194304≤st*2 ^ (k - 1)∧1≤k∧acc.length+k≤22∧wr.ownsRow w.heap.size 3 1 o acc.length (ints acc)∧Below w.heap.size w wr∧acc++Skip.linksF k h st=Skip.links h)→Φ {tmps:=#[.int .i64 h,s1,.slice none 0 0,o,.int .i64 st,s5,s6,s7,s8,s9,s0,s2,s3,s4,a0,a2,a3,a4,a5,a6,a7,a8,a9,b0],defers:= []})→Φ a) rfl ?_ ?_
 ·intro K1 hK1;go_wp2_with fail
  go_step3
  by_cases hc:h % 2=0
  ·have hb:((h:Int) % 2==0)=true:=by rw [beq_iff_eq]; omega
   have H1:Hid ([h - 2]++Skip.linksF 21 h 4=Skip.links h):=ι (by unfold Skip.links; rw [Skip.linksF_yes hc]; rfl);have e2:((h:Int) - 2)=((h - 2:Nat):Int):=by omega
   have E2:=ι e2;clear e2;have hnil:=World.ownsRow_nil w w.heap.size 3 1;go_wp2_with (at_builtin; refine wpList_append_new w 3 [.int .i64 ((h:Int) - 2)] rfl _ _ 43 rfl w.heap.size 1 8 _ info_int Tryz.underlying43 rfl (by decide) _ _ _ rfl hnil 1 1 rfl rfl (by simp [Value.oneCell']) (by simp only [maxLen]; omega) (by omega) w.heap.size w (Below.refl _ _) (Nat.le_refl _) (Nat.le_refl _) ?_; intro v1 w1 hown1 hb1 _ _ _)
   go_step3
   refine ⟨rfl,hK1 (21) _ _ (fun Φ hΦ=>hΦ (4) ([h - 2]) (v1) ?_)⟩;exact ⟨by omega,by omega,by decide,by omega,by simp,by rw [E2.out] at hown1; simpa [ints] using hown1,hb1,H1.out⟩
  ·have hb:((h:Int) % 2==0)=false:=by rw [beq_eq_false_iff_ne]; omega
   have H1:Hid ([]=Skip.links h):=ι (by unfold Skip.links; rw [Skip.linksF_no hc]);go_wp2
   simp only [Exit.jump]
   go_ret
   rw [←H1.out];exact ⟨_,rfl,World.ownsRow_nil _ _ _ _,Below.refl _ _⟩
 ·intro k1 a1 wr1 hI1 K1 hK1;refine hI1 (fun a=>Code.wp _ _ _ a _) ?_;clear hI1 a1;iterate 20 (intro _)
  intro st acc o hrel
  show Code.wp _ _ _ _ _;obtain ⟨h1,h2,h3,h4,h5,hown,hb,hacc⟩:=hrel;have HA:=ι hacc;clear hacc;have hsz:=hb.size;obtain ⟨f,rfl⟩:∃ f,k1=f+1:=⟨k1 - 1,by omega⟩
  by_cases hc:h % st=0
  ·have hb:((h:Int) % (st:Int)==0)=true:=by rw [beq_iff_eq]; omega
   have hle:st≤h:=Nat.le_of_dvd (by omega) (Nat.dvd_of_mod_eq_zero hc);have hg:1≤f:=by
    rcases Nat.eq_zero_or_pos f with h0|h0
    ·subst h0; simp at h3; omega
    ·exact h0
   have h6:4194304≤(st*2)*2 ^ (f - 1):=by
    obtain ⟨k,rfl⟩:∃ k,f=k+1:=⟨f - 1,by omega⟩
    simp only [Nat.add_sub_cancel] at h3 ⊢;rw [Nat.pow_succ] at h3;rw [Nat.mul_assoc,Nat.mul_comm 2]; exact h3
   have H1:Hid (acc++ [h - st]++Skip.linksF f h (st*2)=Skip.links h):=ι (by rw [←HA.out,Skip.linksF_yes hc]; simp);have e2:((h:Int) - st)=((h - st:Nat):Int):=by omega
   have E2:=ι e2;clear e2 h3 HA;go_wp2_with (at_builtin; refine wpList_append_new wr1 3 [.int .i64 ((h:Int) - st)] rfl _ _ 43 rfl w.heap.size 1 8 _ info_int Tryz.underlying43 rfl (by decide) _ _ _ rfl hown 1 1 rfl rfl (by simp [Value.oneCell']) (by simp only [maxLen]; omega) (by omega) w.heap.size w ‹_› (Nat.le_refl _) hsz ?_; intro v1 w1 hown1 hb1 _ _ _)
   go_step3
   refine ⟨rfl,hK1 (f) _ _ ?_ (fun Φ hΦ=>hΦ (st*2) (acc++ [h - st]) (v1) ?_)⟩
   ·omega
   ·exact ⟨by omega,by omega,h6,by omega,by simp; omega,by rw [E2.out] at hown1; simpa [ints_snoc] using hown1,hb1,H1.out⟩
  ·have hb:((h:Int) % (st:Int)==0)=false:=by rw [beq_eq_false_iff_ne]; omega
   have H1:Hid (acc=Skip.links h):=ι (by rw [←HA.out,Skip.linksF_no hc]; simp);clear h3 HA;go_wp2
   simp only [Exit.jump]
   go_ret
   rw [←H1.out];exact ⟨_,rfl,hown,‹_›⟩
def linksV (h:Int):List Nat:=if 1≤h∧h≤1048576 then Skip.links h.toNat else []
theorem skip_Links_bad (h:Int) (w:World) (hb:h<1∨1048576<h):
  Calls Tryz.prog 94 #[h] w fun e w'=>e= .returned (.slice none 0 0)∧w=w':=by
 by_cases h1:h<1
 ·go_enter Tryz.func94,Tryz.ntmps94
  go_wp2
  go_step3
  go_wp2
  rw [Exit.noGoto_ret]
  go_ret
  exact ⟨rfl,rfl⟩
 ·have h2:1048576<h:=by omega
  go_enter Tryz.func94,Tryz.ntmps94
  go_wp2
  go_step3
  go_wp2
  rw [Exit.noGoto_ret]
  go_ret
  exact ⟨rfl,rfl⟩
theorem skip_Links_all (h:Int) (w:World):
  Calls Tryz.prog 94 #[h] w fun e w'=>∃ v,e= .returned v∧w'.ownsRow w.heap.size 3 1 v (linksV h).length (ints (linksV h))∧Below w.heap.size w w':=by
 by_cases hc:1≤h∧h≤1048576
 ·obtain ⟨n,rfl⟩:=Int.eq_ofNat_of_zero_le (show 0≤h by omega);rw [show linksV (n:Int)=Skip.links n from by unfold linksV; rw [if_pos hc]; rfl];exact skip_Links n w (by omega) (by omega)
 ·rw [show linksV h= [] from by unfold linksV; rw [if_neg hc]];refine (skip_Links_bad h w (by omega)).mono ?_;rintro e w' ⟨rfl,rfl⟩;exact ⟨_,rfl,World.ownsRow_nil _ _ _ _,Below.refl _ _⟩
end
section
open Go.RowKit Go.Instr
attribute [local go_sem] ba_get ByteArray.mk_append_mk
structure OkH (h:Hd):Prop where
 par:h.par.length≤9223372036854775807
 st:h.st.length≤9223372036854775807
 rc:h.rc.length≤9223372036854775807
 tx:h.tx.length≤9223372036854775807
 mem:h.mem.length≤9223372036854775807
 nxt:h.nxt.length≤9223372036854775807
 sk:h.sk.length≤9223372036854775807
 skl:∀ s∈h.sk,s.length≤9223372036854775807
theorem okH_of {h:Hd} (o:Hd.Ok h):OkH h:=
 {par:=(by have:=o.par_le; omega),st:=(by have:=Hd.maybe_le o.st; omega),rc:=(by have:=Hd.maybe_le o.rc; omega),tx:=(by have:=o.tx; omega),mem:=(by have:=o.mem; omega),nxt:=(by have:=o.nxt; omega),sk:=(by have:=o.sk_le; omega),skl:=fun s hs=>(by have:=o.skl s hs; omega)}
theorem linksV_eq (h:Int):linksV h=Hd.linksH h:=rfl
theorem len32 (s:List UInt8):((s.length:Int)==32)=Hd.sumB s:=by
 unfold Hd.sumB;rw [Bool.eq_iff_iff];simp
 omega
theorem hd_sum (s:List UInt8) (hs:s.length≤9223372036854775807) (w:World):
  Calls Tryz.prog 127 #[s] w fun e w'=>e= .returned (.bool (Hd.sumB s))∧w=w':=by
 have HE:=ι (len32 s);go_enter Tryz.func127,Tryz.ntmps127
 go_wp2
 go_ret
 exact ⟨ret_bool HE.out,rfl⟩
theorem hd_maybe (s:List UInt8) (hs:s.length≤9223372036854775807) (w:World):
  Calls Tryz.prog 130 #[s] w fun e w'=>e= .returned (.bool (Hd.maybeB s))∧w=w':=by
 have HS:=ι (fun W=>hd_sum s hs W);cases s with
 |nil=>
  go_enter Tryz.func130,Tryz.ntmps130
  go_wp2_with fail
  go_ret
  exact ⟨rfl,rfl⟩
 |cons x r=>
  have HE:Hid (Hd.maybeB (x::r)=Hd.sumB (x::r)):=ι rfl;have hne:((x::r)==([]:List UInt8))=false:=rfl;generalize x::r=s at *;generalize Hd.sumB s=b at *;go_enter Tryz.func130,Tryz.ntmps130
  go_wp2_with fail
  refine (HS.out _).mono ?_;rintro e w1 ⟨rfl,rfl⟩;go_wp2_with fail
  go_ret
  exact ⟨ret_bool HE.out.symm,rfl⟩
theorem hd_odd (s:List UInt8) (hs:s.length≤9223372036854775807) (w:World):
  Calls Tryz.prog 128 #[s] w fun e w'=>e= .returned (.bool (!Hd.sumB s))∧w=w':=by
 have HS:=ι (fun W=>hd_sum s hs W);generalize Hd.sumB s=b at *;go_enter Tryz.func128,Tryz.ntmps128
 go_wp2_with fail
 refine (HS.out _).mono ?_;rintro e w1 ⟨rfl,rfl⟩;go_wp2_with fail
 go_ret
 exact ⟨rfl,rfl⟩
theorem hd_in (n:Int) (w:World):
  Calls Tryz.prog 126 #[n,.int .i64 1048576] w fun e w'=>e= .returned (.bool (Hd.inB n))∧w=w':=by
 by_cases h0:0≤n
 ·have h0':(0≤n)=True:=by simp; omega
  have HE:Hid (Hd.inB n=decide (n≤1048576)):=ι (by unfold Hd.inB; rw [decide_eq_true h0]; rfl);clear h0;go_enter Tryz.func126,Tryz.ntmps126
  go_wp2
  go_ret
  exact ⟨ret_bool HE.out.symm,rfl⟩
 ·have h0':(0≤n)=False:=by simp; omega
  have HE:Hid (Hd.inB n=false):=ι (by unfold Hd.inB; rw [decide_eq_false h0]; rfl);clear h0;go_enter Tryz.func126,Tryz.ntmps126
  go_wp2
  go_ret
  exact ⟨ret_bool HE.out.symm,rfl⟩
theorem hd_numbers (w:World) (h:Hd) (A:Option Addr) (c:Nat):
  Calls Tryz.prog 86 #[.agg (η h [.slice A h.sk.length c])] w (Ret w (.bool (Hd.numsB h))):=by
 have HP:Hid (∀ (b:Bool) w',Hd.numsB h=b→Below w.heap.size w w'→Ret w (.bool (Hd.numsB h)) (.returned (.bool b)) w'):=ι (fun b w' e h=>by rw [e]; exact ⟨rfl,h⟩);generalize Ret w (.bool (Hd.numsB h))=P at HP ⊢;have HX:Hid (Hd.numsB h=(Hd.inB h.hgt && Hd.inB h.epo && Hd.inB h.vw)):=ι rfl;generalize Hd.numsB h=X at *;have H0:=ι (fun W=>hd_in h.hgt W);have H1:=ι (fun W=>hd_in h.epo W);have H2:=ι (fun W=>hd_in h.vw W);generalize Hd.inB h.hgt=b0 at *;generalize Hd.inB h.epo=b1 at *;generalize Hd.inB h.vw=b2 at *;go_enter Tryz.func86,Tryz.ntmps86
 go_upto_region 1 with fail
 have F0:=Live.ha (ι (Live.start w)) (η h [.slice A h.sk.length c]) 65;generalize World.alloc w _=W0 at F0 ⊢;generalize w.heap.size=xb at F0 ⊢;have k0:=(F0.out.blk 0 rfl).c11;go_wp2_with fail
 refine (H0.out _).mono ?_;rintro e w1 ⟨rfl,rfl⟩;cases b0 with
 |false=>
  go_wp2_with fail
  exact HP.out _ _ HX.out F0.out.b
 |true=>
 go_wp2_with fail
 refine (H1.out _).mono ?_;rintro e w1 ⟨rfl,rfl⟩;cases b1 with
 |false=>
  go_wp2_with fail
  exact HP.out _ _ HX.out F0.out.b
 |true=>
 go_wp2_with fail
 refine (H2.out _).mono ?_;rintro e w1 ⟨rfl,rfl⟩;go_wp2_with fail
 exact HP.out _ _ (by rw [HX.out]; rfl) F0.out.b
theorem z_32 {P:Prop} (h:P:=by
 go_enter Tryz.func87,Tryz.ntmps87
 go_upto_region 1 with fail
 have F0:=Live.ha (ι (Live.start w)) (η h [.slice A h.sk.length c]) 65;generalize World.alloc w _=W0 at F0 ⊢;generalize w.heap.size=xb at F0 ⊢;have k0:=(F0.out.blk 0 rfl).c11;go_wp2_with fail
 exact HP.out _ _ HX.out F0.out.b):P:=h
theorem hd_first (w:World) (h:Hd) (o:OkH h) (A:Option Addr) (c:Nat):
  Calls Tryz.prog 87 #[.agg (η h [.slice A h.sk.length c])] w (Ret w (.bool (Hd.firstB h))):=by
 have HP:Hid (∀ (b:Bool) w',Hd.firstB h=b→Below w.heap.size w w'→Ret w (.bool (Hd.firstB h)) (.returned (.bool b)) w'):=ι (fun b w' e h=>by rw [e]; exact ⟨rfl,h⟩);generalize Ret w (.bool (Hd.firstB h))=P at HP ⊢;have HX:Hid (Hd.firstB h=if 0<h.hgt then Hd.sumB h.par else h.par.isEmpty && decide (h.epo=0) && decide (h.vw=0) && h.last):=ι rfl;generalize Hd.firstB h=X at *;have HS:=ι (fun W=>hd_sum h.par o.par W);generalize Hd.sumB h.par=b at *;clear o;by_cases h0:0<h.hgt
 ·have h0':(0<h.hgt)=True:=by simp; omega
  have HX:=ι (HX.out.trans (if_pos h0));clear h0;go_enter Tryz.func87,Tryz.ntmps87
  go_upto_region 1 with fail
  have F0:=Live.ha (ι (Live.start w)) (η h [.slice A h.sk.length c]) 65;generalize World.alloc w _=W0 at F0 ⊢;generalize w.heap.size=xb at F0 ⊢;have k0:=(F0.out.blk 0 rfl).c11;go_wp2_with fail
  refine (HS.out _).mono ?_;rintro e w1 ⟨rfl,rfl⟩;go_wp2_with fail
  exact HP.out _ _ HX.out F0.out.b
 ·have h0':(0<h.hgt)=False:=by simp; omega
  have HX:=ι (HX.out.trans (if_neg h0));have hpe:h.par.isEmpty=(h.par== []):=by cases h.par<;>rfl
  have hp0:decide (h.epo=0)=(h.epo==0):=rfl;have hp1:decide (h.vw=0)=(h.vw==0):=rfl;rw [hpe,hp0,hp1] at HX;clear h0 hpe hp0 hp1 HS;cases e0:h.par== [] with
  |false=>
   rw [e0] at HX;exact z_32
  |true=>
  cases e1:h.epo==0 with
  |false=>
   rw [e0,e1] at HX;exact z_32
  |true=>
  cases e2:h.vw==0 with
  |false=>
   rw [e0,e1,e2] at HX;exact z_32
  |true=>
   rw [e0,e1,e2] at HX;go_enter Tryz.func87,Tryz.ntmps87
   go_upto_region 1 with fail
   have F0:=Live.ha (ι (Live.start w)) (η h [.slice A h.sk.length c]) 65;generalize World.alloc w _=W0 at F0 ⊢;generalize w.heap.size=xb at F0 ⊢;have k0:=(F0.out.blk 0 rfl).c11;go_wp2_with fail
   exact HP.out _ _ (by rw [HX.out]; rfl) F0.out.b
end
end Go.Proofs.YtnelhjfjkkdoaaaGreatDoor