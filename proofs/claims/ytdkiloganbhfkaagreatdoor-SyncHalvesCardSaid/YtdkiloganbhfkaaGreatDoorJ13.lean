import Derived.Test.YtdkiloganbhfkaaGreatDoorJ12
import Derived.Maps.RangeWalk
set_option linter.unusedSimpArgs false
set_option linter.unusedVariables false
set_option maxHeartbeats 4000000
set_option maxRecDepth 100000
namespace Go.Proofs.YtdkiloganbhfkaaGreatDoor
section
open Go.RowKit Go.Instr
theorem tk {P:Program} {md:Region.Mode} {ops:Array Oper} {Q:Exit→Act→World→Prop} {S:World→Prop} {fuel:Nat} {listed:Array Bool} {a:Act} {w:World} {v:Value} {op:Op} {ty:TypeId} {pos:String} {af:Array Edge} {gd:Option (Nat × Bool)} (i s:Nat) (hi:ops[i]?=some ⟨some s,op,ty,pos,af,gd⟩)
  (h:wpAnyH P md ops Q S fuel (listed.setIfInBounds i true) (a.put (some s) v) w) (hs:Region.noSelect ops=true:=by kernel_rfl) (hf:Region.free md ops listed i=true:=by kernel_rfl) (hr:(Region.ready md ops listed).contains i=true:=by kernel_rfl)
  (hQ:∀ c a w,Q (.panic c) (a.put (some s) v) w→Q (.panic c) a w:=by exact fun _ _ _ h=>h) (hy:YieldsIf P ops S ⟨some s,op,ty,pos,af,gd⟩ v a:=by first|(refine Or.inl ⟨by rfl,?_⟩; intro w hSw; (try dsimp only at hSw); (try go_split_ands); go_simp; (first|done|with_reducible rfl))|exact Or.inr ⟨by rfl,rfl⟩) (hS:S w:=by assumption):
  wpAnyH P md ops Q S (fuel+1) listed a w:=wpAnyH_take hi hs hf hr hQ hy hS h
section
variable {P:Program} {md:Region.Mode} {ops:Array Oper} {Q:Exit→Act→World→Prop} {S:World→Prop} {fuel:Nat} {listed:Array Bool} {a:Act} {w:World} {o p:Oper}
theorem rd1 (i:Nat) (ho:ops[i]?=some o) (h:∀ K':Act→World→Prop,Shut (∀ a w,S w→(S w→wpAnyH P md ops Q S fuel (listed.setIfInBounds i true) a w)→K' a w)→if Region.wanted o (yielded ops a.tmps)=true then Oper.wp P o a w K' Q else K' (a.put o.dst undef) w) (hr:Region.ready md ops listed= [i]:=by kernel_rfl):
  wpAnyH P md ops Q S (fuel+1) listed a w:=wpAnyH_ready hr (by simp) (AllReadyH.cons ho h AllReadyH.nil)
theorem rd2 (i j:Nat) (ho:ops[i]?=some o) (hp:ops[j]?=some p) (h:∀ K':Act→World→Prop,Shut (∀ a w,S w→(S w→wpAnyH P md ops Q S fuel (listed.setIfInBounds i true) a w)→K' a w)→if Region.wanted o (yielded ops a.tmps)=true then Oper.wp P o a w K' Q else K' (a.put o.dst undef) w)
  (h2:∀ K':Act→World→Prop,Shut (∀ a w,S w→(S w→wpAnyH P md ops Q S fuel (listed.setIfInBounds j true) a w)→K' a w)→if Region.wanted p (yielded ops a.tmps)=true then Oper.wp P p a w K' Q else K' (a.put p.dst undef) w) (hr:Region.ready md ops listed= [i,j]:=by kernel_rfl):
  wpAnyH P md ops Q S (fuel+1) listed a w:=wpAnyH_ready hr (by simp) (AllReadyH.cons ho h (AllReadyH.cons hp h2 AllReadyH.nil))
end
end
section
open Go.RowKit
theorem flat_len {α:Type} (f:α→List Value) (k:Nat) (hf:∀ x,(f x).length=k):∀ l:List α,(l.flatMap f).length=l.length*k
 | []=>by simp
 |x::l=>by
  rw [List.flatMap_cons,List.length_append,flat_len f k hf l,hf x,List.length_cons,Nat.succ_mul]; omega
theorem flat_at {α:Type} (f:α→List Value) (k:Nat) (hf:∀ x,(f x).length=k):∀ (l:List α) (i:Nat) (hi:i<l.length) (j:Nat),j<k→(l.flatMap f)[i*k+j]?=(f l[i])[j]?
 | [],i,hi,_,_=>absurd hi (by simp)
 |x::l,0,_,j,hj=>by
  rw [List.flatMap_cons,Nat.zero_mul,Nat.zero_add,List.getElem?_append_left (by rw [hf x]; exact hj)]; rfl
 |x::l,i+1,hi,j,hj=>by
  rw [List.flatMap_cons,List.getElem?_append_right (by rw [hf x,Nat.succ_mul]; omega),hf x];rw [show (i+1)*k+j - k=i*k+j by rw [Nat.succ_mul]; omega];exact flat_at f k hf l i (by simpa using hi) j hj
theorem flat_cells {α:Type} {f:α→List Value} {k:Nat} (hf:∀ x,(f x).length=k) (hk:0<k) {w:World} {B:Nat} {A:Option Addr} {l:List α} (h:Reads w B k A l.length (l.flatMap f)) {i:Nat} (hi:i<l.length):
  ∃ ad off,A=some ⟨ad,off,none⟩∧ad<B∧∀ W,Below B w W→∀ (j:Nat) (v:Value),(f l[i])[j]?=some v→W.cell? ⟨ad,off+i*k+j,none⟩=some v:=by
 obtain ⟨ad,off,rfl,hb,hc⟩:=h.form (by omega) hk;refine ⟨ad,off,rfl,hb,fun W hW j v hv=> ?_⟩;have hj:j<k:=by have:=(List.getElem?_eq_some_iff.1 hv).1; rwa [hf] at this
 rw [hW.cell (p:=⟨ad,off+i*k+j,none⟩) hb];have h1:=flat_at f k hf l i hi j hj;rw [hv] at h1;obtain ⟨h2,h3⟩:=List.getElem?_eq_some_iff.1 h1
 have:=hc (i*k+j) h2
 rw [h3] at this;rw [Nat.add_assoc]; exact this
end
section
open Go.RowKit Go.Instr
attribute [local go_sem] ba_get ByteArray.mk_append_mk
def mcell (m:Pw.Mem):List Value:= [.string ⟨m.1.toArray⟩,.int .i64 m.2]
abbrev mcells (l:List Pw.Mem):List Value:=l.flatMap mcell
theorem mcell_len (m:Pw.Mem):(mcell m).length=2:=rfl
theorem mem_cells {w:World} {B:Nat} {A:Option Addr} {l:List Pw.Mem} (h:Reads w B 2 A l.length (mcells l)) {i:Nat} (hi:i<l.length):
  ∃ ad off,A=some ⟨ad,off,none⟩∧ad<B∧∀ W,Below B w W→W.cell? ⟨ad,off+i*2,none⟩=some (.string ⟨l[i].1.toArray⟩)∧W.cell? ⟨ad,off+i*2+1,none⟩=some (.int .i64 l[i].2):=by
 obtain ⟨ad,off,h1,h2,h3⟩:=flat_cells mcell_len (by decide) h hi;exact ⟨ad,off,h1,h2,fun W hW=>⟨h3 W hW 0 _ rfl,h3 W hW 1 _ rfl⟩⟩
theorem bl_leq (a b:List UInt8):(Op.bytesLess a b||a==b)= !Op.bytesLess b a:=by
 cases h:Op.bytesLess b a with
 |true=>
  have h1:=bl_asymm b a h;have h2:(a==b)=false:=by
   rw [beq_eq_false_iff_ne]; intro e; subst e; rw [bl_irrefl] at h; cases h
  rw [h1,h2]; rfl
 |false=>
  cases h1:Op.bytesLess a b with
  |true=>rfl
  |false=>rw [bl_tri a b h1 h]; simp
def codeM (b:Bool):Int:=if b then 0 else 50
theorem power_Check (w:World) (l:List Pw.Mem) (hs:∀ x∈l,x.1.length≤9223372036854775807) (A:Option Addr) (c:Nat) (HR:Reads w w.heap.size 2 A l.length (mcells l)):
  Calls Tryz.prog 49 #[.slice A l.length c] w (Ret w (.int .i64 (codeM (Pw.okM l)))):=by
 have HP:Hid (∀ (b:Bool) w',Pw.okM l=b→Below w.heap.size w w'→Ret w (.int .i64 (codeM (Pw.okM l))) (.returned (.int .i64 (codeM b))) w'):=ι (fun b w' h1 h2=>by rw [h1]; exact ⟨rfl,h2⟩);generalize Ret w (.int .i64 (codeM (Pw.okM l)))=P at HP ⊢;have HPt:=ι (fun w' h1 h2=>HP.out true w' h1 h2);have HPf:=ι (fun w' h1 h2=>HP.out false w' h1 h2);simp only [codeM,if_true,Bool.false_eq_true,if_false] at HPt HPf;clear HP;by_cases h0:l= []
 ·subst h0;go_enter Tryz.func49,Tryz.ntmps49
  go_wp2
  exact HPf.out _ rfl (Below.refl _ _)
 have hl0:((l.length:Int)==0)=false:=by rw [beq_eq_false_iff_ne]; intro e; exact h0 (List.eq_nil_of_length_eq_zero (by omega))
 by_cases h7:7<l.length
 ·have hl7:(7:Int)<l.length:=by omega
  have HNo:Hid (Pw.okM l=false):=ι (by unfold Pw.okM; rw [decide_eq_false (show ¬l.length≤7 by omega)]; simp);clear h0 h7 HR hs;go_enter Tryz.func49,Tryz.ntmps49
  go_wp2
  exact HPf.out _ HNo.out (Below.refl _ _)
 have hl7:((7:Int)<l.length)=False:=by simp; omega
 have HK:Hid (Pw.okM l=Pw.risM [] l):=ι (by
  unfold Pw.okM;rw [decide_eq_true (show 1≤l.length from List.length_pos_iff.2 h0),decide_eq_true (show l.length≤7 by omega)]; rfl)
 have HRR:=ι HR;have HS:=ι hs;have HL7:=ι (Nat.le_of_not_lt h7);clear HR hs h0 h7;go_enter Tryz.func49,Tryz.ntmps49
 go_wp2_with fail
 refine wp_loop_ghost_k (fun k a wr=>∀ Φ:Act→Prop,(∀ ⦃s0 s1 s2 s4 s5 s6 s7 s8 s9 s3 a0 a2 a3 a4 a5 a6 a7 a8 a9 b0 b1 b2 b3 b4 b5 b6 b7 b8 b9 c0 c1 c3 c4 c5 c6 c7 c8 c9 d0:Value⦄ (i:Nat) (last:List UInt8),(i+k=l.length∧Pw.risM [] l=Pw.risM last (l.drop i)∧Below w.heap.size w wr)→Φ {tmps:=#[s0,s1,s2,.string ⟨last.toArray⟩,s4,s5,s6,s7,s8,s9,s3,a0,a2,a3,.slice A l.length c,.int .i64 l.length,.int .i64 (i:Int),a4,a5,a6,a7,a8,a9,b0,b1,b2,b3,b4,b5,b6,b7,b8,b9,c0,c1,c3,c4,c5,c6,c7,c8,c9,d0],defers:= []})→Φ a) (l.length) ?_ ?_
 ·refine fun Φ hΦ=>hΦ (0) ([]) ?_;exact ⟨by omega,rfl,Below.refl _ _⟩
 ·intro k1 a1 wr1 hI1 J1 K1 hJ1 hK1;refine hI1 (fun a=>Code.wp _ _ _ a _) ?_;clear hI1 a1;iterate 39 (intro _)
  intro i last hrel
  show Code.wp _ _ _ _ _;obtain ⟨h1,h2,hb⟩:=hrel;by_cases hi:i<l.length
  ·obtain ⟨ad,off,rfl,hbl,hcell⟩:=mem_cells HRR.out hi;obtain ⟨r0,r1⟩:=hcell _ hb;have hi1:(i:Int)<l.length:=by omega
   have hi0:(0:Int)≤i:=by omega
   have hi8:(i:Int)<8:=by have:=HL7.out; omega
   have hd:l.drop i=l[i]::l.drop (i+1):=List.drop_eq_getElem_cons hi;have hlen:=HS.out _ (List.getElem_mem hi);rw [hd] at h2;have HI:=ι (And.intro h1 hb);clear h1 hb hcell hd hbl;generalize l[i]=x at *;have H2:=ι (HK.out.trans h2);clear h2;go_upto_region 7 with fail
   have F1:=Live.ha (ι (Live.start wr1)) #[x.1,x.2] 94;generalize World.alloc wr1 _=W1 at F1 ⊢;generalize wr1.heap.size=bm at F1 ⊢;clear r0 r1;have k0:=(F1.out.blk 0 rfl).c2;by_cases g1:6<x.1.length
   ·have g1':(6:Int)<x.1.length:=by omega
    have HNo:Hid (Pw.okM l=false):=ι (by rw [H2.out,Pw.risM,decide_eq_false (show ¬x.1.length≤6 by omega)]; simp);clear g1;go_wp2_with fail
    exact HPf.out _ HNo.out (HI.out.2.nxt F1.out.b)
   have g1':((6:Int)<x.1.length)=False:=by simp; omega
   have hq:=bl_leq x.1 last;cases g2:Op.bytesLess last x.1 with
   |false=>
    have HNo:Hid (Pw.okM l=false):=ι (by rw [H2.out,Pw.risM,g2]; simp);rw [g2,Bool.not_false] at hq;clear g1 g2;go_wp2_with fail
    exact HPf.out _ HNo.out (HI.out.2.nxt F1.out.b)
   |true=>
   rw [g2,Bool.not_true] at hq;by_cases g3:x.2<1
   ·have g3':(x.2<1)=True:=by simp; omega
    have HNo:Hid (Pw.okM l=false):=ι (by rw [H2.out,Pw.risM,decide_eq_false (show ¬1≤x.2 by omega)]; simp);clear g1 g2;go_wp2_with fail
    exact HPf.out _ HNo.out (HI.out.2.nxt F1.out.b)
   have g3':(x.2<1)=False:=by simp; omega
   by_cases g4:1000<x.2
   ·have HNo:Hid (Pw.okM l=false):=ι (by rw [H2.out,Pw.risM,decide_eq_false (show ¬x.2≤1000 by omega)]; simp);clear g1 g2;go_wp2_with fail
    exact HPf.out _ HNo.out (HI.out.2.nxt F1.out.b)
   have g4':(1000<x.2)=False:=by simp; omega
   have HY:Hid (Pw.okM l=Pw.risM x.1 (l.drop (i+1))):=ι (by
    rw [H2.out,Pw.risM,decide_eq_true (show x.1.length≤6 by omega),g2,decide_eq_true (show 1≤x.2 by omega),decide_eq_true (show x.2≤1000 by omega)]; rfl)
   clear g1 g2 g3 g4 H2;go_wp2_with fail
   refine Handed.intro (l.length - (i+1)) ?_ (hJ1 _ _ _ (fun Φ hΦ=>hΦ (i+1) (x.1) ?_))
   ·have:=HI.out.1; omega
   exact ⟨by have:=HI.out.1; omega,HK.out.symm.trans HY.out,HI.out.2.nxt F1.out.b⟩
  ·have hi1:((i:Int)<l.length)=False:=by simp; omega
   have HY:Hid (Pw.okM l=true):=ι (by rw [HK.out,h2,List.drop_of_length_le (by omega),Pw.risM]);have HI:=ι hb;clear h1 h2 hb hi;go_wp2_with fail
   exact HPt.out _ HY.out HI.out
theorem bl_nil (a:List UInt8):Op.bytesLess a []=false:=by cases a<;>rfl
def prevM (l:List Pw.Mem) (i:Nat):List UInt8:=if i=0 then [] else (((l[i - 1]?).map (·.1)).getD [])
theorem prevM_succ (l:List Pw.Mem) (i:Nat) (hi:i<l.length):prevM l (i+1)=l[i].1:=by
 unfold prevM;rw [if_neg (by omega),Nat.add_sub_cancel,List.getElem?_eq_getElem hi];rfl
theorem ref05_Check (w:World) (l:List Pw.Mem) (hs:∀ x∈l,x.1.length≤9223372036854775807) (A:Option Addr) (c:Nat) (HR:Reads w w.heap.size 2 A l.length (mcells l)):
  Calls Tryz.prog 93 #[.slice A l.length c] w (Ret w (.int .i64 (codeM (Pw.okM l)))):=by
 have HP:Hid (∀ (b:Bool) w',Pw.okM l=b→Below w.heap.size w w'→Ret w (.int .i64 (codeM (Pw.okM l))) (.returned (.int .i64 (codeM b))) w'):=ι (fun b w' h1 h2=>by rw [h1]; exact ⟨rfl,h2⟩);generalize Ret w (.int .i64 (codeM (Pw.okM l)))=P at HP ⊢;have HPt:=ι (fun w' h1 h2=>HP.out true w' h1 h2);have HPf:=ι (fun w' h1 h2=>HP.out false w' h1 h2);simp only [codeM,if_true,Bool.false_eq_true,if_false] at HPt HPf;clear HP;by_cases h0:l= []
 ·subst h0;go_enter Tryz.func93,Tryz.ntmps93
  go_wp2
  exact HPf.out _ rfl (Below.refl _ _)
 have hl0:((l.length:Int)<1)=False:=by have:=List.length_pos_iff.2 h0; simp; omega
 by_cases h7:7<l.length
 ·have hl7:(7:Int)<l.length:=by omega
  have HNo:Hid (Pw.okM l=false):=ι (by unfold Pw.okM; rw [decide_eq_false (show ¬l.length≤7 by omega)]; simp);clear h0 h7 HR hs;go_enter Tryz.func93,Tryz.ntmps93
  go_wp2
  exact HPf.out _ HNo.out (Below.refl _ _)
 have hl7:((7:Int)<l.length)=False:=by simp; omega
 have HK:Hid (Pw.okM l=Pw.risM [] l):=ι (by
  unfold Pw.okM;rw [decide_eq_true (show 1≤l.length from List.length_pos_iff.2 h0),decide_eq_true (show l.length≤7 by omega)]; rfl)
 have HRR:=ι HR;have HS:=ι hs;have HL7:=ι (Nat.le_of_not_lt h7);clear HR hs h0 h7;go_enter Tryz.func93,Tryz.ntmps93
 go_wp2_with fail
 refine wp_loop_ghost_k (fun k a wr=>∀ Φ:Act→Prop,(∀ ⦃s1 s2 s4 s5 s6 s7 s8 s9 s0 s3 a0 a2 a3 a4 a5 a6 a7 a8 a9 b0 b1 b2 b3 b4 b5 b6 b7 b8 b9 c0 c1 c2 c3 c4 c5 c6 c7 c8 c9 d0 d1 d2 d3 d4 d5 d6 d7 d8 d9 e0 e1 e4 e5 e6 e7 e8 e9 f0 f1 f2 f3 f4 f5 f6:Value⦄ (i:Nat),(i+k=l.length∧Pw.risM [] l=Pw.risM (prevM l i) (l.drop i)∧Below w.heap.size w wr)→Φ {tmps:=#[.slice A l.length c,s1,s2,.int .i64 (i:Int),s4,s5,s6,s7,s8,s9,s0,s3,a0,a2,a3,a4,a5,a6,a7,a8,a9,b0,b1,b2,b3,b4,b5,b6,b7,b8,b9,c0,c1,c2,c3,c4,c5,c6,c7,c8,c9,d0,d1,d2,d3,d4,d5,d6,d7,d8,d9,e0,e1,e4,e5,e6,e7,e8,e9,f0,f1,f2,f3,f4,f5,f6],defers:= []})→Φ a) (l.length) ?_ ?_
 ·refine fun Φ hΦ=>hΦ (0) ?_;exact ⟨by omega,rfl,Below.refl _ _⟩
 ·intro k1 a1 wr1 hI1 J1 K1 hJ1 hK1;refine hI1 (fun a=>Code.wp _ _ _ a _) ?_;clear hI1 a1;iterate 64 (intro _)
  intro i hrel
  show Code.wp _ _ _ _ _;obtain ⟨h1,h2,hb⟩:=hrel;by_cases hi:i<l.length
  ·obtain ⟨ad,off,rfl,hbl,hcell⟩:=mem_cells HRR.out hi;obtain ⟨r0,r1⟩:=hcell _ hb;have hi1:(i:Int)<l.length:=by omega
   have hi0:(0:Int)≤i:=by omega
   have hi8:(i:Int)<8:=by have:=HL7.out; omega
   have hd:l.drop i=l[i]::l.drop (i+1):=List.drop_eq_getElem_cons hi;have hps:=prevM_succ l i hi;rw [hd] at h2;have HI:=ι (And.intro h1 hb);have hpr:∀ j,i=j+1→wr1.cell? ⟨ad,off+j*2,none⟩=some (.string ⟨(prevM l i).toArray⟩):=fun j e=>by
    subst e;obtain ⟨ad2,off2,e2,_,hc2⟩:=mem_cells HRR.out (show j<l.length by omega);injection e2 with e2
    injection e2 with e2 e3
    subst e2;subst e3;rw [prevM_succ l j (by omega)];exact (hc2 _ hb).1
   clear h1 hb hcell hd hbl;generalize l[i]=x at *;have H2:=ι (HK.out.trans h2);clear h2;by_cases g0:x.1.length<1
   ·have g0':(x.1.length:Int)<1:=by omega
    have HNo:Hid (Pw.okM l=false):=ι (by rw [H2.out,Pw.risM,List.eq_nil_of_length_eq_zero (show x.1.length=0 by omega),bl_nil]; simp);clear g0 hpr hps;go_wp2_with fail
    exact HPf.out _ HNo.out HI.out.2
   have g0':((x.1.length:Int)<1)=False:=by simp; omega
   by_cases g1:6<x.1.length
   ·have g1':(6:Int)<x.1.length:=by omega
    have HNo:Hid (Pw.okM l=false):=ι (by rw [H2.out,Pw.risM,decide_eq_false (show ¬x.1.length≤6 by omega)]; simp);clear g0 g1 hpr hps;go_wp2_with fail
    exact HPf.out _ HNo.out HI.out.2
   have g1':((6:Int)<x.1.length)=False:=by simp; omega
   by_cases g3:x.2<1
   ·have g3':(x.2<1)=True:=by simp; omega
    have HNo:Hid (Pw.okM l=false):=ι (by rw [H2.out,Pw.risM,decide_eq_false (show ¬1≤x.2 by omega)]; simp);clear g0 g1 hpr hps;go_wp2_with fail
    exact HPf.out _ HNo.out HI.out.2
   have g3':(x.2<1)=False:=by simp; omega
   by_cases g4:1000<x.2
   ·have HNo:Hid (Pw.okM l=false):=ι (by rw [H2.out,Pw.risM,decide_eq_false (show ¬x.2≤1000 by omega)]; simp);clear g0 g1 hpr hps;go_wp2_with fail
    exact HPf.out _ HNo.out HI.out.2
   have g4':(1000<x.2)=False:=by simp; omega
   rcases Nat.eq_zero_or_pos i with rfl|hp
   ·have g2:Op.bytesLess (prevM l 0) x.1=true:=by
     cases hx:x.1 with
     |nil=>rw [hx] at g0; simp at g0
     |cons a r=>rfl
    have HY:Hid (Pw.okM l=Pw.risM (prevM l (0+1)) (l.drop (0+1))):=ι (by
     rw [H2.out,hps,Pw.risM,decide_eq_true (show x.1.length≤6 by omega),g2,decide_eq_true (show 1≤x.2 by omega),decide_eq_true (show x.2≤1000 by omega)]; rfl)
    rw [Nat.zero_mul,Nat.add_zero] at r0 r1;have hi1:(0:Int)<l.length:=by omega
    clear hps hpr g0;clear g1 g2 g3 g4 H2;go_wp2_with fail
    go_quiet (fail)
    go_wp2_with fail
    refine Handed.intro (l.length - (0+1)) ?_ (hJ1 _ _ _ (fun Φ hΦ=>hΦ (0+1) ?_))
    ·have:=HI.out.1; omega
    exact ⟨by have:=HI.out.1; omega,HK.out.symm.trans HY.out,below_drewN HI.out.2 _⟩
   obtain ⟨j,rfl⟩:∃ j,i=j+1:=⟨i - 1,by omega⟩
   have p0:=hpr j rfl;have hq:=bl_leq x.1 (prevM l (j+1));have hz:(0:Int)<((j+1:Nat):Int):=by omega
   have hz2:decide ((0:Int)<((j+1:Nat):Int))=true:=decide_eq_true hz;have hwj:IntKind.i64.wrap (((j+1:Nat):Int) - 1)=(j:Int):=by rw [show ((j+1:Nat):Int) - 1=(j:Int) by omega]; exact IntWalk.i64_in _ (by omega)
   have hj0:(0:Int)≤j:=by omega
   have hj1:(j:Int)<l.length:=by omega
   cases g2:Op.bytesLess (prevM l (j+1)) x.1 with
   |false=>
    have HNo:Hid (Pw.okM l=false):=ι (by rw [H2.out,Pw.risM,g2]; simp);rw [g2,Bool.not_false] at hq;clear hps hpr g0 g1 g2 g3 g4 H2;generalize prevM l (j+1)=q at *;go_wp2_with fail
    go_quiet (fail)
    go_wp2_with fail
    exact HPf.out _ HNo.out (below_drewN HI.out.2 _)
   |true=>
    have HY:Hid (Pw.okM l=Pw.risM (prevM l (j+1+1)) (l.drop (j+1+1))):=ι (by
     rw [H2.out,hps,Pw.risM,decide_eq_true (show x.1.length≤6 by omega),g2,decide_eq_true (show 1≤x.2 by omega),decide_eq_true (show x.2≤1000 by omega)]; rfl)
    rw [g2,Bool.not_true] at hq;clear hps hpr g0;clear g1 g2 g3 g4 H2;go_wp2_with fail
    go_quiet (fail)
    go_wp2_with fail
    refine Handed.intro (l.length - ((j+1)+1)) ?_ (hJ1 _ _ _ (fun Φ hΦ=>hΦ ((j+1)+1) ?_))
    ·have:=HI.out.1; omega
    exact ⟨by have:=HI.out.1; omega,HK.out.symm.trans HY.out,below_drewN HI.out.2 _⟩
  ·have hi1:((i:Int)<l.length)=False:=by simp; omega
   have HY:Hid (Pw.okM l=true):=ι (by rw [HK.out,h2,List.drop_of_length_le (by omega),Pw.risM]);have HI:=ι hb;clear h1 h2 hb hi;go_wp2_with fail
   exact HPt.out _ HY.out HI.out
theorem ref02_Number (n:Nat) (hn:n<9223372036854775808) (w:World):
  Calls Tryz.prog 150 #[n] w fun e w'=>e= .returned (.string ⟨(numW n).toArray⟩)∧Below w.heap.size w w':=by
 have HP:Hid (∀ w',Below w.heap.size w w'→(fun e w'=>e=Ending.returned (.string ⟨(numW n).toArray⟩)∧Below w.heap.size w w') (Ending.returned (.string ⟨(UInt8.ofNat (beB n).length::beB n).toArray⟩)) w'):=ι (fun w' hb=>⟨rfl,hb⟩);generalize (fun e w'=>e=Ending.returned (.string ⟨(numW n).toArray⟩)∧Below w.heap.size w w')=P at HP ⊢;have HL:=ι (beB_len 8 n (by omega));have HN:=ι hn;clear hn;go_enter Tryz.func150,Tryz.ntmps150
 go_wp2_with fail
 refine wp_loop_ghost_k (fun k a wr=>∀ Φ:Act→Prop,(∀ ⦃s1 s2 s4 s5 s6 s7 s8 s9 s0 s3 a0 a2 a3 a4 a5 a6 a7 a8 a9 b0:Value⦄ (m:Nat) (s:List UInt8),(m=k∧m≤n∧beB n=beB m++s∧Below w.heap.size w wr)→Φ {tmps:=#[.int .i64 (m:Int),s1,s2,.string ⟨s.toArray⟩,s4,s5,s6,s7,s8,s9,s0,s3,a0,a2,a3,a4,a5,a6,a7,a8,a9,b0],defers:= []})→Φ a) (n) ?_ ?_
 ·refine fun Φ hΦ=>hΦ (n) ([]) ?_;exact ⟨rfl,Nat.le_refl _,by simp,Below.refl _ _⟩
 ·intro k1 a1 wr1 hI1 J1 K1 hJ1 hK1;refine hI1 (fun a=>Code.wp _ _ _ a _) ?_;clear hI1 a1;iterate 20 (intro _)
  intro m s hrel
  show Code.wp _ _ _ _ _;obtain ⟨h1,h2,h3,hb⟩:=hrel;have HB:=ι hb;have H3:=ι h3;have H2:=ι h2;have H1:=ι h1;have hAl:Hid (∀ f,Below w.heap.size w (wr1.alloc (.cells f 5))):=ι (fun f=>hb.trans ((show Below wr1.heap.size wr1 (wr1.alloc (.cells f 5)) from by go_grown).mono hb.size));clear h1 h2 h3 hb;by_cases hm:0<m
  ·have hm1:(0:Int)<(m:Int):=by omega
   have er:(m:Int).tmod 256=((m % 256:Nat):Int):=by rw [Int.tmod_eq_emod_of_nonneg (by omega)]; omega
   have eq:(m:Int).tdiv 256=((m / 256:Nat):Int):=by rw [Int.tdiv_eq_ediv_of_nonneg (by omega)]; omega
   have ew2:((m % 256:Nat):Int) % 256=((m % 256:Nat):Int):=by omega
   have cv:=conv1d wr1 ((m:Int) % 256) (by omega) (by omega);have cv2:=conv1 wr1 ((m:Int) % 256) (by omega) (by omega);rw [show UInt8.ofNat ((m:Int) % 256).toNat=UInt8.ofNat m by rw [show ((m:Int) % 256).toNat=m % 256 by omega]; apply UInt8.toNat_inj.1; simp] at cv cv2;have HE:Hid (beB n=beB (m / 256)++UInt8.ofNat m::s):=ι (by rw [H3.out,beB_pos hm,List.append_assoc]; rfl);have hsl:s.length≤8:=by have:=congrArg List.length HE.out; simp at this; have:=HL.out; omega
   have HMd:Hid (m / 256<m∧m / 256≤n):=ι ⟨by omega,by have:=H2.out; omega⟩;have hsl2:s.length+1≤9223372036854775807:=by omega
   have hsl3:1+s.length≤9223372036854775807:=by omega
   have wd:wrap64 ((m:Int) / 256)=((m / 256:Nat):Int):=by rw [IntWalk.wrap64_in _ (by have:=H2.out; have:=HN.out; omega)]; omega
   go_wp2
   simp only [wd];refine Handed.intro (m / 256) ?_ (hJ1 _ _ _ (fun Φ hΦ=>hΦ (m / 256) (UInt8.ofNat m::s) ?_))
   ·have:=H1.out; have:=HMd.out.1; omega
   exact ⟨rfl,HMd.out.2,HE.out,hAl.out _⟩
  ·have hm1:(0<m)=False:=by simp; omega
   have HE:Hid (beB n=s):=ι (by rw [H3.out,show m=0 by omega,beB_zero]; rfl);have hsl:s.length≤8:=by have:=HE.out; have:=HL.out; rw [‹beB n=s›] at this; exact this
   rw [HE.out] at HP;have cv:=conv1d wr1 (s.length:Int) (by omega) (by omega);have cv2:=conv1 wr1 (s.length:Int) (by omega) (by omega);rw [show UInt8.ofNat ((s.length:Int)).toNat=UInt8.ofNat s.length by congr 1] at cv cv2;clear hm H3 HE;have hsl2:s.length+1≤9223372036854775807:=by omega
   have hsl3:1+s.length≤9223372036854775807:=by omega
   go_wp2
   exact HP.out _ (hAl.out _)
theorem ref02_Text (s:List UInt8) (hs:s.length≤9223372036854775000) (w:World):
  Calls Tryz.prog 154 #[s] w fun e w'=>e= .returned (.string ⟨(textW s).toArray⟩)∧Below w.heap.size w w':=by
 have HP:Hid (∀ w',Below w.heap.size w w'→(fun e w'=>e=Ending.returned (.string ⟨(textW s).toArray⟩)∧Below w.heap.size w w') (Ending.returned (.string ⟨(numW s.length++s).toArray⟩)) w'):=ι (fun w' hb=>⟨rfl,hb⟩);generalize (fun e w'=>e=Ending.returned (.string ⟨(textW s).toArray⟩)∧Below w.heap.size w w')=P at HP ⊢;go_enter Tryz.func154,Tryz.ntmps154
 go_wp2_with fail
 refine (ref02_Number s.length (by omega) _).mono ?_;rintro e w1 ⟨rfl,hb⟩;have hl:=numW_len s.length (by omega);generalize numW s.length=N at *;have hsum:N.length+s.length≤9223372036854775807:=by omega
 go_wp2
 exact HP.out _ hb
def encMo (l:List Pw.Mem):List UInt8:=if Pw.okM l then Pw.encM l else []
theorem flat_take (l:List Pw.Mem) (i:Nat) (hi:i<l.length):((l.take (i+1)).map Pw.memB).flatten=((l.take i).map Pw.memB).flatten++Pw.memB l[i]:=by
 rw [List.take_succ_eq_append_getElem hi,List.map_append,List.flatten_append,List.map_cons,List.map_nil,List.flatten_cons,List.flatten_nil,List.append_nil]
def MEncEnd (w:World) (l:List Pw.Mem) (e:Ending) (w':World):Prop:=e= .returned (.tuple #[.string ⟨(encMo l).toArray⟩,.int .i64 (codeM (Pw.okM l))])∧Below w.heap.size w w'
theorem power_Encode (w:World) (l:List Pw.Mem) (hs:∀ x∈l,x.1.length≤9223372036854775807) (A:Option Addr) (c:Nat) (HR:Reads w w.heap.size 2 A l.length (mcells l)):
  Calls Tryz.prog 111 #[.slice A l.length c] w (MEncEnd w l):=by
 have HCk:=ι (power_Check w l hs A c HR);cases hok:Pw.okM l with
 |false=>
  have HP:Hid (∀ w',Below w.heap.size w w'→MEncEnd w l (.returned (.tuple #[ε,.int .i64 50])) w'):=ι (fun w' h=>by
   unfold MEncEnd encMo;rw [hok]; exact ⟨rfl,h⟩)
  generalize MEncEnd w l=P at HP ⊢;rw [hok] at HCk;simp only [codeM,Bool.false_eq_true,if_false] at HCk;clear HR hs hok;go_enter Tryz.func111,Tryz.ntmps111
  go_wp2_with fail
  refine HCk.out.mono ?_;rintro q w1 ⟨rfl,hb⟩;have HB:=ι hb;clear hb;go_wp2_with fail
  exact HP.out _ HB.out
 |true=>
  have hlen:=(Pw.okM_len hok).2;have hall:=Pw.okM_all hok;have HP:Hid (∀ s w',Pw.encM l=s→Below w.heap.size w w'→MEncEnd w l (.returned (.tuple #[s,ζ])) w'):=ι (fun s w' e h=>by
   unfold MEncEnd encMo;rw [hok,if_pos rfl,e]; exact ⟨rfl,h⟩)
  generalize MEncEnd w l=P at HP ⊢;rw [hok] at HCk;simp only [codeM,if_true] at HCk;have HRR:=ι HR;have HA:=ι hall;have HL:=ι hlen;have HNum:=ι (fun W=>code_Num l.length (by omega) W);clear HR hs hok hall;go_enter Tryz.func111,Tryz.ntmps111
  go_wp2_with fail
  refine HCk.out.mono ?_;rintro q w1 ⟨rfl,hb⟩;have HB:=ι hb;clear hb;go_wp2_with fail
  refine (HNum.out _).mono ?_;rintro q w2 ⟨rfl,hb⟩;have HB2:=ι (HB.out.nxt hb);clear hb HB HCk HNum hlen;obtain ⟨S0,hS0⟩:∃ S0,numW l.length=S0:=⟨_,rfl⟩
  have HS0:=ι hS0;rw [hS0];clear hS0;go_wp2_with fail
  refine wp_loop_ghost_k (fun k a wr=>∀ Φ:Act→Prop,(∀ ⦃s0 s1 s2 s3 s4 s6 s7 s8 s9 s5 a0 a5 a6 a7 a8 a9 b0 b1 b2 b3 b4 b5 b6 b7 b8 b9 c0 c1 c2 c3 c4 c5 c6 c7 c8 c9 d2 d3 d4:Value⦄ (i:Nat) (S:List UInt8),(i+k=l.length∧S=numW l.length++((l.take i).map Pw.memB).flatten∧S.length≤9+24*i∧Below w.heap.size w wr)→Φ {tmps:=#[s0,s1,s2,s3,s4,.string ⟨S.toArray⟩,s6,s7,s8,s9,s5,a0,a5,a6,a7,a8,a9,b0,b1,b2,b3,b4,.slice A l.length c,.int .i64 l.length,.int .i64 (i:Int),b5,b6,b7,b8,b9,c0,c1,c2,c3,c4,c5,c6,c7,c8,c9,d2,d3,d4],defers:= []})→Φ a) (l.length) ?_ ?_
  ·refine fun Φ hΦ=>hΦ (0) (S0) ?_;exact ⟨by omega,by rw [HS0.out]; simp,by rw [←HS0.out]; have:=numW_len l.length (by have:=HL.out; omega); omega,HB2.out⟩
  ·intro k1 a1 wr1 hI1 J1 K1 hJ1 hK1;refine hI1 (fun a=>Code.wp _ _ _ a _) ?_;clear hI1 a1;iterate 39 (intro _)
   intro i S hrel
   show Code.wp _ _ _ _ _;obtain ⟨h1,h2,h3,hb⟩:=hrel;by_cases hi:i<l.length
   ·obtain ⟨ad,off,rfl,hbl,hcell⟩:=mem_cells HRR.out hi;obtain ⟨r0,r1⟩:=hcell _ hb;have hi1:(i:Int)<l.length:=by omega
    have hi0:(0:Int)≤i:=by omega
    obtain ⟨a1,a2,a3,a4⟩:=HA.out _ (List.getElem_mem hi);have HI:=ι (And.intro h1 (And.intro hb h3));have HN:=ι (show S++Pw.memB l[i]=numW l.length++((l.take (i+1)).map Pw.memB).flatten by rw [flat_take l i hi,h2,List.append_assoc]);have hi8:i<8:=by have:=HL.out; omega
    clear h1 hb hcell hbl h2;generalize l[i]=x at *;obtain ⟨nm,pw⟩:=x;simp only at a1 a3 a4 r0 r1;obtain ⟨n,rfl⟩:=Int.eq_ofNat_of_zero_le (show 0≤pw by omega);have HNum:=ι (fun W=>code_Num n (by omega) W);have HTx:=ι (fun W=>code_Text nm (by omega) W);have HLl:Hid ((textW nm).length≤15∧(numW n).length≤9∧(Pw.memB (nm,(n:Int))).length≤24):=ι ⟨by rw [textW,List.length_append]; have:=numW_len nm.length (by omega); omega,numW_len n (by omega),Pw.memB_len a1 a3 a4⟩;have HM:Hid (Pw.memB (nm,(n:Int))=textW nm++numW n):=ι rfl;clear a1 a2 a3 a4;go_upto_region 8 with fail
    have F1:=Live.ha (ι (Live.start wr1)) #[nm,n] 94;generalize World.alloc wr1 _=W1 at F1 ⊢;generalize wr1.heap.size=bm at F1 ⊢;clear r0 r1;have k0_1:=(F1.out.blk 0 rfl).d1;go_wp2_with fail
    refine (HNum.out _).mono ?_;rintro q w3 ⟨rfl,hb⟩;have F3:=Live.hb F1 hb;clear hb F1 k0_1 HNum;have k0_0:=(F3.out.blk 0 rfl).d0;go_wp2_with fail
    refine (HTx.out _).mono ?_;rintro q w4 ⟨rfl,hb⟩;have F4:=Live.hb F3 hb;clear hb F3 k0_0 HTx;obtain ⟨l1,l2,l3⟩:=HLl.out;rw [HM.out] at HN l3;clear HLl HM;generalize textW nm=X at *;generalize numW n=Y at *;rw [List.length_append] at l3;have m1:X.length+Y.length≤9223372036854775807:=by omega
    have m2:S.length+(X.length+Y.length)≤9223372036854775807:=by omega
    have m3:S.length+(X++Y).length≤9223372036854775807:=by rw [List.length_append]; omega
    have m4:(S++(X++Y)).length≤9+24*(i+1):=by rw [List.length_append,List.length_append]; omega
    have HM4:=ι m4;clear m4 l1 l2 l3 h3;go_wp2_with fail
    refine Handed.intro (l.length - (i+1)) ?_ (hJ1 _ _ _ (fun Φ hΦ=>hΦ (i+1) (S++(X++Y)) ?_))
    ·have:=HI.out.1; omega
    exact ⟨by have:=HI.out.1; omega,HN.out,HM4.out,HI.out.2.1.nxt F4.out.b⟩
   ·have hi1:((i:Int)<l.length)=False:=by simp; omega
    have HY:Hid (Pw.encM l=S):=ι (by rw [h2,List.take_of_length_le (by omega)]; rfl);have HI:=ι hb;clear h1 h2 h3 hb hi;go_wp2_with fail
    exact HP.out _ _ HY.out HI.out
theorem power_Digest (w:World) (l:List Pw.Mem) (hs:∀ x∈l,x.1.length≤9223372036854775807) (A:Option Addr) (c:Nat) (HR:Reads w w.heap.size 2 A l.length (mcells l)) (hT:Tbl w):
  Calls Tryz.prog 78 #[.slice A l.length c] w (Ret w (.string ⟨(Pw.digM l).toArray⟩)):=by
 have HEn:=ι (power_Encode w l hs A c HR);unfold MEncEnd encMo at HEn;cases hok:Pw.okM l with
 |false=>
  have HP:Hid (∀ w',Below w.heap.size w w'→Ret w (.string ⟨(Pw.digM l).toArray⟩) (.returned (.string ⟨#[]⟩)) w'):=ι (fun w' h=>by
   unfold Ret Pw.digM;rw [hok]; exact ⟨rfl,h⟩)
  generalize Ret w (.string ⟨(Pw.digM l).toArray⟩)=P at HP ⊢;rw [hok] at HEn;simp only [codeM,Bool.false_eq_true,if_false] at HEn;clear HR hs hok hT;go_enter Tryz.func78,Tryz.ntmps78
  go_wp2_with fail
  refine HEn.out.mono ?_;rintro q w1 ⟨rfl,hb⟩;have HB:=ι hb;clear hb;go_wp2_with fail
  exact HP.out _ HB.out
 |true=>
  have HP:Hid (∀ w',Below w.heap.size w w'→Ret w (.string ⟨(Pw.digM l).toArray⟩) (.returned (.string ⟨(shaW (4::Pw.encM l)).toArray⟩)) w'):=ι (fun w' h=>by
   unfold Ret Pw.digM;rw [hok,if_pos rfl]; exact ⟨rfl,h⟩)
  generalize Ret w (.string ⟨(Pw.digM l).toArray⟩)=P at HP ⊢;have hel:=Pw.encM_len hok;rw [hok] at HEn;simp only [codeM,if_true] at HEn;have HD:=ι (fun W (hW:Below w.heap.size w W)=>digest_Sum W 4 (by omega) (by omega) (Pw.encM l) (by omega) (hT.next hW));rw [show UInt8.ofNat 4=4 from rfl] at HD;generalize shaW (4::Pw.encM l)=sm at *;generalize Pw.encM l=en at *;clear HR hs hok hT hel;go_enter Tryz.func78,Tryz.ntmps78
  go_wp2_with fail
  refine HEn.out.mono ?_;rintro q w1 ⟨rfl,hb⟩;have HB:=ι hb;clear hb;go_wp2_with fail
  refine (HD.out _ HB.out).mono ?_;rintro q w2 ⟨rfl,hb⟩;have HB2:=ι (HB.out.nxt hb);clear hb;go_wp2_with fail
  exact HP.out _ HB2.out
theorem take_loop (h:UInt8) (r:List UInt8) (K:Nat) (hk:K≤r.length) (hk8:K≤8) (hv:valBE (r.take K)<9223372036854775808) (w0:World)
  (Q:Exit→Act→World→Prop)
  (hQ:∀ ⦃s1 s2 s3 s4 s7 s8 s9 s0 s5 s6 a0 a2 a3 a4 a5 a6 a7 a8 a9 b0 b1 b2 b3 b4 b5 b6 b7 b8 b9 c0 c1 c2 c3 c4 c5 c6 c7 c8 c9 d0 d1 d2 d3 d4 d5 d6 d7 d8 d9 e0:Value⦄,Q (.exit 0) {tmps:=#[.string ⟨(h::r).toArray⟩,s1,s2,s3,s4,.int .i64 (K:Int),.int .i64 (valBE (r.take K):Int),s7,s8,s9,s0,s5,s6,a0,a2,a3,a4,a5,a6,a7,a8,a9,b0,b1,b2,b3,b4,b5,b6,b7,b8,b9,c0,c1,c2,c3,c4,c5,c6,c7,c8,c9,d0,d1,d2,d3,d4,d5,d6,d7,d8,d9,e0],defers:= []} w0)
  (s1 s2 s3 s4 s8 s9 s0 s5 s6 a0 a2 a3 a4 a5 a6 a7 a8 a9 b0 b1 b2 b3 b4 b5 b6 b7 b8 b9 c0 c1 c2 c3 c4 c5 c6 c7 c8 c9 d0 d1 d2 d3 d4 d5 d6 d7 d8 d9 e0:Value):
  Code.wp Tryz.prog (.loop (loopAt Tryz.f199 0)) Q {tmps:=#[.string ⟨(h::r).toArray⟩,s1,s2,s3,s4,.int .i64 (K:Int),.int .i64 0,.int .i64 1,s8,s9,s0,s5,s6,a0,a2,a3,a4,a5,a6,a7,a8,a9,b0,b1,b2,b3,b4,b5,b6,b7,b8,b9,c0,c1,c2,c3,c4,c5,c6,c7,c8,c9,d0,d1,d2,d3,d4,d5,d6,d7,d8,d9,e0],defers:= []} w0:=by
 have HQ:=ι hQ;clear hQ;refine wp_loop_ghost_k (fun k a wr=>∀ Φ:Act→Prop,(∀ ⦃s1 s2 s3 s4 s8 s9 s0 s5 s6 a0 a2 a3 a4 a5 a6 a7 a8 a9 b0 b1 b2 b3 b4 b5 b6 b7 b8 b9 c0 c1 c2 c3 c4 c5 c6 c7 c8 c9 d0 d1 d2 d3 d4 d5 d6 d7 d8 d9 e0:Value⦄ (i n:Nat),(i+k=K∧valBE (r.take i)=n∧wr=w0)→Φ {tmps:=#[.string ⟨(h::r).toArray⟩,s1,s2,s3,s4,.int .i64 (K:Int),.int .i64 (n:Int),.int .i64 ((i+1:Nat):Int),s8,s9,s0,s5,s6,a0,a2,a3,a4,a5,a6,a7,a8,a9,b0,b1,b2,b3,b4,b5,b6,b7,b8,b9,c0,c1,c2,c3,c4,c5,c6,c7,c8,c9,d0,d1,d2,d3,d4,d5,d6,d7,d8,d9,e0],defers:= []})→Φ a) (K) ?_ ?_
 ·refine fun Φ hΦ=>hΦ (0) (0) ?_;exact ⟨by omega,by simp [valBE],rfl⟩
 ·intro k1 a1 wr1 hI1 J1 K1 hJ1 hK1;refine hI1 (fun a=>Code.wp _ _ _ a _) ?_;clear hI1 a1;iterate 49 (intro _)
  intro i n hrel
  show Code.wp _ _ _ _ _
  conv=>arg 2; whnf
  obtain ⟨h1,h2,rfl⟩:=hrel;by_cases hi:i<K
  ·have hir:i<r.length:=by omega
   have h3:=valBE_take r i hir;have h4:valBE (r.take (i+1))≤valBE (r.take K):=by
    have:=valBE_mono (r.take K) (i+1)
    rwa [List.take_take,show min (i+1) K=i+1 by omega] at this
   have hx:=(r.getD i 0).toNat_lt;have HN:Hid (valBE (r.take (i+1))=n*256+(r.getD i 0).toNat):=ι (by rw [h3,h2]);have hsum:n*256+(r.getD i 0).toNat<9223372036854775808:=by rw [h2] at h3; omega
   have hix:=fun W=>run_byte (h::r) (i+1) (by simp; omega) W;rw [show (h::r).getD (i+1) 0=r.getD i 0 by simp [List.getD_eq_getElem?_getD]] at hix;have HI:=ι h1;have hi1:((i+1:Nat):Int)≤K:=by omega
   have hmul:wrap64 ((n:Int)*256)=(n:Int)*256:=IntWalk.wrap64_in _ (by omega);have hadd:wrap64 ((n:Int)*256+((r.getD i 0).toNat:Int))=((n*256+(r.getD i 0).toNat:Nat):Int):=by rw [IntWalk.wrap64_in _ (by omega)]; omega
   have hinc:wrap64 (((i+1:Nat):Int)+1)=((i+1+1:Nat):Int):=by rw [IntWalk.wrap64_in _ (by omega)]; omega
   clear h1 h2 h3 h4 hir hsum;generalize r.getD i 0=x at *;generalize hii:i+1=ii at *;go_wp2_with fail
   have q1:((n:Int)*256+(x.toNat:Int))=((n*256+x.toNat:Nat):Int):=by omega
   have q2:((ii:Int)+1)=((ii+1:Nat):Int):=by omega
   rw [q1,q2];subst hii;refine Handed.intro (K - (i+1)) ?_ (hJ1 _ _ _ (fun Φ hΦ=>hΦ (i+1) (n*256+x.toNat) ?_))
   ·have:=HI.out
    show K - (i+1)<k1;omega
   ·have:=HI.out
    exact ⟨by omega,HN.out,rfl⟩
  ·have e:i=K:=by omega
   subst e;subst h2;have hi2:(((i+1:Nat):Int)≤(i:Int))=False:=by simp; omega
   generalize hii:i+1=ii at *;clear h1 hi;go_wp2_with fail
   apply HQ.out
def TakeEnd (w:World) (r:Nat × List UInt8 × Nat) (e:Ending) (w':World):Prop:=e= .returned (.tuple #[r.1,r.2.1,r.2.2])∧Below w.heap.size w w'
theorem z_6 {P:Prop} (h:P:=by
 have HRd:=ι (fun W=>run_drop (h::r) (h.toNat+1) (by simp; omega) W);have hrd:=HRd.out;rw [show ((h.toNat+1:Nat):Int)=(h.toNat:Int)+1 by omega,List.drop_succ_cons] at hrd;have HTk:=ι (numT_lt (s:=h::r) (n:=valBE (r.take h.toNat)) (r:=r.drop h.toNat) HE.out);have HLe:=ι hle;have HK8:=ι (show h.toNat≤8 by omega);clear HRd;go_enter Tryz.func199,Tryz.ntmps199
 go_wp2_with fail
 refine take_loop h r h.toNat HLe.out HK8.out HTk.out _ _ ?_ _ _ _ _ _ _ _ _ _ _ _ _ _ _ _ _ _ _ _ _ _ _ _ _ _ _ _ _ _ _ _ _ _ _ _ _ _ _ _ _ _ _ _ _ _ _ _ _ _;intro s1 s2 s3 s4 s7 s8 s9 s10 s11 s12 s13 s14 s15 s16 s17 s18 s19 s20 s21 s22 s23 s24 s25 s26 s27 s28 s29 s30 s31 s32 s33 s34 s35 s36 s37 s38 s39 s40 s41 s42 s43 s44 s45 s46 s47 s48 s49 s50 s51 s52;have HF:=ι (fun W=>HP.out _ _ 0 W HE.out);clear HE HTk;generalize valBE _=v at HF ⊢;go_wp2
 go_quiet (fail)
 go_wp2
 exact HF.out _ ⟨rfl,rfl,rfl,Nat.le_refl _,fun _ _=>rfl⟩):P:=h
theorem ref02_take (s:List UInt8) (hs:s.length≤1000000) (w:World):
  Calls Tryz.prog 199 #[s] w (TakeEnd w (numT s)):=by
 have HP:Hid (∀ (n:Nat) (rest:List UInt8) (c:Nat) w',numT s=(n,rest,c)→Below w.heap.size w w'→TakeEnd w (numT s) (.returned (.tuple #[n,rest,c])) w'):=ι (fun n rest c w' e h=>by rw [e]; exact ⟨rfl,h⟩);generalize TakeEnd w (numT s)=P at HP ⊢;cases s with
 |nil=>
  have HE:Hid (numT []=(0,[],20)):=ι rfl;go_enter Tryz.func199,Tryz.ntmps199
  go_wp2
  exact HP.out 0 [] 20 _ HE.out (Below.refl _ _)
 |cons h r=>
  have hE:=numT_cons h r;have hrl:r.length+1≤1000000:=by simpa using hs
  have hix:=fun W=>run_byte (h::r) 0 (by simp) W;simp only [List.getD_cons_zero] at hix;have h256:=h.toNat_lt;clear hs;by_cases h8:8<h.toNat
  ·have HE:Hid (numT (h::r)=(0,[],3)):=ι (by rw [hE,if_pos h8]);have h8I:(8:Int)<(h.toNat:Int):=by omega
   clear hE h8;go_enter Tryz.func199,Tryz.ntmps199
   go_wp2
   exact HP.out 0 [] 3 _ HE.out (Below.refl _ _)
  have h8I:((8:Int)<(h.toNat:Int))=False:=by simp; omega
  rw [if_neg h8] at hE;have hadd:wrap64 ((h.toNat:Int)+1)=(h.toNat:Int)+1:=IntWalk.wrap64_in _ (by omega);by_cases hlt:r.length<h.toNat
  ·have HE:Hid (numT (h::r)=(0,[],20)):=ι (by rw [hE,if_pos hlt]);have hlI:((r.length:Int)+1<(h.toNat:Int)+1):=by omega
   have hlI2:((r.length:Int)<(h.toNat:Int)):=by omega
   clear hE h8 hlt;go_enter Tryz.func199,Tryz.ntmps199
   go_wp2
   exact HP.out 0 [] 20 _ HE.out (Below.refl _ _)
  have hle:h.toNat≤r.length:=by omega
  have hlI:((r.length:Int)+1<(h.toNat:Int)+1)=False:=by simp; omega
  have hlI2:((r.length:Int)<(h.toNat:Int))=False:=by simp; omega
  rw [if_neg hlt] at hE;by_cases hz:h.toNat=0
  ·have HE:Hid (numT (h::r)=(valBE (r.take h.toNat),r.drop h.toNat,0)):=ι (by rw [hE,if_neg (by omega)]);have hz1:((0:Int)<(h.toNat:Int))=False:=by simp; omega
   have hz2:((h.toNat:Int)==8)=false:=by rw [beq_eq_false_iff_ne]; omega
   have hz3:(0<h.toNat)=False:=by simp; omega
   clear hE hlt hz;exact z_6
  have hz1:(0:Int)<(h.toNat:Int):=by omega
  have hjx:∀ W,(Instr.index 9 (.string ⟨(h::r).toArray⟩) (.int .i64 1)).run Tryz.prog W= .ok (.int .u8 ((r.getD 0 0).toNat:Int)) W:=fun W=>by
   have:=run_byte (h::r) 1 (by simp; omega) W
   rw [show (h::r).getD 1 0=r.getD 0 0 by simp [List.getD_eq_getElem?_getD]] at this;exact this
  have hx256:=(r.getD 0 0).toNat_lt;obtain ⟨x,hx⟩:∃ x,r.getD 0 0=x:=⟨_,rfl⟩
  rw [hx] at hE hjx hx256;clear hx;by_cases hx0:x=0
  ·have HE:Hid (numT (h::r)=(0,[],3)):=ι (by rw [hE,if_pos (.inl ⟨by omega,hx0⟩)]);have hxz:((x.toNat:Int)==0)=true:=by simp [hx0]
   clear hE h8 hlt hx0;go_enter Tryz.func199,Tryz.ntmps199
   go_wp2
   exact HP.out 0 [] 3 _ HE.out (Below.refl _ _)
  have hxz:((x.toNat:Int)==0)=false:=by
   simp; intro e; exact hx0 (UInt8.toNat_inj.1 e)
  by_cases h88:h.toNat=8
  ·have h88I:((h.toNat:Int)==8)=true:=by rw [beq_iff_eq]; omega
   by_cases h128:128≤x.toNat
   ·have HE:Hid (numT (h::r)=(0,[],3)):=ι (by rw [hE,if_pos (.inr ⟨h88,h128⟩)]);have h9:(127:Int)<x.toNat:=by omega
    clear hE h8 hlt hx0 h128 h88;go_enter Tryz.func199,Tryz.ntmps199
    go_wp2
    exact HP.out 0 [] 3 _ HE.out (Below.refl _ _)
   ·have HE:Hid (numT (h::r)=(valBE (r.take h.toNat),r.drop h.toNat,0)):=ι (by rw [hE,if_neg]; rintro (⟨_,q⟩|⟨_,q⟩); exact hx0 q; exact h128 q);have h9:((127:Int)<x.toNat)=False:=by simp; omega
    clear hE hlt hx0 h128 h88;exact z_6
  ·have h88I:((h.toNat:Int)==8)=false:=by rw [beq_eq_false_iff_ne]; omega
   have HE:Hid (numT (h::r)=(valBE (r.take h.toNat),r.drop h.toNat,0)):=ι (by rw [hE,if_neg]; rintro (⟨_,q⟩|⟨q,_⟩); exact hx0 q; exact h88 q);clear hE hlt hx0;exact z_6
def RRd (w:World) (g:Nat) (s:List UInt8 × Nat):Prop:=Blk w g 258 #[s.1,s.2]∧s.1.length≤1000000
def RRdEnd (w:World) (g:Nat) (v:Value) (s:List UInt8 × Nat) (e:Ending) (w':World):Prop:=e= .returned v∧RRd w' g s∧w.grownBy w' (some g)
theorem grown_of_below {a b c:World} {g:Nat} (h:Below a.heap.size a b) (hg:b.grownBy c (some g)):a.grownBy c (some g):=
 ⟨hg.os.trans h.os,hg.tape.trans h.tape,hg.output.trans h.output,Nat.le_trans h.size hg.size,fun k hk hne=>(hg.block k (Nat.lt_of_lt_of_le hk h.size) hne).trans (h.block k hk)⟩
theorem ref02_Num (w:World) (g:Nat) (s:List UInt8 × Nat) (h:RRd w g s):
  Calls Tryz.prog 192 #[.pointer (some ⟨g,0,none⟩)] w (RRdEnd w g (.int .i64 ((numS s).1:Int)) (numS s).2):=by
 obtain ⟨l,c⟩:=s;obtain ⟨hB,hl⟩:=h;simp only at hB hl;have HP:Hid (∀ (n:Nat) s' w',numS (l,c)=(n,s')→RRd w' g s'→w.grownBy w' (some g)→RRdEnd w g (.int .i64 ((numS (l,c)).1:Int)) (numS (l,c)).2 (.returned (.int .i64 (n:Int))) w'):=ι (fun n s' w' e h1 h2=>by rw [e]; exact ⟨rfl,h1,h2⟩);generalize RRdEnd w g (.int .i64 ((numS (l,c)).1:Int)) (numS (l,c)).2=P at HP ⊢;have HB:=ι hB;have HL:=ι hl;have c0:w.cell? ⟨g,0,none⟩=some (l:Value):=hB.cell 0;have c1:w.cell? ⟨g,1,none⟩=some (.int .i64 (c:Int)):=hB.cell 1;by_cases hc:c=0
 ·subst hc;have HT:=ι (ref02_take l hl w);have HS:Hid (numS (l,0)=if (numT l).2.2=0 then ((numT l).1,((numT l).2.1,0)) else (0,(l,(numT l).2.2))):=ι (by simp [numS]);have HLn:Hid ((numT l).2.1.length≤l.length):=ι (by
   cases l with
   |nil=>simp [numT]
   |cons a b=>
    rw [numT_cons]
    split
    ·simp
    split
    ·simp
    split
    ·simp
    ·simp; omega)
  generalize numT l=Y at *;obtain ⟨n,rest,e⟩:=Y;simp only at HS HLn;clear hB hl;by_cases he:e=0
  ·subst he;rw [if_pos rfl] at HS;go_enter Tryz.func192,Tryz.ntmps192
   go_wp2_with fail
   refine HT.out.mono ?_;rintro e w1 ⟨rfl,hb⟩;have HB1:=ι (HB.out.below hb HB.out.lt);have HBl:=ι hb;have f0:w1.frozen? ⟨g,0,none⟩=false:=HB1.out.frozen 0;have f1:w1.frozen? ⟨g,1,none⟩=false:=HB1.out.frozen 1;have d0:w1.cell? ⟨g,0,none⟩=some (l:Value):=HB1.out.cell 0;have d1:w1.cell? ⟨g,1,none⟩=some (.int .i64 0):=HB1.out.cell 1;clear hb c0 c1;go_wp2
   exact HP.out _ _ _ HS.out ⟨(HB1.out.set_ 1 (.int .i64 0)).set_ 0 (.string ⟨rest.toArray⟩),Nat.le_trans HLn.out HL.out⟩ (grown_of_below HBl.out (grown_set0 (grown_set0 (World.grownBy.refl _ _) _ _) _ _))
  ·rw [if_neg he] at HS;have he1:((e:Int) !=0)=true:=by simp; exact he
   clear he;go_enter Tryz.func192,Tryz.ntmps192
   go_wp2_with fail
   refine HT.out.mono ?_;rintro e w1 ⟨rfl,hb⟩;have HB1:=ι (HB.out.below hb HB.out.lt);have HBl:=ι hb;have f1:w1.frozen? ⟨g,1,none⟩=false:=HB1.out.frozen 1;have d1:w1.cell? ⟨g,1,none⟩=some (.int .i64 0):=HB1.out.cell 1;clear hb c0 c1;go_wp2
   exact HP.out 0 _ _ HS.out ⟨HB1.out.set_ 1 (.int .i64 (e:Int)),HL.out⟩ (grown_of_below HBl.out (grown_set0 (World.grownBy.refl _ _) _ _))
 ·have HS:Hid (numS (l,c)=(0,(l,c))):=ι (by simp [numS,hc]);have hc1:((c:Int) !=0)=true:=by simp; exact hc
  clear hB hl hc;go_enter Tryz.func192,Tryz.ntmps192
  go_wp2
  exact HP.out 0 _ _ HS.out ⟨HB.out,HL.out⟩ (World.grownBy.refl _ _)
end
end Go.Proofs.YtdkiloganbhfkaaGreatDoor