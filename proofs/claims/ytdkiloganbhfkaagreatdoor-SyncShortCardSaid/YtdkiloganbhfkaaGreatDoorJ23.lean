import Derived.Test.YtdkiloganbhfkaaGreatDoorJ17
set_option linter.unusedSimpArgs false
set_option linter.unusedVariables false
set_option maxHeartbeats 4000000
set_option maxRecDepth 100000
namespace Go.Proofs.YtdkiloganbhfkaaGreatDoor
section
open Go.RowKit
attribute [local go_sem] ba_get ByteArray.mk_append_mk ByteArray.extract_mk
theorem packs_key_even (l:List UInt8) (leaf:Bool) (hf:Nib.fit l=true) (hp:l.length % 2=0):
  Nib.key ((if leaf then 2 else 0)::0::l)=(Nib.packed l leaf,0):=by
 unfold Nib.key;have h1:Nib.fit ((if leaf then 2 else 0)::0::l)=true:=by unfold Nib.fit at hf ⊢; cases leaf<;>simpa using hf
 rw [if_pos h1,if_neg (by simp; omega),Nib.packed_even hp,Nib.joined_cons];cases leaf<;>rfl
theorem packs_key_odd (a:UInt8) (r:List UInt8) (leaf:Bool) (hf:Nib.fit (a::r)=true) (hp:(a::r).length % 2=1):
  Nib.key ((if leaf then 3 else 1)::a::r)=(Nib.packed (a::r) leaf,0):=by
 unfold Nib.key;have h1:Nib.fit ((if leaf then 3 else 1)::a::r)=true:=by unfold Nib.fit at hf ⊢; cases leaf<;>simpa using hf
 have hp':(r.length+1) % 2=1:=by simpa using hp
 rw [if_pos h1,if_neg (by simp; omega),Nib.packed_odd hp,Nib.joined_cons];cases leaf<;>rfl
theorem z_14 {P:Prop} (h:P:=by
 rintro e w1 ⟨rfl,hb1⟩;have hk:=HK.out;simp only [Bool.false_eq_true,if_false,if_true] at hk;rw [hk];go_wp2
 go_ret2
 exact ⟨rfl,Below.nxt (by go_grown) hb1⟩):P:=h
theorem refnib_Pack (s:List UInt8) (leaf:Bool) (w:World) (hs:s.length≤1000000):
  Calls Tryz.prog 197 #[s,leaf] w fun e w'=>e= .returned (.tuple #[.string ⟨(Nib.pack s leaf).1.toArray⟩,.int .i64 (Nib.pack s leaf).2])∧Below w.heap.size w w':=by
 by_cases hf:Nib.fit s=true
 ·have e1:Nib.pack s leaf=(Nib.packed s leaf,0):=by unfold Nib.pack; rw [if_pos hf]
  rw [e1];by_cases hp:s.length % 2=1
  ·obtain ⟨a,r,rfl⟩:∃ a r,s=a::r:=by
    cases s with
    |nil=>simp at hp
    |cons a r=>exact ⟨a,r,rfl⟩
   have HK:=ι (packs_key_odd a r leaf hf hp);have HF:=ι hf;have hp':((r.length:Int)+1) % 2=1:=by simp at hp; omega
   have HP:=ι hp';have hq1:(((r.length:Int)+1) % 2==1)=true:=by rw [beq_iff_eq]; exact hp'
   have hs':r.length≤1000000:=by simp at hs; omega
   have hs2:(a::r).length≤1048576:=by simp; omega
   clear hf hp e1 hs;cases leaf
   ·go_enter Tryz.func197,Tryz.ntmps197
    go_wp2_with fail
    refine (refnib_Fit (a::r) _ hs2).mono ?_;rintro e w1 ⟨rfl,rfl⟩;rw [HF.out];have hw:IntKind.u8.wrap (((r.length:Int)+1) % 2)=1:=by rw [HP.out]; rfl
    have hc1:=fun W n h=>conv1s W n h 1 (by omega) (by omega);have hc2:=fun W n h=>conv2s W n h 1 0 (by omega) (by omega) (by omega) (by omega);clear hp';go_wp2_with fail
    refine (refnib_Key (1::a::r) _ (by simp; omega)).mono ?_;exact z_14
   ·go_enter Tryz.func197,Tryz.ntmps197
    go_wp2_with fail
    refine (refnib_Fit (a::r) _ hs2).mono ?_;rintro e w1 ⟨rfl,rfl⟩;rw [HF.out];have hw:IntKind.u8.wrap (((r.length:Int)+1) % 2)=1:=by rw [HP.out]; rfl
    have hc1:=fun W n h=>conv1s W n h 3 (by omega) (by omega);have hc2:=fun W n h=>conv2s W n h 3 0 (by omega) (by omega) (by omega) (by omega);clear hp';go_wp2_with fail
    refine (refnib_Key (3::a::r) _ (by simp; omega)).mono ?_;exact z_14
  ·have HK:=ι (packs_key_even s leaf hf (by omega));have HF:=ι hf;have hp':(s.length:Int) % 2=0:=by omega
   have HP:=ι hp';have hq1:((s.length:Int) % 2==1)=false:=by rw [beq_eq_false_iff_ne]; omega
   have hs2:s.length≤1048576:=by omega
   clear hf hp e1;cases leaf
   ·go_enter Tryz.func197,Tryz.ntmps197
    go_wp2_with fail
    refine (refnib_Fit s _ hs2).mono ?_;rintro e w1 ⟨rfl,rfl⟩;rw [HF.out];have hw:IntKind.u8.wrap ((s.length:Int) % 2)=0:=by rw [HP.out]; rfl
    have hc1:=fun W n h=>conv1s W n h 0 (by omega) (by omega);have hc2:=fun W n h=>conv2s W n h 0 0 (by omega) (by omega) (by omega) (by omega);clear hp';go_wp2_with fail
    refine (refnib_Key (0::0::s) _ (by simp; omega)).mono ?_;exact z_14
   ·go_enter Tryz.func197,Tryz.ntmps197
    go_wp2_with fail
    refine (refnib_Fit s _ hs2).mono ?_;rintro e w1 ⟨rfl,rfl⟩;rw [HF.out];have hw:IntKind.u8.wrap ((s.length:Int) % 2)=0:=by rw [HP.out]; rfl
    have hc1:=fun W n h=>conv1s W n h 2 (by omega) (by omega);have hc2:=fun W n h=>conv2s W n h 2 0 (by omega) (by omega) (by omega) (by omega);clear hp';go_wp2_with fail
    refine (refnib_Key (2::0::s) _ (by simp; omega)).mono ?_;exact z_14
 ·have e1:Nib.pack s leaf=([],3):=by unfold Nib.pack; rw [if_neg hf]
  rw [e1];have HF:=ι (show Nib.fit s=false by simpa using hf);clear hf e1;go_enter Tryz.func197,Tryz.ntmps197
  go_wp2_with fail
  refine (refnib_Fit s _ (by omega)).mono ?_;rintro e w1 ⟨rfl,rfl⟩;rw [HF.out];go_wp2
  go_ret2
  exact ⟨rfl,Below.refl _ _⟩
end
section
open Go.RowKit Go.Instr
attribute [local go_sem] ba_get ByteArray.mk_append_mk
theorem strv_getD {K:List (List UInt8)} {i:Nat} (h:i<K.length):(strv K)[i]?=some (.string ⟨(K.getD i []).toArray⟩):=by
 rw [strv_at h,List.getD_eq_getElem?_getD,List.getElem?_eq_getElem h]; rfl
theorem refkids_loop (w w0:World) (kk:Nat) (p v:List UInt8) (K:List (List UInt8)) (hK:K.length=16) (F:Hid (Live w w0 [(w.heap.size,177,(nodeV kk p v K).toArray)]))
  (Q:Exit→Act→World→Prop)
  (hQ:∀ ⦃s0 s1 s2 s4 s5 s6 s7 s8 s9 s3 a0 a2 a3 a4 a5 a6 a7 a8 a9 b0 b1:Value⦄ (A:Option Addr) (c n:Nat) (w2:World),n=(kidsW K).length→w2.ownsRow w.heap.size 9 1 (.slice A n c) n (strv (kidsW K))→Below w.heap.size w w2→Q (.exit 0) {tmps:=#[s0,s1,s2,.slice A n c,s4,s5,s6,s7,s8,s9,s3,a0,a2,a3,a4,a5,a6,a7,a8,a9,b0,b1],defers:= []} w2)
  (s0 s2 s5 s6 s7 s8 s9 s3 a0 a2 a3 a4 a5 a6 a7 a8 a9 b0 b1:Value):
  Code.wp Tryz.prog (.loop (loopAt Tryz.f202 0)) Q {tmps:=#[s0,.pointer (some ⟨w.heap.size,0,none⟩),s2,.slice none 0 0,.int .i64 0,s5,s6,s7,s8,s9,s3,a0,a2,a3,a4,a5,a6,a7,a8,a9,b0,b1],defers:= []} w0:=by
 have HQ:=ι hQ;clear hQ;refine wp_loop_ghost_k (fun k a wr=>∀ Φ:Act→Prop,(∀ ⦃s0 s2 s5 s6 s7 s8 s9 s3 a0 a2 a3 a4 a5 a6 a7 a8 a9 b0 b1:Value⦄ (i n c:Nat) (A:Option Addr),(i+k=16∧n=(kidsW (K.take i)).length∧n≤i∧wr.ownsRow w.heap.size 9 1 (.slice A n c) n (strv (kidsW (K.take i)))∧Live w wr [(w.heap.size,177,(nodeV kk p v K).toArray)])→Φ {tmps:=#[s0,.pointer (some ⟨w.heap.size,0,none⟩),s2,.slice A n c,.int .i64 i,s5,s6,s7,s8,s9,s3,a0,a2,a3,a4,a5,a6,a7,a8,a9,b0,b1],defers:= []})→Φ a) (16) ?_ ?_
 ·refine fun Φ hΦ=>hΦ (0) (0) (0) (none) ?_;exact ⟨by omega,by simp [kidsW],by omega,by simpa [kidsW,strv] using World.ownsRow_nil _ _ _ _,F.out⟩
 ·intro k1 a1 wr1 hI1 J1 K1 hJ1 hK1;refine hI1 (fun a=>Code.wp _ _ _ a _) ?_;clear hI1 a1;iterate 19 (intro _)
  intro i n c A hrel
  show Code.wp _ _ _ _ _;clear F
  conv=>arg 2; whnf
  obtain ⟨h1,h2,h3,own,hF⟩:=hrel;have F:=ι hF;have hb:=hF.b;clear hF;by_cases hi:i<16
  ·have hi1:(i:Int)<16:=by omega
   obtain ⟨_,_,_,RK,_⟩:=NodeAt.of (C:= []) (by rw [List.append_nil]; exact F.out.blk 0 rfl);have ec:wr1.cell? ⟨w.heap.size,3+i,none⟩=some (.string ⟨(K.getD i []).toArray⟩):=by
    refine RK i _ ?_;rw [strv_at (show i<K.length by omega),List.getD_eq_getElem?_getD,List.getElem?_eq_getElem (show i<K.length by omega)];rfl
   have hks:=kidsW_snoc K i (by omega);have hg:K.getD i []=K[i]'(by omega):=by rw [List.getD_eq_getElem?_getD,List.getElem?_eq_getElem (show i<K.length by omega)]; rfl
   rw [←hg] at hks;generalize K.getD i []=s at *;clear hg RK;have HI:=ι (And.intro h1 (And.intro h2 h3));have HK:=ι hks;have hn16:n≤16:=by omega
   generalize kidsW (K.take i)=D at *;cases s with
   |nil=>
    have O:=ι own;clear own h1 h2 h3 hb hks;go_wp2
    refine Handed.intro (16 - (i+1)) ?_ (hJ1 _ _ _ (fun Φ hΦ=>hΦ (i+1) (n) (c) (A) ?_))
    ·have:=HI.out.1
     omega
    ·rw [HK.out];simp only [List.isEmpty_nil,if_true,List.append_nil];exact ⟨by have:=HI.out.1; omega,HI.out.2.1,by have:=HI.out.2.2; omega,O.out,F.out⟩
   |cons a t=>
    have ne1:((a::t).toArray=#[])=False:=by simp
    have hone:∀ u∈ [Value.string ⟨(a::t).toArray⟩],u.oneCell'=true:=by intro u hu; rw [List.mem_singleton] at hu; subst hu; rfl
    clear h1 h2 h3 hks;have se:(a::t).isEmpty=false:=rfl;generalize hs:(a::t)=s at *;go_wp2_with (at_builtin; refine wpList_append_new wr1 9 [s] rfl _ _ 25 rfl w.heap.size 1 16 _ info_str Tryz.underlying25 rfl (by decide) (.slice A n c) n (strv D) rfl own 1 1 rfl rfl hone (by simp only [maxLen]; omega) (by omega) w.heap.size w hb (Nat.le_refl _) hb.size ?_; intro v3 w3 own3 hb3 hg3 _ _; obtain ⟨A3,c3,rfl,_,_,_⟩:=own_form own3; have F:=Live.hp F own (Nat.le_refl _) (by simp) hg3; have O3:=ι own3; clear own3 hg3)
    refine Handed.intro (16 - (i+1)) ?_ (hJ1 _ _ _ (fun Φ hΦ=>hΦ (i+1) (n+1) (c3) (A3) ?_))
    ·have:=HI.out.1
     omega
    ·rw [HK.out,se];simp only [Bool.false_eq_true,if_false];refine ⟨by have:=HI.out.1; omega,by rw [List.length_append,←HI.out.2.1]; rfl,by have:=HI.out.2.2; omega,?_,F.out⟩;rw [show strv (D++ [s])=strv D++ [.string ⟨s.toArray⟩] by simp [strv]];exact O3.out
  ·have e16:i=16:=by omega
   subst e16;rw [List.take_of_length_le (by omega)] at h2 own;have O:=ι (And.intro own hb);clear own hb;go_wp2
   exact HQ.out _ _ _ _ h2 O.out.1 O.out.2
theorem ref08_Kids (w:World) (k:Nat) (p v:List UInt8) (K:List (List UInt8)) (hK:K.length=16):
  Calls Tryz.prog 202 #[.agg (nodeV k p v K).toArray] w (KidsEnd w K):=by
 have HP:Hid (∀ A c n w',n=(kidsW K).length→w'.ownsRow w.heap.size 9 1 (.slice A n c) n (strv (kidsW K))→Below w.heap.size w w'→KidsEnd w K (.returned (.slice A n c)) w'):=ι (fun A c n w' g1 g2 g3=>⟨A,c,n,rfl,g1,g2,g3⟩);generalize KidsEnd w K=P at HP ⊢;go_enter Tryz.func202,Tryz.ntmps202
 go_upto_region 1 with fail
 have F:=Live.ha (ι (Live.start w)) (nodeV k p v K).toArray 177;generalize w.alloc (.cells (nodeV k p v K).toArray 177)=W0 at F ⊢;go_upto_region 3 with fail
 refine refkids_loop w W0 k p v K hK F _ ?_ _ _ _ _ _ _ _ _ _ _ _ _ _ _ _ _ _ _ _;intro s0 s1 s2 s4 s5 s6 s7 s8 s9 s10 s11 s12 s13 s14 s15 s16 s17 s18 s19 s20 s21 A c n w2 g1 g2 g3;go_wp2
 exact HP.out _ _ _ _ g1 g2 g3
def fineR (k : Nat) (p v : List UInt8) (K : List (List UInt8)) : Bool :=
  sumsOk (kidsW K) && (Nib.fit p && (decide (p.length ≤ 16) && (decide (v.length ≤ 32) &&
    (if k = 1 then decide ((kidsW K).length = 0) && !v.isEmpty
     else if k = 2 then decide ((kidsW K).length = 1) && (!(K.getD 0 []).isEmpty && (decide (1 ≤ p.length) && v.isEmpty))
     else if k = 3 then decide (p.length = 0) && (decide (2 ≤ (kidsW K).length) || (decide ((kidsW K).length = 1) && !v.isEmpty)) else false))))
theorem kidsW_nil_of {K:List (List UInt8)} (h:(kidsW K).length=0):K=List.replicate K.length []:=by
 induction K with
 |nil=>rfl
 |cons a t ih=>
  unfold kidsW at h ih;rw [List.filter_cons] at h;cases a with
  |nil=>
   simp only [List.isEmpty_nil,Bool.not_true,Bool.false_eq_true,if_false] at h;rw [List.length_cons,List.replicate_succ,←ih h]
  |cons x y=>simp at h
theorem kidsW_rep (n:Nat):kidsW (List.replicate n ([]:List UInt8))= []:=by
 unfold kidsW; simp
theorem fineR_eq (k:Nat) (p v:List UInt8) (K:List (List UInt8)) (hK:K.length=16):fineR k p v K=fineN k p v K:=by
 unfold fineR fineN;by_cases h1:k=1
 ·rw [if_pos h1,if_pos h1];by_cases hk:K=List.replicate 16 []
  ·subst hk;rw [kidsW_rep];simp only [pathOk,sumsOk,List.all_nil,Bool.true_and,List.length_nil,decide_true];by_cases hp:p.length≤16<;>by_cases hv:v.length≤32<;>cases Nib.fit p<;>cases v.isEmpty<;>simp [hp,hv]
  ·have h0:(kidsW K).length≠0:=fun h=>hk (by rw [←hK]; exact kidsW_nil_of h);rw [decide_eq_false h0,decide_eq_false hk];simp
 ·rw [if_neg h1,if_neg h1];by_cases h2:k=2
  ·rw [if_pos h2,if_pos h2];obtain ⟨a,t,rfl⟩:∃ a t,K=a::t:=by cases K with
    |nil=>cases hK
    |cons a t=>exact ⟨a,t,rfl⟩
   rw [List.getD_cons_zero];have ht:t.length=15:=by simpa using hK
   cases a with
   |nil=>
    simp [sumsOk]
   |cons x y=>
    have ek:kidsW ((x::y)::t)=(x::y)::kidsW t:=by simp [kidsW]
    rw [ek];by_cases hk:kidsW t= []
    ·have e2:t=List.replicate 15 []:=by rw [←ht]; exact kidsW_nil_of (by rw [hk]; rfl)
     rw [hk];subst e2;simp only [pathOk,decide_true,Bool.true_and,List.length_cons,List.length_nil,List.isEmpty_cons,Bool.not_false];cases v with
     |nil=>
      by_cases hp:1≤p.length
      ·by_cases hq:p.length≤16
       ·simp [hp,hq]
       ·simp [hp,hq]
      ·simp [hp]
     |cons=>simp
    ·have h0:¬((x::y)::kidsW t).length=1:=by
      intro h; apply hk; exact List.eq_nil_of_length_eq_zero (by simpa using h)
     have e2:¬((x::y)::t)=(x::y)::List.replicate 15 []:=by
      intro h;injection h with _ h
      apply hk; rw [h]; exact kidsW_rep 15
     rw [decide_eq_false h0,decide_eq_false e2];simp
  ·rw [if_neg h2,if_neg h2];by_cases h3:k=3
   ·rw [if_pos h3,if_pos h3];cases p with
    |nil=>
     simp only [List.length_nil,Nib.fit,List.all_nil,Nat.zero_le,decide_true,Bool.true_and,List.isEmpty_nil];cases sumsOk (kidsW K)<;>cases v with
     |nil=>simp
     |cons x y=>
      simp only [List.isEmpty_cons,Bool.false_eq_true,if_false,Bool.not_false,Bool.and_true,Bool.true_and,Bool.false_and]
      try (rw [Bool.and_comm]; congr 1; rw [Bool.eq_iff_iff]; simp; omega)
    |cons x y=>simp
   ·rw [if_neg h3,if_neg h3]; simp
theorem reffine_loop (w0:World) (B:Nat) (D:List (List UInt8)) (hD:D.length≤16) (A:Option Addr) (c:Nat) (HR:Reads w0 w0.heap.size 1 A D.length (strv D))
  (Q:Exit→Act→World→Prop)
  (hQ:sumsOk D=true→∀ ⦃s0 s2 s4 s5 s6 s7 s8 s9 a0 a2 a3 a4 a5 a6 a7 a8 a9 b0 b1 b2 b3 b4 b5 b6 b7 b8 b9 c0 c1 c2 c3 c4 c5 c6 c7 c8 c9 d0 d1 d2 d3 d4 d5 d6 d7 d8 d9 e0 e1 e2 e3 e4 e5 e6 e7 e8 e9 f0 f1 f2 f3 f4 f5 f6 f7 f8 f9 g0 g1 g2 g3 g4 g5 g6 g7 g8 g9 h0 h3 h4 h5 h6 h7 h8 h9 i0:Value⦄,Q (.exit 0) {tmps:=#[s0,.pointer (some ⟨B,0,none⟩),s2,.slice A D.length c,s4,s5,s6,s7,s8,s9,a0,a2,a3,a4,a5,a6,a7,a8,a9,b0,b1,b2,b3,b4,b5,b6,b7,b8,b9,c0,c1,c2,c3,c4,c5,c6,c7,c8,c9,d0,d1,d2,d3,d4,d5,d6,d7,d8,d9,e0,e1,e2,e3,e4,e5,e6,e7,e8,e9,f0,f1,f2,f3,f4,f5,f6,f7,f8,f9,g0,g1,g2,g3,g4,g5,g6,g7,g8,g9,h0,h3,h4,h5,h6,h7,h8,h9,i0],defers:= []} w0)
  (hR:sumsOk D=false→∀ ⦃s0 s1 s3 s4 s5 s6 s7 s8 s9 a0 a2 a3 a4 a5 a6 a7 a8 a9 b0 b1 b2 b3 b4 b5 b6 b7 b8 b9 c0 c1 c2 c3 c4 c5 c6 c7 c8 c9 d0 d1 d2 d3 d4 d5 d6 d7 d8 d9 e0 e1 e2 e3 e4 e5 e6 e7 e8 e9 f0 f1 f2 f3 f4 f5 f6 f7 f8 f9 g0 g1 g2 g3 g4 g5 g6 g7 g8 g9 h0 h3 h4 h5 h6 h7 h8 h9 i0:Value⦄,Q .ret {tmps:=#[s0,s1,.bool false,s3,s4,s5,s6,s7,s8,s9,a0,a2,a3,a4,a5,a6,a7,a8,a9,b0,b1,b2,b3,b4,b5,b6,b7,b8,b9,c0,c1,c2,c3,c4,c5,c6,c7,c8,c9,d0,d1,d2,d3,d4,d5,d6,d7,d8,d9,e0,e1,e2,e3,e4,e5,e6,e7,e8,e9,f0,f1,f2,f3,f4,f5,f6,f7,f8,f9,g0,g1,g2,g3,g4,g5,g6,g7,g8,g9,h0,h3,h4,h5,h6,h7,h8,h9,i0],defers:= []} w0)
  (s0 s2 s5 s6 s7 s8 s9 a0 a2 a3 a4 a5 a6 a7 a8 a9 b0 b1 b2 b3 b4 b5 b6 b7 b8 b9 c0 c1 c2 c3 c4 c5 c6 c7 c8 c9 d0 d1 d2 d3 d4 d5 d6 d7 d8 d9 e0 e1 e2 e3 e4 e5 e6 e7 e8 e9 f0 f1 f2 f3 f4 f5 f6 f7 f8 f9 g0 g1 g2 g3 g4 g5 g6 g7 g8 g9 h0 h3 h4 h5 h6 h7 h8 h9 i0:Value):
  Code.wp Tryz.prog (.loop (loopAt Tryz.f198 0)) Q {tmps:=#[s0,.pointer (some ⟨B,0,none⟩),s2,.slice A D.length c,.int .i64 0,s5,s6,s7,s8,s9,a0,a2,a3,a4,a5,a6,a7,a8,a9,b0,b1,b2,b3,b4,b5,b6,b7,b8,b9,c0,c1,c2,c3,c4,c5,c6,c7,c8,c9,d0,d1,d2,d3,d4,d5,d6,d7,d8,d9,e0,e1,e2,e3,e4,e5,e6,e7,e8,e9,f0,f1,f2,f3,f4,f5,f6,f7,f8,f9,g0,g1,g2,g3,g4,g5,g6,g7,g8,g9,h0,h3,h4,h5,h6,h7,h8,h9,i0],defers:= []} w0:=by
 have HQ:=ι hQ;have HT:=ι hR;clear hQ hR;refine wp_loop_ghost_k (fun k a wr=>∀ Φ:Act→Prop,(∀ ⦃s0 s2 s5 s6 s7 s8 s9 a0 a2 a3 a4 a5 a6 a7 a8 a9 b0 b1 b2 b3 b4 b5 b6 b7 b8 b9 c0 c1 c2 c3 c4 c5 c6 c7 c8 c9 d0 d1 d2 d3 d4 d5 d6 d7 d8 d9 e0 e1 e2 e3 e4 e5 e6 e7 e8 e9 f0 f1 f2 f3 f4 f5 f6 f7 f8 f9 g0 g1 g2 g3 g4 g5 g6 g7 g8 g9 h0 h3 h4 h5 h6 h7 h8 h9 i0:Value⦄ (i:Nat),(i+k=D.length∧sumsOk (D.take i)=true∧wr=w0)→Φ {tmps:=#[s0,.pointer (some ⟨B,0,none⟩),s2,.slice A D.length c,.int .i64 i,s5,s6,s7,s8,s9,a0,a2,a3,a4,a5,a6,a7,a8,a9,b0,b1,b2,b3,b4,b5,b6,b7,b8,b9,c0,c1,c2,c3,c4,c5,c6,c7,c8,c9,d0,d1,d2,d3,d4,d5,d6,d7,d8,d9,e0,e1,e2,e3,e4,e5,e6,e7,e8,e9,f0,f1,f2,f3,f4,f5,f6,f7,f8,f9,g0,g1,g2,g3,g4,g5,g6,g7,g8,g9,h0,h3,h4,h5,h6,h7,h8,h9,i0],defers:= []})→Φ a) (D.length) ?_ ?_
 ·refine fun Φ hΦ=>hΦ (0) ?_;exact ⟨by omega,rfl,rfl⟩
 ·intro k1 a1 wr1 hI1 J1 K1 hJ1 hK1;refine hI1 (fun a=>Code.wp _ _ _ a _) ?_;clear hI1 a1;iterate 85 (intro _)
  intro i hrel
  show Code.wp _ _ _ _ _
  conv=>arg 2; whnf
  obtain ⟨h1,h2,rfl⟩:=hrel;by_cases hi:i<D.length
  ·obtain ⟨ad,rfl,hbl,hcell⟩:=HR.2 (by omega);have q0:=hcell i _ (strv_at hi);have hi1:(i:Int)<D.length:=by omega
   have hs:sumsOk (D.take (i+1))=decide (D[i].length=32):=by
    rw [List.take_succ_eq_append_getElem hi];unfold sumsOk at *;rw [List.all_append,h2];simp
   have hf:decide (D[i].length=32)=false→sumsOk D=false:=fun h=>by
    rw [Bool.eq_false_iff];intro hc;unfold sumsOk at hc;rw [List.all_eq_true] at hc
    have:=hc _ (List.getElem_mem hi)
    rw [h] at this;cases this
   clear hcell HR;generalize D[i]=s at *;by_cases h32:s.length=32
   ·have e32:((s.length:Int)=32)=True:=by simp; omega
    have T:=ι (show sumsOk (D.take (i+1))=true from hs.trans (by simp [h32]));clear hs hf;go_wp2
    refine Handed.intro (D.length - (i+1)) ?_ (hJ1 _ _ _ (fun Φ hΦ=>hΦ (i+1) ?_))
    ·omega
    ·exact ⟨by omega,T.out,rfl⟩
   ·have e32:((s.length:Int)=32)=False:=by simp; omega
    have T:=ι (hf (by simp [h32]));clear hs hf;go_wp2
    apply HT.out T.out
  ·have e:D.take i=D:=List.take_of_length_le (by omega);have hi2:((i:Int)<D.length)=False:=by simp; omega
   rw [e] at h2;have E2:=ι h2;clear h2 e;go_wp2
   apply HQ.out E2.out
theorem z_15 {P:Prop} (h:P:=by
 go_wp2_with (go_at_call 200; refine (HFit.out _).mono ?_; rintro e w2 ⟨rfl,rfl⟩)
 all_goals (refine HP.out _ _ ?_ F.out.b; rw [HX.out]; clear HP HX F HFit HK0 q0 q1 q2 q3; first|(simp; done)|(simp_all; done)|((try simp only [beq_iff_eq,beq_eq_false_iff_ne,ne_eq] at *); (try norm_cast at *); first|(simp_all; done)|(simp_all; omega)))):P:=h
theorem ref08_Fine (w:World) (k:Nat) (p v:List UInt8) (K:List (List UInt8)) (hK:K.length=16) (hp:p.length≤1048576):
  Calls Tryz.prog 198 #[.agg (nodeV k p v K).toArray] w (Ret w (.bool (fineR k p v K))):=by
 have HP:Hid (∀ b w',fineR k p v K=b→Below w.heap.size w w'→Ret w (.bool (fineR k p v K)) (Ending.returned (.bool b)) w'):=ι (fun b w' h h2=>by rw [h]; exact ⟨rfl,h2⟩);have HX:Hid (fineR k p v K=_):=ι (show fineR k p v K=_ by unfold fineR; rfl);generalize Ret w (.bool (fineR k p v K))=P at HP ⊢;generalize fineR k p v K=X at HP HX;have HC:=ι (fun W=>ref08_Kids W k p v K hK);have HFit:=ι (fun W=>refnib_Fit p W hp);have HK16:Hid ((kidsW K).length≤16):=ι (by have:=List.length_filter_le (fun s:List UInt8=> !s.isEmpty) K; unfold kidsW; omega);have HK0:Hid ((strv K)[0]?=some (.string ⟨(K.getD 0 []).toArray⟩)):=ι (by
  rw [strv_at (show 0<K.length by omega),List.getD_eq_getElem?_getD,List.getElem?_eq_getElem (show 0<K.length by omega)]; rfl)
 go_enter Tryz.func198,Tryz.ntmps198
 go_upto_region 1 with fail
 have SZ:(Tryz.prog.info? 177).map (·.size)=some (nodeV k p v K).length:=by rw [nodeV_size hK]; exact info_node
 have F:=Live.ha (ι (Live.start w)) (nodeV k p v K).toArray 177;generalize w.alloc (.cells (nodeV k p v K).toArray 177)=W0 at F ⊢;obtain ⟨_,_,_,_,RA⟩:=NodeAt.of (C:= []) (by rw [List.append_nil]; exact F.out.blk 0 rfl);go_upto_region 2 with (first|(refine wpList_load_mid rfl 177 _ rfl w.heap.size 0 rfl _ _ RA Tryz.underlying177 rfl SZ ?_)|(go_at_call 202; refine (HC.out _).mono ?_; rintro e w1 ⟨A,c,n,rfl,rfl,own,hb⟩))
 have OWN:=ι own
 (first|have F:=Live.hb F hb|have F:=Live.hbd F hb); clear hb
 clear RA SZ own;obtain ⟨q0,q1,q2,RK,_⟩:=NodeAt.of (C:= []) (by rw [List.append_nil]; exact F.out.blk 0 rfl);go_upto_region 3 with fail
 refine reffine_loop w1 w.heap.size (kidsW K) HK16.out A c (Reads.of_own OWN.out) _ ?_ ?_ _ _ _ _ _ _ _ _ _ _ _ _ _ _ _ _ _ _ _ _ _ _ _ _ _ _ _ _ _ _ _ _ _ _ _ _ _ _ _ _ _ _ _ _ _ _ _ _ _ _ _ _ _ _ _ _ _ _ _ _ _ _ _ _ _ _ _ _ _ _ _ _ _ _ _ _ _ _ _ _ _ _ _ _ _
 ·intro hs s0 s2 s4 s5 s6 s7 s8 s9 s10 s11 s12 s13 s14 s15 s16 s17 s18 s19 s20 s21 s22 s23 s24 s25 s26 s27 s28 s29 s30 s31 s32 s33 s34 s35 s36 s37 s38 s39 s40 s41 s42 s43 s44 s45 s46 s47 s48 s49 s50 s51 s52 s53 s54 s55 s56 s57 s58 s59 s60 s61 s62 s63 s64 s65 s66 s67 s68 s69 s70 s71 s72 s73 s74 s75 s76 s77 s78 s79 s80 s81 s82 s83 s84 s85 s86 s87;rw [hs,Bool.true_and] at HX;have q3:w1.cell? ⟨w.heap.size,3,none⟩=some (.string ⟨(K.getD 0 []).toArray⟩):=RK 0 _ HK0.out;clear hs hp OWN HC RK;generalize (kidsW K).length=n at *;generalize K.getD 0 []=k0 at *;generalize Nib.fit p=ft at *;cases ft with
  |false=>
   exact z_15
  |true=>
   exact z_15
 ·intro hs s0 s1 s3 s4 s5 s6 s7 s8 s9 s10 s11 s12 s13 s14 s15 s16 s17 s18 s19 s20 s21 s22 s23 s24 s25 s26 s27 s28 s29 s30 s31 s32 s33 s34 s35 s36 s37 s38 s39 s40 s41 s42 s43 s44 s45 s46 s47 s48 s49 s50 s51 s52 s53 s54 s55 s56 s57 s58 s59 s60 s61 s62 s63 s64 s65 s66 s67 s68 s69 s70 s71 s72 s73 s74 s75 s76 s77 s78 s79 s80 s81 s82 s83 s84 s85 s86 s87;have hx:X=false:=by rw [HX.out,hs]; rfl
  go_wp2
  exact HP.out _ _ hx F.out.b
def bitK (K:List (List UInt8)) (i:Nat):Nat:=if (K.getD i []).isEmpty then 0 else 1
def hiTo (K:List (List UInt8)):Nat→Nat
 |0=>0
 |i+1=>if i<8 then hiTo K i*2+bitK K i else hiTo K i
def loTo (K:List (List UInt8)):Nat→Nat
 |0=>0
 |i+1=>if i<8 then loTo K i else loTo K i*2+bitK K i
theorem bitK_le (K:List (List UInt8)) (i:Nat):bitK K i≤1:=by unfold bitK; split<;>omega
theorem bit_pow (K:List (List UInt8)) (i n:Nat):(if (K.getD i []).isEmpty then 0 else n)=bitK K i*n:=by unfold bitK; split<;>simp
theorem hilo (K:List (List UInt8)):bitsTo K 16 / 256=hiTo K 16∧bitsTo K 16 % 256=loTo K 16:=by
 simp only [bitsTo,hiTo,loTo,bit_pow];have h:=bitK_le K;have h0:=h 0;have h1:=h 1;have h2:=h 2;have h3:=h 3;have h4:=h 4;have h5:=h 5;have h6:=h 6;have h7:=h 7;have h8:=h 8;have h9:=h 9;have h10:=h 10;have h11:=h 11;have h12:=h 12;have h13:=h 13;have h14:=h 14;have h15:=h 15;simp
 omega
theorem hiTo_lt (K:List (List UInt8)):∀ i,hiTo K i<2 ^ (min i 8)
 |0=>by simp [hiTo]
 |i+1=>by
  have ih:=hiTo_lt K i;have hb:=bitK_le K i;simp only [hiTo]
  split
  ·rw [show min (i+1) 8=min i 8+1 by omega,Nat.pow_succ]; omega
  ·rw [show min (i+1) 8=min i 8 by omega]; exact ih
theorem loTo_lt (K:List (List UInt8)):∀ i,i≤16→loTo K i<2 ^ (i - 8)
 |0,_=>by simp [loTo]
 |i+1,h=>by
  have ih:=loTo_lt K i (by omega);have hb:=bitK_le K i;simp only [loTo]
  split
  ·rw [show i+1 - 8=i - 8 by omega]; exact ih
  ·rw [show i+1 - 8=i - 8+1 by omega,Nat.pow_succ]; omega
theorem pow_le8 {n:Nat} (h:n≤8):2 ^ n≤256:=by
 have:2 ^ n≤2 ^ 8:=Nat.pow_le_pow_right (by omega) h
 omega
theorem kidsW_flat (K:List (List UInt8)):(kidsW K).flatten=K.flatten:=by
 induction K with
 |nil=>rfl
 |cons a t ih=>
  unfold kidsW at ih ⊢;rw [List.filter_cons];cases a<;>simp [ih]
theorem refwritten_loop (w0:World) (B kk:Nat) (p v:List UInt8) (T:ByteArray) (K:List (List UInt8)) (hK:K.length=16) (h32:∀ s∈K,s.length≤32) (HB:Hid (Blk w0 B 177 (nodeV kk p v K).toArray))
  (Q:Exit→Act→World→Prop)
  (hQ:∀ ⦃s0 s2 s7 s8 s9 s1 s3 s4 s5 s6 a0 a2 a3 a4 a5 a6 a7 a8 a9 b0 b1 b2 b3 b4 b5 b6 b7 b8 b9 c0 c1 c2 c3 c4 c5 c6 c7 c8 c9 d0 d1 d2 d3 d4 d5 d6 d7 d8 d9 e0 e1 e2 e3 e4 e5 e6 e7 e8 e9 f0 f1 f2 f3 f4 f5 f6 f7 f8 f9 g0 g1 g2 g3 g4 g5 g6 g7 g8 g9:Value⦄,Q (.exit 0) {tmps:=#[s0,.pointer (some ⟨B,0,none⟩),s2,.string T,.int .i64 (hiTo K 16:Int),.int .i64 (loTo K 16:Int),.string ⟨K.flatten.toArray⟩,s7,s8,s9,s1,s3,s4,s5,s6,a0,a2,a3,a4,a5,a6,a7,a8,a9,b0,b1,b2,b3,b4,b5,b6,b7,b8,b9,c0,c1,c2,c3,c4,c5,c6,c7,c8,c9,d0,d1,d2,d3,d4,d5,d6,d7,d8,d9,e0,e1,e2,e3,e4,e5,e6,e7,e8,e9,f0,f1,f2,f3,f4,f5,f6,f7,f8,f9,g0,g1,g2,g3,g4,g5,g6,g7,g8,g9],defers:= []} w0)
  (s0 s2 s8 s9 s1 s3 s4 s5 s6 a0 a2 a3 a4 a5 a6 a7 a8 a9 b0 b1 b2 b3 b4 b5 b6 b7 b8 b9 c0 c1 c2 c3 c4 c5 c6 c7 c8 c9 d0 d1 d2 d3 d4 d5 d6 d7 d8 d9 e0 e1 e2 e3 e4 e5 e6 e7 e8 e9 f0 f1 f2 f3 f4 f5 f6 f7 f8 f9 g0 g1 g2 g3 g4 g5 g6 g7 g8 g9:Value):
  Code.wp Tryz.prog (.loop (loopAt Tryz.f190 0)) Q {tmps:=#[s0,.pointer (some ⟨B,0,none⟩),s2,.string T,.int .i64 0,.int .i64 0,.string ⟨#[]⟩,.int .i64 0,s8,s9,s1,s3,s4,s5,s6,a0,a2,a3,a4,a5,a6,a7,a8,a9,b0,b1,b2,b3,b4,b5,b6,b7,b8,b9,c0,c1,c2,c3,c4,c5,c6,c7,c8,c9,d0,d1,d2,d3,d4,d5,d6,d7,d8,d9,e0,e1,e2,e3,e4,e5,e6,e7,e8,e9,f0,f1,f2,f3,f4,f5,f6,f7,f8,f9,g0,g1,g2,g3,g4,g5,g6,g7,g8,g9],defers:= []} w0:=by
 have HQ:=ι hQ;clear hQ;refine wp_loop_ghost_k (fun k a wr=>∀ Φ:Act→Prop,(∀ ⦃s0 s2 s8 s9 s1 s3 s4 s5 s6 a0 a2 a3 a4 a5 a6 a7 a8 a9 b0 b1 b2 b3 b4 b5 b6 b7 b8 b9 c0 c1 c2 c3 c4 c5 c6 c7 c8 c9 d0 d1 d2 d3 d4 d5 d6 d7 d8 d9 e0 e1 e2 e3 e4 e5 e6 e7 e8 e9 f0 f1 f2 f3 f4 f5 f6 f7 f8 f9 g0 g1 g2 g3 g4 g5 g6 g7 g8 g9:Value⦄ (i h l:Nat) (S:List UInt8),(i+k=16∧h=hiTo K i∧l=loTo K i∧S=(K.take i).flatten∧wr=w0)→Φ {tmps:=#[s0,.pointer (some ⟨B,0,none⟩),s2,.string T,.int .i64 (h:Int),.int .i64 (l:Int),.string ⟨S.toArray⟩,.int .i64 (i:Int),s8,s9,s1,s3,s4,s5,s6,a0,a2,a3,a4,a5,a6,a7,a8,a9,b0,b1,b2,b3,b4,b5,b6,b7,b8,b9,c0,c1,c2,c3,c4,c5,c6,c7,c8,c9,d0,d1,d2,d3,d4,d5,d6,d7,d8,d9,e0,e1,e2,e3,e4,e5,e6,e7,e8,e9,f0,f1,f2,f3,f4,f5,f6,f7,f8,f9,g0,g1,g2,g3,g4,g5,g6,g7,g8,g9],defers:= []})→Φ a) (16) ?_ ?_
 ·refine fun Φ hΦ=>hΦ (0) (0) (0) ([]) ?_;exact ⟨by omega,rfl,rfl,rfl,rfl⟩
 ·intro k1 a1 wr1 hI1 J1 K1 hJ1 hK1;refine hI1 (fun a=>Code.wp _ _ _ a _) ?_;clear hI1 a1;iterate 78 (intro _)
  intro i h l S hrel
  show Code.wp _ _ _ _ _
  conv=>arg 2; whnf
  obtain ⟨h1,h2,h3,h4,rfl⟩:=hrel;by_cases hi:i<16
  ·have hi1:(i:Int)<16:=by omega
   obtain ⟨_,_,_,RK,_⟩:=NodeAt.of (C:= []) (by rw [List.append_nil]; exact HB.out);have hKi:K[i]?=some (K.getD i []):=by rw [List.getD_eq_getElem?_getD,List.getElem?_eq_getElem (show i<K.length by omega)]; rfl
   have ec:wr1.cell? ⟨B,3+i,none⟩=some (.string ⟨(K.getD i []).toArray⟩):=RK i _ (strv_getD (by omega));have hl:=ι (show S.length≤1000 by
    have:=flatten_len (n:=32) (K.take i) (fun s hs=>h32 s (List.mem_of_mem_take hs))
    rw [h4]; rw [List.length_take] at this; omega)
   have hs32:(K.getD i []).length≤32:=h32 _ (List.mem_of_getElem? hKi);have HFl:Hid ((K.take (i+1)).flatten=S++K.getD i []):=ι (by
    rw [List.take_add_one,hKi,List.flatten_append,h4]; simp)
   have hh:=hiTo_lt K i;have hl2:=loTo_lt K i (by omega);have hp1:=pow_le8 (n:=min i 8) (by omega);have hp2:=pow_le8 (n:=i - 8) (by omega);rw [←h2] at hh;rw [←h3] at hl2;have hh:h≤256:=by omega
   have hll:l≤256:=by omega
   have HI:=ι (And.intro h1 (And.intro h2 h3));have HBt:Hid (bitK K i=if (K.getD i []).isEmpty then 0 else 1):=ι rfl;have hsl:=hl.out;clear RK h1 h2 h3 h4 hKi hl2 hp1 hp2 h32;generalize K.getD i []=s at *;cases s with
   |nil=>
    replace HBt:Hid (bitK K i=0):=HBt
    have HS:Hid (S=(K.take (i+1)).flatten):=ι (by rw [HFl.out,List.append_nil]);by_cases h8:i<8
    ·have h8i:(i:Int)<8:=by omega
     have eh:=ι (show hiTo K (i+1)=h*2+0 by rw [hiTo,if_pos h8,←HI.out.2.1,HBt.out]);have el:=ι (show loTo K (i+1)=l by rw [loTo,if_pos h8,←HI.out.2.2]);clear h8;go_wp2
     (try rw [show (h:Int)*2+1=((h*2+1:Nat):Int) by omega])
     (try rw [show (h:Int)*2=((h*2+0:Nat):Int) by omega])
     refine Handed.intro (16 - (i+1)) ?_ (hJ1 _ _ _ (fun Φ hΦ=>hΦ (i+1) (h*2+0) (l) (S) ?_))
     ·have:=HI.out.1; omega
     ·exact ⟨by have:=HI.out.1; omega,eh.out.symm,el.out.symm,HS.out,rfl⟩
    ·have h8i:((i:Int)<8)=False:=by simp; omega
     have eh:=ι (show hiTo K (i+1)=h by rw [hiTo,if_neg h8,←HI.out.2.1]);have el:=ι (show loTo K (i+1)=l*2+0 by rw [loTo,if_neg h8,←HI.out.2.2,HBt.out]);clear h8;go_wp2
     (try rw [show (l:Int)*2+1=((l*2+1:Nat):Int) by omega])
     (try rw [show (l:Int)*2=((l*2+0:Nat):Int) by omega])
     refine Handed.intro (16 - (i+1)) ?_ (hJ1 _ _ _ (fun Φ hΦ=>hΦ (i+1) (h) (l*2+0) (S) ?_))
     ·have:=HI.out.1; omega
     ·exact ⟨by have:=HI.out.1; omega,eh.out.symm,el.out.symm,HS.out,rfl⟩
   |cons a t=>
    replace HBt:Hid (bitK K i=1):=HBt
    have HS:Hid (S++(a::t)=(K.take (i+1)).flatten):=ι (by rw [HFl.out]);have ne1:((a::t).toArray=#[])=False:=by simp
    have se:(a::t).isEmpty=false:=rfl;clear HFl;generalize hs:(a::t)=s at *;have hsum:S.length+s.length≤9223372036854775807:=by omega
    by_cases h8:i<8
    ·have h8i:(i:Int)<8:=by omega
     have eh:=ι (show hiTo K (i+1)=h*2+1 by rw [hiTo,if_pos h8,←HI.out.2.1,HBt.out]);have el:=ι (show loTo K (i+1)=l by rw [loTo,if_pos h8,←HI.out.2.2]);clear h8;go_wp2
     (try rw [show (h:Int)*2+1=((h*2+1:Nat):Int) by omega])
     (try rw [show (h:Int)*2=((h*2+0:Nat):Int) by omega])
     refine Handed.intro (16 - (i+1)) ?_ (hJ1 _ _ _ (fun Φ hΦ=>hΦ (i+1) (h*2+1) (l) (S++s) ?_))
     ·have:=HI.out.1; omega
     ·exact ⟨by have:=HI.out.1; omega,eh.out.symm,el.out.symm,HS.out,rfl⟩
    ·have h8i:((i:Int)<8)=False:=by simp; omega
     have eh:=ι (show hiTo K (i+1)=h by rw [hiTo,if_neg h8,←HI.out.2.1]);have el:=ι (show loTo K (i+1)=l*2+1 by rw [loTo,if_neg h8,←HI.out.2.2,HBt.out]);clear h8;go_wp2
     (try rw [show (l:Int)*2+1=((l*2+1:Nat):Int) by omega])
     (try rw [show (l:Int)*2=((l*2+0:Nat):Int) by omega])
     refine Handed.intro (16 - (i+1)) ?_ (hJ1 _ _ _ (fun Φ hΦ=>hΦ (i+1) (h) (l*2+1) (S++s) ?_))
     ·have:=HI.out.1; omega
     ·exact ⟨by have:=HI.out.1; omega,eh.out.symm,el.out.symm,HS.out,rfl⟩
  ·have e16:i=16:=by omega
   subst e16;have H2:=ι (And.intro h2 (And.intro h3 h4));rw [List.take_of_length_le (by omega)] at h4;subst h2;subst h3;subst h4;clear h1 H2;go_wp2
   apply HQ.out
theorem ref08_written3 (w:World) (v:List UInt8) (K:List (List UInt8)) (hK:K.length=16) (hf:fineN 3 [] v K=true):
  Calls Tryz.prog 190 #[.agg (nodeV 3 [] v K).toArray] w (Ret w (.string ⟨(nodeText 3 [] v K).toArray⟩)):=by
 obtain ⟨_,_,_,hv,hs⟩:=fineN_parts hf;have h32:∀ s∈K,s.length≤32:=fun s hsK=>by
  by_cases he:s.isEmpty
  ·rw [List.isEmpty_iff.1 he]; simp
  ·exact kidsW_32 hs s (by unfold kidsW; exact List.mem_filter.2 ⟨hsK,by simp at he; simp [he]⟩)
 have hx:nodeText 3 [] v K=(3::UInt8.ofNat (hiTo K 16:Int).toNat:: [UInt8.ofNat (loTo K 16:Int).toNat])++(K.flatten++textW v):=by
  unfold nodeText;rw [if_pos rfl,kidsW_flat];obtain ⟨e1,e2⟩:=hilo K;rw [Int.toNat_natCast,Int.toNat_natCast,←e1,←e2,ofNat_mod256];rfl
 have HP:Hid (∀ s w',nodeText 3 [] v K=s→Below w.heap.size w w'→Ret w (.string ⟨(nodeText 3 [] v K).toArray⟩) (Ending.returned (s:Value)) w'):=ι (fun b w' h h2=>by rw [h]; exact ⟨rfl,h2⟩);generalize Ret w (.string ⟨(nodeText 3 [] v K).toArray⟩)=P at HP ⊢;rw [hx] at HP;have HT:=ι (fun W=>ref02_Text v (by omega) W);have htl:=textW_len v (by omega);have hfl:=flatten_len (n:=32) K h32;rw [hK] at hfl;have g1:=hiTo_lt K 16;have g2:=loTo_lt K 16 (by omega);have H32:=ι h32;have hKl:K.flatten.length≤600:=by omega
 have htl2:(textW v).length≤100:=by omega
 have g1:(hiTo K 16:Int)<256:=by simp at g1; omega
 have g2:(loTo K 16:Int)<256:=by simp at g2; omega
 have g1b:(0:Int)≤(hiTo K 16:Int):=by omega
 have g2b:(0:Int)≤(loTo K 16:Int):=by omega
 clear hs hx h32 htl hfl;go_enter Tryz.func190,Tryz.ntmps190
 go_upto_region 1 with fail
 have F:=Live.ha (ι (Live.start w)) (nodeV 3 [] v K).toArray 177;generalize w.alloc (.cells (nodeV 3 [] v K).toArray 177)=W0 at F ⊢;obtain ⟨q0,q1,q2,RK,_⟩:=NodeAt.of (C:= []) (by rw [List.append_nil]; exact F.out.blk 0 rfl);have cv:=conv1 W0 3 (by omega) (by omega);go_upto_region 2 with fail
 have F:=Live.ha F #[.int .u8 3] 5;clear cv q0 q1 q2 RK;generalize World.alloc W0 _=W1 at F ⊢
 replace F:Hid (Live w W1 [(w.heap.size,177,(nodeV 3 [] v K).toArray)]):=ι (F.out.drop 1)
 obtain ⟨q0,q1,q2,RK,_⟩:=NodeAt.of (C:= []) (by rw [List.append_nil]; exact F.out.blk 0 rfl);go_upto_region 6 with fail
 refine refwritten_loop W1 w.heap.size 3 [] v _ K hK H32.out (ι (F.out.blk 0 rfl)) _ ?_ _ _ _ _ _ _ _ _ _ _ _ _ _ _ _ _ _ _ _ _ _ _ _ _ _ _ _ _ _ _ _ _ _ _ _ _ _ _ _ _ _ _ _ _ _ _ _ _ _ _ _ _ _ _ _ _ _ _ _ _ _ _ _ _ _ _ _ _ _ _ _ _ _ _ _ _ _ _;intro s0 s2 s7 s8 s9 s10 s11 s12 s13 s14 s15 s16 s17 s18 s19 s20 s21 s22 s23 s24 s25 s26 s27 s28 s29 s30 s31 s32 s33 s34 s35 s36 s37 s38 s39 s40 s41 s42 s43 s44 s45 s46 s47 s48 s49 s50 s51 s52 s53 s54 s55 s56 s57 s58 s59 s60 s61 s62 s63 s64 s65 s66 s67 s68 s69 s70 s71 s72 s73 s74 s75 s76 s77 s78 s79 s80 s81 s82 s83;go_upto_region 15 with fail
 generalize K.flatten=D at *;generalize textW v=Y at *;generalize (hiTo K 16:Int)=hi at *;generalize (loTo K 16:Int)=lo at *;have e1:IntKind.u8.wrap hi=hi:=IntWalk.u8_in _ (by omega);have e2:IntKind.u8.wrap lo=lo:=IntWalk.u8_in _ (by omega);have FA:=Live.ha F #[.int .u8 hi,.int .u8 lo] 5;have cd:=conv2b (FA.out.blk 0 rfl).drew g1b g1 g2b g2;have kA:(W1.alloc (.cells #[.int .u8 hi,.int .u8 lo] 5)).cell? ⟨w.heap.size,2,none⟩=some (v:Value):=FA.out.cell 1 2 rfl rfl;have hn1:(9223372036854775807<3+D.length)=False:=by simp; omega
 have hn2:(9223372036854775807<D.length+1+1+1+Y.length)=False:=by simp; omega
 have hn3:3+D.length+Y.length≤9223372036854775807:=by omega
 go_region_law (refine step_call rfl 154 #[v] (by go_simp) _ (HT.out _) ?_; rintro e w1 ⟨rfl,hb⟩; refine ⟨_,rfl,?_⟩; (first|(have F:=Live.hbd FA hb; have k2:w1.cell? ⟨w.heap.size,2,none⟩=some (v:Value):=F.out.cell 1 2 rfl rfl; have cd1:=conv2b (F.out.blk 0 rfl) g1b g1 g2b g2)|(have F:=Live.hbd F hb; have k2:w1.cell? ⟨w.heap.size,2,none⟩=some (v:Value):=F.out.cell 0 2 rfl rfl; have F:=Live.ha F #[.int .u8 hi,.int .u8 lo] 5; have cd1:=conv2b (F.out.blk 0 rfl) g1b g1 g2b g2)))
 all_goals go_wp2
 all_goals (first|exact HP.out _ _ rfl (by first|exact F.out.b|exact F.out.b.drew)|(go_ret; exact HP.out _ _ rfl (by first|exact F.out.b|exact F.out.b.drew)))
theorem ref08_written1 (w:World) (p v:List UInt8) (K:List (List UInt8)) (hK:K.length=16) (hf:fineN 1 p v K=true):
  Calls Tryz.prog 190 #[.agg (nodeV 1 p v K).toArray] w (Ret w (.string ⟨(nodeText 1 p v K).toArray⟩)):=by
 obtain ⟨_,hfit,hp,hv,hs⟩:=fineN_parts hf;have HP:Hid (∀ s w',nodeText 1 p v K=s→Below w.heap.size w w'→Ret w (.string ⟨(nodeText 1 p v K).toArray⟩) (Ending.returned (s:Value)) w'):=ι (fun b w' h h2=>by rw [h]; exact ⟨rfl,h2⟩);generalize Ret w (.string ⟨(nodeText 1 p v K).toArray⟩)=P at HP ⊢;rw [show nodeText 1 p v K=1::(textW (Nib.packed p true)++textW v) from rfl] at HP;have hpl:=Nib.packed_length p true;have HPk:=ι (fun W=>refnib_Pack p true W (by omega));rw [show Nib.pack p true=(Nib.packed p true,0) by unfold Nib.pack; rw [hfit]; rfl] at HPk;have HT1:=ι (fun W=>ref02_Text (Nib.packed p true) (by omega) W);have HT2:=ι (fun W=>ref02_Text v (by omega) W);have l1:=textW_len (Nib.packed p true) (by omega);have l2:=textW_len v (by omega);have l1:(textW (Nib.packed p true)).length≤1000:=by omega
 have l2:(textW v).length≤1000:=by omega
 clear hf hs hpl hfit;generalize textW (Nib.packed p true)=X at *;generalize textW v=Y at *;generalize Nib.packed p true=pk at *;have m1:1+X.length≤9223372036854775807:=by omega
 have m2:1+X.length+Y.length≤9223372036854775807:=by omega
 have m3:X.length+1+Y.length≤9223372036854775807:=by omega
 go_enter Tryz.func190,Tryz.ntmps190
 go_upto_region 1 with fail
 have F:=Live.ha (ι (Live.start w)) (nodeV 1 p v K).toArray 177;generalize w.alloc (.cells (nodeV 1 p v K).toArray 177)=W0 at F ⊢;obtain ⟨q0,q1,q2,RK,_⟩:=NodeAt.of (C:= []) (by rw [List.append_nil]; exact F.out.blk 0 rfl);have cv:=conv1 W0 1 (by omega) (by omega);go_upto_region 2 with fail
 have F:=Live.ha F #[.int .u8 1] 5;clear cv q0 q1 q2 RK;generalize World.alloc W0 _=W1 at F ⊢
 replace F:Hid (Live w W1 [(w.heap.size,177,(nodeV 1 p v K).toArray)]):=ι (F.out.drop 1)
 obtain ⟨q0,q1,q2,RK,_⟩:=NodeAt.of (C:= []) (by rw [List.append_nil]; exact F.out.blk 0 rfl);go_wp2_with fail
 refine (HPk.out _).mono ?_;rintro e w1 ⟨rfl,hb⟩
 (first|have F:=Live.hb F hb|have F:=Live.hbd F hb); clear hb
 clear q0 q1 q2 RK;obtain ⟨q0,q1,q2,RK,_⟩:=NodeAt.of (C:= []) (by rw [List.append_nil]; exact F.out.blk 0 rfl);go_wp2_with fail
 refine (HT1.out _).mono ?_;rintro e w2 ⟨rfl,hb⟩
 (first|have F:=Live.hb F hb|have F:=Live.hbd F hb); clear hb
 clear q0 q1 q2 RK;obtain ⟨q0,q1,q2,RK,_⟩:=NodeAt.of (C:= []) (by rw [List.append_nil]; exact F.out.blk 0 rfl);go_wp2_with fail
 refine (HT2.out _).mono ?_;rintro e w3 ⟨rfl,hb⟩
 (first|have F:=Live.hb F hb|have F:=Live.hbd F hb); clear hb
 go_wp2
 exact HP.out _ _ rfl F.out.b
theorem ref08_written2 (w:World) (p v:List UInt8) (K:List (List UInt8)) (hK:K.length=16) (hf:fineN 2 p v K=true):
  Calls Tryz.prog 190 #[.agg (nodeV 2 p v K).toArray] w (Ret w (.string ⟨(nodeText 2 p v K).toArray⟩)):=by
 obtain ⟨_,hfit,hp,hv,hs⟩:=fineN_parts hf;have hk0:=(fine_ext hf).1;have HP:Hid (∀ s w',nodeText 2 p v K=s→Below w.heap.size w w'→Ret w (.string ⟨(nodeText 2 p v K).toArray⟩) (Ending.returned (s:Value)) w'):=ι (fun b w' h h2=>by rw [h]; exact ⟨rfl,h2⟩);generalize Ret w (.string ⟨(nodeText 2 p v K).toArray⟩)=P at HP ⊢;rw [show nodeText 2 p v K=2::(textW (Nib.packed p false)++K.getD 0 []) from rfl] at HP;have hpl:=Nib.packed_length p false;have HPk:=ι (fun W=>refnib_Pack p false W (by omega));rw [show Nib.pack p false=(Nib.packed p false,0) by unfold Nib.pack; rw [hfit]; rfl] at HPk;have HT1:=ι (fun W=>ref02_Text (Nib.packed p false) (by omega) W);have l1:=textW_len (Nib.packed p false) (by omega);have l1:(textW (Nib.packed p false)).length≤1000:=by omega
 have HK0:=ι (strv_getD (K:=K) (i:=0) (by omega));clear hf hs hpl hfit;generalize textW (Nib.packed p false)=X at *;generalize Nib.packed p false=pk at *;generalize K.getD 0 []=k0 at *;have m1:1+X.length≤9223372036854775807:=by omega
 have m2:1+X.length+k0.length≤9223372036854775807:=by omega
 have m3:X.length+1+k0.length≤9223372036854775807:=by omega
 clear hk0;go_enter Tryz.func190,Tryz.ntmps190
 go_upto_region 1 with fail
 have F:=Live.ha (ι (Live.start w)) (nodeV 2 p v K).toArray 177;generalize w.alloc (.cells (nodeV 2 p v K).toArray 177)=W0 at F ⊢;obtain ⟨q0,q1,q2,RK,_⟩:=NodeAt.of (C:= []) (by rw [List.append_nil]; exact F.out.blk 0 rfl);have cv:=conv1 W0 2 (by omega) (by omega);go_upto_region 2 with fail
 have F:=Live.ha F #[.int .u8 2] 5;clear cv q0 q1 q2 RK;generalize World.alloc W0 _=W1 at F ⊢
 replace F:Hid (Live w W1 [(w.heap.size,177,(nodeV 2 p v K).toArray)]):=ι (F.out.drop 1)
 obtain ⟨q0,q1,q2,RK,_⟩:=NodeAt.of (C:= []) (by rw [List.append_nil]; exact F.out.blk 0 rfl);go_wp2_with fail
 refine (HPk.out _).mono ?_;rintro e w1 ⟨rfl,hb⟩
 (first|have F:=Live.hb F hb|have F:=Live.hbd F hb); clear hb
 clear q0 q1 q2 RK;obtain ⟨q0,q1,q2,RK,_⟩:=NodeAt.of (C:= []) (by rw [List.append_nil]; exact F.out.blk 0 rfl);go_wp2_with fail
 refine (HT1.out _).mono ?_;rintro e w2 ⟨rfl,hb⟩
 (first|have F:=Live.hb F hb|have F:=Live.hbd F hb); clear hb
 clear q0 q1 q2 RK;obtain ⟨q0,q1,q2,RK,_⟩:=NodeAt.of (C:= []) (by rw [List.append_nil]; exact F.out.blk 0 rfl);have q3:w2.cell? ⟨w.heap.size,3,none⟩=some (k0:Value):=RK 0 _ HK0.out;clear RK;go_wp2
 exact HP.out _ _ rfl F.out.b
theorem ref08_Written (w:World) (k:Nat) (p v:List UInt8) (K:List (List UInt8)) (hK:K.length=16) (hf:fineN k p v K=true):
  Calls Tryz.prog 190 #[.agg (nodeV k p v K).toArray] w (Ret w (.string ⟨(nodeText k p v K).toArray⟩)):=by
 obtain ⟨h1|h1|h1,_⟩:=id (fineN_parts hf)
 ·subst h1; exact ref08_written1 w p v K hK hf
 ·subst h1; exact ref08_written2 w p v K hK hf
 ·subst h1;have hp:p= []:=by simp [fineN] at hf; exact hf.1.1.1
  subst hp;exact ref08_written3 w v K hK hf
theorem ref08_Digest (w:World) (k:Nat) (p v:List UInt8) (K:List (List UInt8)) (hK:K.length=16) (hf:fineN k p v K=true):
  Calls Tryz.prog 191 #[.agg (nodeV k p v K).toArray] w (Ret w (.string ⟨(nodeSum k p v K).toArray⟩)):=by
 have HP:Hid (∀ w',Below w.heap.size w w'→Ret w (.string ⟨(nodeSum k p v K).toArray⟩) (Ending.returned (.string ⟨(nodeSum k p v K).toArray⟩)) w'):=ι (fun w' h2=>⟨rfl,h2⟩);generalize Ret w (.string ⟨(nodeSum k p v K).toArray⟩)=P at HP ⊢;have HF:=ι (fun W=>ref08_Fine W k p v K hK (by have:=(fineN_parts hf).2.2.1; omega));rw [fineR_eq k p v K hK,hf] at HF;have HW:=ι (fun W=>ref08_Written W k p v K hK hf);have hl:=nodeText_len hK hf;have HT:Hid (∀ W,Calls Tryz.prog 57 #[.int .i64 1,.string ⟨(nodeText k p v K).toArray⟩] W (Ret W (.string ⟨(nodeSum k p v K).toArray⟩))):=ι (fun W=>ref04_Tagged W 1 (by omega) _ (by omega));clear hl hf;generalize nodeText k p v K=T at *;generalize nodeSum k p v K=S at *;go_enter Tryz.func191,Tryz.ntmps191
 go_upto_region 1 with fail
 have SZ:(Tryz.prog.info? 177).map (·.size)=some (nodeV k p v K).length:=by rw [nodeV_size hK]; exact info_node
 have F:=Live.ha (ι (Live.start w)) (nodeV k p v K).toArray 177;generalize w.alloc (.cells (nodeV k p v K).toArray 177)=W0 at F ⊢;obtain ⟨_,_,_,_,RA⟩:=NodeAt.of (C:= []) (by rw [List.append_nil]; exact F.out.blk 0 rfl);go_wp2_with (first|(refine wpList_load_mid rfl 177 _ rfl w.heap.size 0 rfl _ _ RA Tryz.underlying177 rfl SZ ?_))
 refine (HF.out _).mono ?_;rintro e w1 ⟨rfl,hb⟩
 (first|have F:=Live.hb F hb|have F:=Live.hbd F hb); clear hb
 clear RA;obtain ⟨_,_,_,_,RA⟩:=NodeAt.of (C:= []) (by rw [List.append_nil]; exact F.out.blk 0 rfl);go_wp2_with (first|(refine wpList_load_mid rfl 177 _ rfl w.heap.size 0 rfl _ _ RA Tryz.underlying177 rfl SZ ?_))
 refine (HW.out _).mono ?_;rintro e w2 ⟨rfl,hb⟩
 (first|have F:=Live.hb F hb|have F:=Live.hbd F hb); clear hb
 clear RA;obtain ⟨_,_,_,_,RA⟩:=NodeAt.of (C:= []) (by rw [List.append_nil]; exact F.out.blk 0 rfl);go_wp2_with fail
 refine (HT.out _).mono ?_;rintro e w3 ⟨rfl,hb⟩
 (first|have F:=Live.hb F hb|have F:=Live.hbd F hb); clear hb
 go_wp2
 exact HP.out _ F.out.b
end
section
open Go.RowKit
theorem skip_Links (h:Nat) (w:World) (hl:1≤h) (hh:h≤1048576):
  Calls Tryz.prog 115 #[h] w fun e w'=>∃ v,e= .returned v∧w'.ownsRow w.heap.size 3 1 v (Skip.links h).length (ints (Skip.links h))∧Below w.heap.size w w':=by
 go_enter Tryz.func115,Tryz.ntmps115
 go_wp2
 refine wp_scope_ghost 0 (fun k a wr=>∀ Φ:Act→Prop,(∀ ⦃s1 s5 s6 s7 s8 s9 s0 s2 s3 s4 a0 a2 a3 a4 a5 a6 a7 a8 a9 b0:Value⦄ (st:Nat) (acc:List Nat) (o:Value),(2≤st∧st≤2097152∧4194304≤st*2 ^ (k - 1)∧1≤k∧acc.length+k≤22∧wr.ownsRow w.heap.size 3 1 o acc.length (ints acc)∧Below w.heap.size w wr∧acc++Skip.linksF k h st=Skip.links h)→Φ {tmps:=#[.int .i64 h,s1,.slice none 0 0,o,.int .i64 st,s5,s6,s7,s8,s9,s0,s2,s3,s4,a0,a2,a3,a4,a5,a6,a7,a8,a9,b0],defers:= []})→Φ a) rfl ?_ ?_
 ·intro K1 hK1;go_wp2_with fail
  go_step3
  by_cases hc:h % 2=0
  ·have hb:((h:Int) % 2==0)=true:=by rw [beq_iff_eq]; omega
   have H1:Hid ([h - 2]++Skip.linksF 21 h 4=Skip.links h):=ι (by unfold Skip.links; rw [Skip.linksF_yes hc]; rfl);have e2:((h:Int) - 2)=((h - 2:Nat):Int):=by omega
   have E2:=ι e2;clear e2;have hnil:=World.ownsRow_nil w w.heap.size 3 1;go_wp2_with (at_builtin; refine wpList_append_new w 3 [.int .i64 ((h:Int) - 2)] rfl _ _ 122 rfl w.heap.size 1 8 _ info_int Tryz.underlying122 rfl (by decide) _ _ _ rfl hnil 1 1 rfl rfl (by simp [Value.oneCell']) (by simp only [maxLen]; omega) (by omega) w.heap.size w (Below.refl _ _) (Nat.le_refl _) (Nat.le_refl _) ?_; intro v1 w1 hown1 hb1 _ _ _)
   go_step3
   refine ⟨rfl,hK1 (21) _ _ (fun Φ hΦ=>hΦ (4) ([h - 2]) (v1) ?_)⟩;exact ⟨by omega,by omega,by decide,by omega,by simp,by rw [E2.out] at hown1; simpa [ints] using hown1,hb1,H1.out⟩
  ·have hb:((h:Int) % 2==0)=false:=by rw [beq_eq_false_iff_ne]; omega
   have H1:Hid ([]=Skip.links h):=ι (by unfold Skip.links; rw [Skip.linksF_no hc]);go_wp2
   simp only [Exit.jump]
   go_ret
   rw [←H1.out];exact ⟨_,rfl,World.ownsRow_nil _ _ _ _,Below.refl _ _⟩
 ·intro k1 a1 wr1 hI1 K1 hK1;refine hI1 (fun a=>Code.wp _ _ _ a _) ?_;clear hI1 a1;iterate 20 (intro _)
  intro st acc o hrel
  show Code.wp _ _ _ _ _;obtain ⟨h1,h2,h3,h4,h5,hown,hb,hacc⟩:=hrel;have HA:=ι hacc;clear hacc;have hsz:=hb.size;obtain ⟨f,rfl⟩:∃ f,k1=f+1:=⟨k1 - 1,by omega⟩
  by_cases hc:h % st=0
  ·have hb:((h:Int) % (st:Int)==0)=true:=by rw [beq_iff_eq]; omega
   have hle:st≤h:=Nat.le_of_dvd (by omega) (Nat.dvd_of_mod_eq_zero hc);have hg:1≤f:=by
    rcases Nat.eq_zero_or_pos f with h0|h0
    ·subst h0; simp at h3; omega
    ·exact h0
   have h6:4194304≤(st*2)*2 ^ (f - 1):=by
    obtain ⟨k,rfl⟩:∃ k,f=k+1:=⟨f - 1,by omega⟩
    simp only [Nat.add_sub_cancel] at h3 ⊢;rw [Nat.pow_succ] at h3;rw [Nat.mul_assoc,Nat.mul_comm 2]; exact h3
   have H1:Hid (acc++ [h - st]++Skip.linksF f h (st*2)=Skip.links h):=ι (by rw [←HA.out,Skip.linksF_yes hc]; simp);have e2:((h:Int) - st)=((h - st:Nat):Int):=by omega
   have E2:=ι e2;clear e2 h3 HA;go_wp2_with (at_builtin; refine wpList_append_new wr1 3 [.int .i64 ((h:Int) - st)] rfl _ _ 122 rfl w.heap.size 1 8 _ info_int Tryz.underlying122 rfl (by decide) _ _ _ rfl hown 1 1 rfl rfl (by simp [Value.oneCell']) (by simp only [maxLen]; omega) (by omega) w.heap.size w ‹_› (Nat.le_refl _) hsz ?_; intro v1 w1 hown1 hb1 _ _ _)
   go_step3
   refine ⟨rfl,hK1 (f) _ _ ?_ (fun Φ hΦ=>hΦ (st*2) (acc++ [h - st]) (v1) ?_)⟩
   ·omega
   ·exact ⟨by omega,by omega,h6,by omega,by simp; omega,by rw [E2.out] at hown1; simpa [ints_snoc] using hown1,hb1,H1.out⟩
  ·have hb:((h:Int) % (st:Int)==0)=false:=by rw [beq_eq_false_iff_ne]; omega
   have H1:Hid (acc=Skip.links h):=ι (by rw [←HA.out,Skip.linksF_no hc]; simp);clear h3 HA;go_wp2
   simp only [Exit.jump]
   go_ret
   rw [←H1.out];exact ⟨_,rfl,hown,‹_›⟩
def linksV (h:Int):List Nat:=if 1≤h∧h≤1048576 then Skip.links h.toNat else []
theorem skip_Links_bad (h:Int) (w:World) (hb:h<1∨1048576<h):
  Calls Tryz.prog 115 #[h] w fun e w'=>e= .returned (.slice none 0 0)∧w=w':=by
 by_cases h1:h<1
 ·go_enter Tryz.func115,Tryz.ntmps115
  go_wp2
  go_step3
  go_wp2
  rw [Exit.noGoto_ret]
  go_ret
  exact ⟨rfl,rfl⟩
 ·have h2:1048576<h:=by omega
  go_enter Tryz.func115,Tryz.ntmps115
  go_wp2
  go_step3
  go_wp2
  rw [Exit.noGoto_ret]
  go_ret
  exact ⟨rfl,rfl⟩
theorem skip_Links_all (h:Int) (w:World):
  Calls Tryz.prog 115 #[h] w fun e w'=>∃ v,e= .returned v∧w'.ownsRow w.heap.size 3 1 v (linksV h).length (ints (linksV h))∧Below w.heap.size w w':=by
 by_cases hc:1≤h∧h≤1048576
 ·obtain ⟨n,rfl⟩:=Int.eq_ofNat_of_zero_le (show 0≤h by omega);rw [show linksV (n:Int)=Skip.links n from by unfold linksV; rw [if_pos hc]; rfl];exact skip_Links n w (by omega) (by omega)
 ·rw [show linksV h= [] from by unfold linksV; rw [if_neg hc]];refine (skip_Links_bad h w (by omega)).mono ?_;rintro e w' ⟨rfl,rfl⟩;exact ⟨_,rfl,World.ownsRow_nil _ _ _ _,Below.refl _ _⟩
theorem refskip_Links (h:Nat) (w:World) (hl:1≤h) (hh:h≤1048576):
  Calls Tryz.prog 110 #[h] w fun e w'=>∃ v,e= .returned v∧w'.ownsRow w.heap.size 3 1 v (Skip.links h).length (ints (Skip.links h))∧Below w.heap.size w w':=by
 have HR:=ι (Skip.refL_all h hl hh);go_enter Tryz.func110,Tryz.ntmps110
 go_wp2
 refine wp_loop_ghost_k (fun k a wr=>∀ Φ:Act→Prop,(∀ ⦃s1 s2 s5 s6 s7 s8 s9 s0 s3 s4 a0 a2 a3 a4 a5 a6 a7 a8 a9 b0 b1 b2 b3 b4 b5 b6 b7:Value⦄ (i:Nat) (acc:List Nat) (o:Value),(i+k=21∧1≤i∧acc.length+1≤i∧wr.ownsRow w.heap.size 3 1 o acc.length (ints acc)∧Below w.heap.size w wr∧acc++Skip.refL k h i=Skip.links h)→Φ {tmps:=#[.int .i64 h,s1,s2,o,.int .i64 i,s5,s6,s7,s8,s9,s0,s3,s4,a0,a2,a3,a4,a5,a6,a7,a8,a9,b0,b1,b2,b3,b4,b5,b6,b7],defers:= []})→Φ a) (20) ?_ ?_
 ·refine fun Φ hΦ=>hΦ (1) ([]) (_) ?_;exact ⟨rfl,by omega,by simp,World.ownsRow_nil _ _ _ _,Below.refl _ _,HR.out⟩
 ·intro k1 a1 wr1 hI1 J1 K1 hJ1 hK1;refine hI1 (fun a=>Code.wp _ _ _ a _) ?_;clear hI1 a1;iterate 27 (intro _)
  intro i acc o hrel
  show Code.wp _ _ _ _ _;obtain ⟨h1,h2,h3,hown,hb,hacc⟩:=hrel;have HA:=ι hacc;clear hacc;have hsz:=hb.size;by_cases hi:i≤20
  ·obtain ⟨p,hp⟩:∃ p,p=2 ^ i:=⟨_,rfl⟩
   have hp1:p≤1048576:=by
    rw [hp]
    have:=Nat.pow_le_pow_right (n:=2) (by omega) hi
    simpa using this
   have hp2:2≤p:=by
    rw [hp]
    have:=Nat.pow_le_pow_right (n:=2) (by omega) h2
    simpa using this
   have q1:wrap64 ((2:Int) ^ i)=(p:Int):=by
    have e:((2:Int) ^ i)=((2 ^ i:Nat):Int):=by simp
    rw [e,←hp];exact IntWalk.wrap64_in _ (by omega)
   obtain ⟨k,rfl⟩:∃ k,k1=k+1:=⟨k1 - 1,by omega⟩
   have HL:Hid (∀ l:List Nat,l=(if h % p=0 then [h - p] else [])→acc++l++Skip.refL k h (i+1)=Skip.links h):=ι (by
    intro l hl;rw [←HA.out,hl,Skip.refL,←hp]
    split<;>simp)
   have HP:=ι hp;clear hp HA;by_cases hc:h % p=0
   ·have hq:((h:Int) % (p:Int)==0)=true:=by rw [beq_iff_eq]; omega
    have hle:p≤h:=Nat.le_of_dvd (by omega) (Nat.dvd_of_mod_eq_zero hc);have HE:=ι (HL.out [h - p] (by rw [if_pos hc]));have E2:Hid (((h:Int) - p)=((h - p:Nat):Int)):=ι (by omega);clear hc HL;go_wp2_with (at_builtin; refine wpList_append_new wr1 3 [.int .i64 ((h:Int) - p)] rfl _ _ 122 rfl w.heap.size 1 8 _ info_int Tryz.underlying122 rfl (by decide) _ _ _ rfl hown 1 1 rfl rfl (by simp [Value.oneCell']) (by simp only [maxLen]; omega) (by omega) w.heap.size w hb (Nat.le_refl _) hsz ?_; intro v1 w1 hown1 hb1 _ _ _)
    refine Handed.intro (k) ?_ (hJ1 _ _ _ (fun Φ hΦ=>hΦ (i+1) (acc++ [h - p]) (v1) ?_))
    ·omega
    ·exact ⟨by omega,by omega,by simp; omega,by rw [E2.out] at hown1; simpa [ints_snoc] using hown1,hb1,HE.out⟩
   ·have hq:((h:Int) % (p:Int)==0)=false:=by rw [beq_eq_false_iff_ne]; omega
    have HE:=ι (HL.out [] (by rw [if_neg hc]));clear hc HL;go_wp2
    refine Handed.intro (k) ?_ (hJ1 _ _ _ (fun Φ hΦ=>hΦ (i+1) (acc) (o) ?_))
    ·omega
    ·exact ⟨by omega,by omega,by omega,hown,hb,by simpa using HE.out⟩
  ·have HB:Hid (acc=Skip.links h):=ι (by
    have e:k1=0:=by omega
    subst e;simpa [Skip.refL] using HA.out)
   clear HA;go_wp2
   go_ret
   rw [←HB.out];exact ⟨_,rfl,hown,hb⟩
theorem refskip_Links_all (h:Int) (w:World):
  Calls Tryz.prog 110 #[h] w fun e w'=>∃ v,e= .returned v∧w'.ownsRow w.heap.size 3 1 v (linksV h).length (ints (linksV h))∧Below w.heap.size w w':=by
 by_cases hc:1≤h∧h≤1048576
 ·obtain ⟨n,rfl⟩:=Int.eq_ofNat_of_zero_le (show 0≤h by omega);rw [show linksV (n:Int)=Skip.links n from by unfold linksV; rw [if_pos hc]; rfl];exact refskip_Links n w (by omega) (by omega)
 ·rw [show linksV h= [] from by unfold linksV; rw [if_neg hc]];by_cases h1:h<1
  ·go_enter Tryz.func110,Tryz.ntmps110
   go_wp2
   go_ret
   exact ⟨_,rfl,World.ownsRow_nil _ _ _ _,Below.refl _ _⟩
  ·have h2:1048576<h:=by omega
   go_enter Tryz.func110,Tryz.ntmps110
   go_wp2
   go_ret
   exact ⟨_,rfl,World.ownsRow_nil _ _ _ _,Below.refl _ _⟩
end
end Go.Proofs.YtdkiloganbhfkaaGreatDoor