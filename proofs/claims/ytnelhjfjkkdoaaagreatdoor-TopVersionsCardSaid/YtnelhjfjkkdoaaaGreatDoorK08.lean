import Derived.Test.YtnelhjfjkkdoaaaGreatDoorK07
import Derived.BigFrame
set_option linter.unusedSimpArgs false
set_option linter.unusedVariables false
set_option maxHeartbeats 4000000
set_option maxRecDepth 100000
namespace Go.Proofs.YtnelhjfjkkdoaaaGreatDoor
section
open Go.RowKit Go.Instr
attribute [local go_sem] ba_get ByteArray.mk_append_mk
theorem encode_ext (p v:List UInt8) (K:List (List UInt8)) (hK:K.length=16) (hKs:∀ s∈K,s.length≤9223372036854775807) (hf:fineN 2 p v K=true) (w:World):
  Calls Tryz.prog 163 #[.agg (nodeV 2 p v K).toArray] w (EncEnd w (nodeText 2 p v K) 0):=by
 have hf2:(Nib.fit p=true∧p.length≤16)∧(K.getD 0 []).length=32∧v= []:=by
  simp only [fineN,pathOk,sumsOk] at hf;simp at hf
  exact ⟨⟨hf.1.2.1,hf.1.2.2.2⟩,by simpa using hf.1.1.2,hf.2⟩
 obtain ⟨hf2a,hK0,rfl⟩:=hf2;have hf2:=And.intro hf2a hf2a;clear hf2a;have HK0:=ι (strv_at (l:=K) (i:=0) (by omega));have HK1:=ι (show K[0]'(by omega)=K.getD 0 [] by rw [List.getD_eq_getElem?_getD,List.getElem?_eq_getElem (show 0<K.length by omega)]; rfl);have HP:Hid (∀ s w',nodeText 2 p [] K=s→Below w.heap.size w w'→EncEnd w (nodeText 2 p [] K) 0 (.returned (.tuple #[s,ζ])) w'):=ι (fun b w' h1 h2=>⟨by rw [h1],h2⟩);have HC:=node_Check 2 p [] (by omega) (by simp) K hK hKs;rw [hf] at HC;have hp16:=hf2.1.2;have HPk:=nib_Pack p false;rw [show Nib.pack p false=(Nib.packed p false,0) by unfold Nib.pack; rw [hf2.1.1]; rfl] at HPk;have hpl:=Nib.packed_length p false;have HT2:=code_Text (Nib.packed p false) (by omega);have HF:Hid (nodeText 2 p [] K=2::(textW (Nib.packed p false)++K.getD 0 [])):=ι (by simp [nodeText]);have hl2:=textW_len (Nib.packed p false) (by omega);have hl2':(textW (Nib.packed p false)).length≤1000:=by omega
 have HSz:=ι (nodeV_size (k:=2) (p:=p) (v:= []) hK);clear hf hf2 hpl hl2;generalize textW (Nib.packed p false)=tp at *;generalize Nib.packed p false=pk at *;generalize EncEnd w (nodeText 2 p [] K) 0=P at HP ⊢;generalize nodeText 2 p [] K=S0 at *;go_enter Tryz.func163,Tryz.ntmps163
 go_upto_region 1 with fail
 have SZ:(Tryz.prog.info? 133).map (·.size)=some (nodeV 2 p [] K).length:=by rw [HSz.out]; exact info_node
 have F0:Hid (Blk (w.alloc (.cells (nodeV 2 p [] K).toArray 133)) w.heap.size 133 (nodeV 2 p [] K).toArray∧Below w.heap.size w (w.alloc (.cells (nodeV 2 p [] K).toArray 133))):=ι ⟨Blk.new _ _ _,by go_grown⟩;generalize w.alloc (.cells (nodeV 2 p [] K).toArray 133)=W0 at F0 ⊢;have HB:=ι (show w.heap.size<W0.heap.size from F0.out.1.lt);obtain ⟨_,_,_,_,RA⟩:=NodeAt.of (C:= []) (by rw [List.append_nil]; exact F0.out.1);generalize hB:w.heap.size=B at *;clear hB;go_upto_region 2 with (first|(refine wpList_load_mid rfl 133 _ rfl B 0 rfl _ _ RA Tryz.underlying133 rfl SZ ?_)|(go_at_call 152; refine (HC _).mono ?_; rintro e w1 ⟨rfl,hb⟩))
 have F1:=ι (show Below B w w1 from F0.out.2.trans (hb.mono (Nat.le_of_lt HB.out)));have HB1:=ι (Nat.lt_of_lt_of_le HB.out hb.size);have BK1:=ι (F0.out.1.below hb HB.out);clear hb F0 RA HB;obtain ⟨q0,q1,q2,RK,RA⟩:=NodeAt.of (C:= []) (by rw [List.append_nil]; exact BK1.out);have cv:=conv1 w1 2 (by omega) (by omega);go_upto_region 5 with fail
 have F2:Hid (Blk (w1.alloc (.cells #[.int .u8 2] 5)) B 133 (nodeV 2 p [] K).toArray∧Below B w (w1.alloc (.cells #[.int .u8 2] 5))∧B<(w1.alloc (.cells #[.int .u8 2] 5)).heap.size):=ι ⟨BK1.out.alloc _,F1.out.alloc (Nat.le_of_lt HB1.out) _,by have:=HB1.out; simp; omega⟩;clear cv q0 q1 q2 RK RA;generalize World.alloc w1 _=w2 at F2 ⊢;clear F1 HB1 BK1;obtain ⟨q0,q1,q2,RK,_⟩:=NodeAt.of (C:= []) (by rw [List.append_nil]; exact F2.out.1);go_upto_region 21 with (go_at_call 195; refine (HPk _ (by omega)).mono ?_; rintro e w3 ⟨rfl,hb⟩)
 have F3:Hid (Blk w3 B 133 (nodeV 2 p [] K).toArray∧Below B w w3∧B<w3.heap.size):=ι ⟨F2.out.1.below hb F2.out.2.2,F2.out.2.1.trans (hb.mono (Nat.le_of_lt F2.out.2.2)),Nat.lt_of_lt_of_le F2.out.2.2 hb.size⟩;clear hb q0 q1 q2 RK;obtain ⟨q0,q1,q2,RK,_⟩:=NodeAt.of (C:= []) (by rw [List.append_nil]; exact F3.out.1);go_upto_region 22 with (go_at_call 124; refine (HT2 _).mono ?_; rintro e w4 ⟨rfl,hb⟩)
 have F4:Hid (Blk w4 B 133 (nodeV 2 p [] K).toArray∧Below B w w4∧B<w4.heap.size):=ι ⟨F3.out.1.below hb F3.out.2.2,F3.out.2.1.trans (hb.mono (Nat.le_of_lt F3.out.2.2)),Nat.lt_of_lt_of_le F3.out.2.2 hb.size⟩;clear hb q0 q1 q2 RK;obtain ⟨q0,q1,q2,RK,_⟩:=NodeAt.of (C:= []) (by rw [List.append_nil]; exact F4.out.1);have q3:w4.cell? ⟨B,3,none⟩=some (.string ⟨(K.getD 0 []).toArray⟩):=by
  have:=RK 0 _ HK0.out
  rwa [HK1.out] at this
 clear HK0 HK1;generalize K.getD 0 []=s0 at *;have hs1:tp.length+s0.length≤9223372036854775000:=by omega
 go_wp2
 exact HP.out _ _ HF.out F4.out.2.1
theorem node_Encode (k:Nat) (p v:List UInt8) (K:List (List UInt8)) (hK:K.length=16) (hKs:∀ s∈K,s.length≤9223372036854775807) (hf:fineN k p v K=true) (w:World):
  Calls Tryz.prog 163 #[.agg (nodeV k p v K).toArray] w (EncEnd w (nodeText k p v K) 0):=by
 by_cases h1:k=1
 ·subst h1; exact encode_leaf p v K hK hKs hf w
 ·by_cases h2:k=2
  ·subst h2; exact encode_ext p v K hK hKs hf w
  ·by_cases h3:k=3
   ·subst h3;have hp:p= []:=by simp [fineN] at hf; exact hf.1.1.1
    subst hp;exact encode_branch v K hK hKs hf w
   ·simp [fineN,h1,h2,h3] at hf
theorem fineN_parts {k:Nat} {p v:List UInt8} {K:List (List UInt8)} (h:fineN k p v K=true):(k=1∨k=2∨k=3)∧Nib.fit p=true∧p.length≤16∧v.length≤32∧sumsOk (kidsW K)=true:=by
 unfold fineN at h
 split at h
 ·rename_i hk;simp [pathOk] at h
  obtain ⟨⟨⟨h1,h2⟩,h3⟩,h4⟩:=h;refine ⟨.inl hk,h2.1,h2.2,h4,?_⟩;rw [h1]; rfl
 ·split at h
  ·rename_i _ hk;simp only [pathOk,Bool.and_eq_true,decide_eq_true_eq] at h;obtain ⟨⟨⟨h1,h2⟩,h3⟩,h4⟩:=h;have h4':v= []:=by simpa using h4
   refine ⟨.inr (.inl hk),h3.1,h3.2.2,by rw [h4']; simp,?_⟩;rw [h1];generalize K.getD 0 []=s at *;have h5:s.length=32:=by simpa [sumsOk] using h2
   have h6:s.isEmpty=false:=by cases s<;>simp_all
   simp [kidsW,sumsOk,h6,h5]
  ·split at h
   ·rename_i _ _ hk;simp only [Bool.and_eq_true,decide_eq_true_eq] at h;obtain ⟨⟨⟨h1,h2⟩,h3⟩,h4⟩:=h;have h1':p= []:=by simpa using h1
    subst h1';exact ⟨.inr (.inr hk),rfl,by simp,h4,h2⟩
   ·cases h
theorem fine_ext {p v:List UInt8} {K:List (List UInt8)} (h:fineN 2 p v K=true):(K.getD 0 []).length=32∧K=K.getD 0 []::List.replicate 15 []:=by
 unfold fineN at h;rw [if_neg (by omega),if_pos rfl] at h;simp only [Bool.and_eq_true,decide_eq_true_eq] at h;obtain ⟨⟨⟨h1,h2⟩,h3⟩,h4⟩:=h;refine ⟨?_,h1⟩;clear h1;generalize K.getD 0 []=s at *;simpa [sumsOk] using h2
theorem nodeText_len {k:Nat} {p v:List UInt8} {K:List (List UInt8)} (hK:K.length=16) (h:fineN k p v K=true):(nodeText k p v K).length≤700:=by
 obtain ⟨h1,h2,h3,h4,h5⟩:=fineN_parts h;have hl1:=textW_len v (by omega);have hl2:=textW_len (Nib.packed p (decide (k=1))) (by rw [Nib.packed_length]; omega);rw [Nib.packed_length] at hl2;have hf:=flatten_len _ (kidsW_32 h5);have hk16:(kidsW K).length≤16:=by
  have:=List.length_filter_le (fun s:List UInt8=> !s.isEmpty) K
  unfold kidsW; omega
 have:=Nat.mul_le_mul_right 32 hk16
 unfold nodeText
 split
 ·simp only [List.length_cons,List.length_append]; omega
 ·rename_i hk3;simp only [List.length_cons,List.length_append]
  split
  ·omega
  ·rename_i hk1;have hk2:k=2:=by omega
   subst hk2
   have:=(fine_ext h).1
   omega
def nodeSum (k:Nat) (p v:List UInt8) (K:List (List UInt8)):List UInt8:=shaW (1::nodeText k p v K)
def DigEnd (w:World) (s:List UInt8) (e:Ending) (w':World):Prop:=e= .returned (s:Value)∧Below w.heap.size w w'
theorem node_Digest (k:Nat) (p v:List UInt8) (K:List (List UInt8)) (hK:K.length=16) (hKs:∀ s∈K,s.length≤9223372036854775807) (hf:fineN k p v K=true) (w:World) (hT:Tbl w):
  Calls Tryz.prog 164 #[.agg (nodeV k p v K).toArray] w (DigEnd w (nodeSum k p v K)):=by
 have HP:Hid (∀ w',Below w.heap.size w w'→DigEnd w (nodeSum k p v K) (.returned (.string ⟨(nodeSum k p v K).toArray⟩)) w'):=ι (fun w' h2=>⟨rfl,h2⟩);have HC:=node_Encode k p v K hK hKs hf;have hl:=nodeText_len hK hf;have HD:∀ w,Tbl w→Calls Tryz.prog 85 #[.int .i64 1,.string ⟨(nodeText k p v K).toArray⟩] w fun e w'=>e= .returned (.tuple #[.string ⟨(nodeSum k p v K).toArray⟩,ζ])∧Below w.heap.size w w':=fun w h=>digest_Sum w 1 (by omega) (by omega) _ (by omega) h;have HSz:=ι (nodeV_size (k:=k) (p:=p) (v:=v) hK);clear hf;generalize DigEnd w (nodeSum k p v K)=P at HP ⊢;generalize nodeSum k p v K=S at *;generalize nodeText k p v K=T at *;have HTb:=ι hT;clear hT;go_enter Tryz.func164,Tryz.ntmps164
 go_upto_region 1 with fail
 have SZ:(Tryz.prog.info? 133).map (·.size)=some (nodeV k p v K).length:=by rw [HSz.out]; exact info_node
 have F0:Hid (Blk (w.alloc (.cells (nodeV k p v K).toArray 133)) w.heap.size 133 (nodeV k p v K).toArray∧Below w.heap.size w (w.alloc (.cells (nodeV k p v K).toArray 133))):=ι ⟨Blk.new _ _ _,by go_grown⟩;generalize w.alloc (.cells (nodeV k p v K).toArray 133)=W0 at F0 ⊢;have HB:=ι (show w.heap.size<W0.heap.size from F0.out.1.lt);obtain ⟨_,_,_,_,RA⟩:=NodeAt.of (C:= []) (by rw [List.append_nil]; exact F0.out.1);have HT0:Hid (Tbl W0):=ι (HTb.out.next F0.out.2);generalize hB:w.heap.size=B at *;clear hB;go_upto_region 2 with (first|(refine wpList_load_mid rfl 133 _ rfl B 0 rfl _ _ RA Tryz.underlying133 rfl SZ ?_)|(go_at_call 163; refine (HC _).mono ?_; rintro e w1 ⟨rfl,hb⟩))
 have F1:=ι (show Below B w w1 from F0.out.2.trans (hb.mono (Nat.le_of_lt HB.out)));have HB1:=ι (Nat.lt_of_lt_of_le HB.out hb.size);have HT1:Hid (Tbl w1):=ι (HT0.out.next hb);clear hb RA;go_wp2_with (go_at_call 85; refine (HD _ HT1.out).mono ?_; rintro e w2 ⟨rfl,hb⟩)
 exact HP.out _ (F1.out.trans (hb.mono (Nat.le_of_lt HB1.out)))
end
def bytesS (s:List UInt8 × Nat) (n:Nat):List UInt8 × (List UInt8 × Nat):=
 if s.2≠0 then ([],s) else if n≤s.1.length then (s.1.take n,(s.1.drop n,0)) else ([],(s.1,20))
def bitAt (set n:Nat):Bool:=decide (set / 2 ^ n % 2=1)
def kidR (set n:Nat) (s:List UInt8 × Nat):List UInt8 × (List UInt8 × Nat):=if bitAt set n then bytesS s 32 else ([],s)
def kidsR (set:Nat):Nat→List UInt8 × Nat→List (List UInt8) × (List UInt8 × Nat)
 |0,s=>([],s)
 |n+1,s=>((kidR set n s).1::(kidsR set n (kidR set n s).2).1,(kidsR set n (kidR set n s).2).2)
def zeroK:List (List UInt8):=List.replicate 16 []
def set2 (b:List UInt8):Nat:=(b.getD 0 0).toNat*256+(b.getD 1 0).toNat
def brR (s:List UInt8 × Nat):(List UInt8 × List (List UInt8)) × (List UInt8 × Nat):=
 if (bytesS s 2).1= [] then (([],zeroK),(bytesS s 2).2)
 else (((txtS (kidsR (set2 (bytesS s 2).1) 16 (bytesS s 2).2).2 32).1,(kidsR (set2 (bytesS s 2).1) 16 (bytesS s 2).2).1),(txtS (kidsR (set2 (bytesS s 2).1) 16 (bytesS s 2).2).2 32).2)
def otR (most k:Nat) (s:List UInt8 × Nat):(List UInt8 × List UInt8 × List (List UInt8)) × (List UInt8 × Nat) × Bool:=
 if k=1 then (((Nib.unpack (txtS s most).1).1,(txtS (txtS s most).2 32).1,zeroK),(txtS (txtS s most).2 32).2,decide ((Nib.unpack (txtS s most).1).2.2=0) && (Nib.unpack (txtS s most).1).2.1)
 else (((Nib.unpack (txtS s most).1).1,[],(bytesS (txtS s most).2 32).1::List.replicate 15 []),(bytesS (txtS s most).2 32).2,decide ((Nib.unpack (txtS s most).1).2.2=0) && !(Nib.unpack (txtS s most).1).2.1)
abbrev Nd:=Nat × List UInt8 × List UInt8 × List (List UInt8)
def kindR (s:List UInt8):Nat:=(s.getD 0 0).toNat
def readN (most:Nat) (s:List UInt8):Nd × (List UInt8 × Nat) × Bool:=
 if kindR s=3 then ((3,[],(brR (bytesS (s,0) 1).2).1.1,(brR (bytesS (s,0) 1).2).1.2),(brR (bytesS (s,0) 1).2).2,true)
 else ((kindR s,(otR most (kindR s) (bytesS (s,0) 1).2).1.1,(otR most (kindR s) (bytesS (s,0) 1).2).1.2.1,(otR most (kindR s) (bytesS (s,0) 1).2).1.2.2),(otR most (kindR s) (bytesS (s,0) 1).2).2)
def fineD (n:Nd):Bool:=fineN n.1 n.2.1 n.2.2.1 n.2.2.2
def textD (n:Nd):List UInt8:=nodeText n.1 n.2.1 n.2.2.1 n.2.2.2
def zeroN:Nd:=(0,[],[],zeroK)
def decN (s:List UInt8):Nd × Nat:=
 if endS (readN 16 s).2.1≠0∨(readN 16 s).2.2=false∨fineD (readN 16 s).1=false then (zeroN,80) else ((readN 16 s).1,0)
theorem txtS_ok' {s s1:List UInt8 × Nat} {t:List UInt8} {m:Nat} (h:txtS s m=(t,s1)) (h0:s1.2=0):s.2=0∧s.1=textW t++s1.1∧t.length≤m:=by
 unfold txtS at h
 split at h
 ·rename_i hc;simp only [Prod.mk.injEq] at h;rw [←h.2] at h0;exact absurd h0 hc
 ·rename_i hc
  split at h
  ·rename_i h2;simp only [Prod.mk.injEq] at h;refine ⟨by omega,?_⟩;rw [←h.1,←h.2];exact txtT_back (s:=s.1) (r:=(txtT s.1 m).2.1) (by rw [←h2])
  ·rename_i h2;simp only [Prod.mk.injEq] at h;rw [←h.2] at h0;exact absurd h0 h2
theorem bytesS_ok {s s1:List UInt8 × Nat} {t:List UInt8} {n:Nat} (h:bytesS s n=(t,s1)) (h0:s1.2=0):s.2=0∧s.1=t++s1.1∧t.length=n:=by
 unfold bytesS at h
 split at h
 ·rename_i hc;simp only [Prod.mk.injEq] at h;rw [←h.2] at h0;exact absurd h0 hc
 ·rename_i hc
  split at h
  ·rename_i h2;simp only [Prod.mk.injEq] at h;refine ⟨by omega,?_⟩;rw [←h.1,←h.2];exact ⟨(List.take_append_drop n s.1).symm,by rw [List.length_take]; omega⟩
  ·simp only [Prod.mk.injEq] at h;rw [←h.2] at h0;cases h0
theorem bytesS_of (t r:List UInt8):bytesS (t++r,0) t.length=(t,(r,0)):=by
 unfold bytesS;rw [if_neg (by simp),if_pos (by simp)];simp
theorem txtS_of (t r:List UInt8) (m:Nat) (hm:t.length≤m) (hl:t.length<9223372036854775808):txtS (textW t++r,0) m=(t,(r,0)):=by
 unfold txtS;rw [if_neg (by simp)];simp only [txtT_of t r m hm hl,if_true]
theorem endS_ok' {s:List UInt8 × Nat} (h:endS s=0):s.2=0∧s.1= []:=by
 unfold endS at h
 split at h
 ·cases h
 ·rename_i hc;refine ⟨h,?_⟩;rcases hs:s.1 with _|_
  ·rfl
  ·exact absurd ⟨h,by rw [hs]; simp⟩ hc
theorem flat_kids (K:List (List UInt8)):(kidsW K).flatten=K.flatten:=by
 induction K with
 |nil=>rfl
 |cons a l ih=>
  unfold kidsW at ih ⊢;rw [List.filter_cons];cases a with
  |nil=>simp [ih]
  |cons x y=>simp [ih]
theorem kidsR_length (set:Nat):∀ n s,(kidsR set n s).1.length=n
 |0,_=>rfl
 |n+1,s=>by simp only [kidsR,List.length_cons,kidsR_length set n]
theorem kidR_ok {set n:Nat} {s:List UInt8 × Nat} (h0:(kidR set n s).2.2=0):s.2=0∧s.1=(kidR set n s).1++(kidR set n s).2.1∧(kidR set n s).1.length=if bitAt set n then 32 else 0:=by
 unfold kidR at h0 ⊢
 split at h0
 ·rename_i hb;rw [if_pos hb,if_pos hb];exact bytesS_ok (s:=s) (s1:=(bytesS s 32).2) (t:=(bytesS s 32).1) (n:=32) rfl h0
 ·rename_i hb;rw [if_neg hb,if_neg hb];exact ⟨h0,rfl,rfl⟩
theorem kidsR_ok (set:Nat):∀ n s,(kidsR set n s).2.2=0→s.2=0∧s.1=(kidsR set n s).1.flatten++(kidsR set n s).2.1∧∀ j,j<n→((kidsR set n s).1.getD j []).length=if bitAt set (n - 1 - j) then 32 else 0
 |0,s,h=>⟨h,by simp [kidsR],by omega⟩
 |n+1,s,h=>by
  simp only [kidsR] at h ⊢;obtain ⟨h1,h2,h3⟩:=kidsR_ok set n _ h;obtain ⟨g1,g2,g3⟩:=kidR_ok h1;refine ⟨g1,?_,fun j hj=> ?_⟩
  ·rw [List.flatten_cons,List.append_assoc,←h2];exact g2
  ·cases j with
   |zero=>rw [List.getD_cons_zero,g3]; rfl
   |succ j=>
    rw [List.getD_cons_succ,h3 j (by omega)];rw [show n+1 - 1 - (j+1)=n - 1 - j by omega]
theorem half_step (x p:Nat) (hp:0<p):x / p*p=x / (2*p)*(2*p)+(if x / p % 2=1 then p else 0):=by
 have h1:x / (2*p)=x / p / 2:=by rw [Nat.mul_comm,Nat.div_div_eq_div_mul]
 rw [h1];generalize x / p=y;have h2:=Nat.div_add_mod y 2;generalize y / 2=q at *;rcases Nat.mod_two_eq_zero_or_one y with h|h
 ·rw [h] at h2;rw [h,if_neg (by omega),←h2,Nat.add_zero,Nat.add_zero,←Nat.mul_assoc,Nat.mul_comm 2 q]
 ·rw [h] at h2;rw [h,if_pos rfl,←h2,Nat.add_mul,Nat.one_mul,←Nat.mul_assoc,Nat.mul_comm 2 q]
theorem bitsTo_of_bits (K:List (List UInt8)) (set:Nat) (hs:set<65536) (h:∀ j,j<16→(K.getD j []).isEmpty= !bitAt set (15 - j)):∀ i,i≤16→bitsTo K i=set / 2 ^ (16 - i)*2 ^ (16 - i)
 |0,_=>by
  rw [show (2:Nat) ^ (16 - 0)=65536 by decide,Nat.div_eq_of_lt hs];rfl
 |i+1,hi=>by
  have ih:=bitsTo_of_bits K set hs h i (by omega);have hp:(2:Nat) ^ (16 - i)=2*2 ^ (15 - i):=by rw [show 16 - i=15 - i+1 by omega,Nat.pow_succ]; omega
  rw [bitsTo,ih,hp,show 16 - (i+1)=15 - i by omega,half_step set (2 ^ (15 - i)) (Nat.pow_pos (by omega)),h i (by omega)];unfold bitAt;by_cases hb:set / 2 ^ (15 - i) % 2=1
  ·simp [hb]
  ·simp [hb]
theorem bitsTo_near (K:List (List UInt8)):∀ d,d≤16→bitsTo K (16 - d)≤bitsTo K 16∧bitsTo K 16<bitsTo K (16 - d)+2 ^ d
 |0,_=>by simp
 |d+1,hd=>by
  obtain ⟨h1,h2⟩:=bitsTo_near K d (by omega);have e:16 - d=(16 - (d+1))+1:=by omega
  have hp:(2:Nat) ^ (d+1)=2*2 ^ d:=by rw [Nat.pow_succ]; omega
  have e3:bitsTo K (16 - d)=bitsTo K (16 - (d+1))+(if (K.getD (16 - (d+1)) []).isEmpty then 0 else 2 ^ d):=by
   rw [e]
   show bitsTo K (16 - (d+1))+(if (K.getD (16 - (d+1)) []).isEmpty then 0 else 2 ^ (15 - (16 - (d+1))))=_;rw [show 15 - (16 - (d+1))=d by omega]
  rw [e3] at h1 h2;rw [hp];generalize (2:Nat) ^ d=p at *;generalize (K.getD (16 - (d+1)) []).isEmpty=b at *;cases b with
  |true=>rw [if_pos rfl] at h1 h2; omega
  |false=>rw [if_neg (by decide)] at h1 h2; omega
theorem bitAt_bitsTo (K:List (List UInt8)) (i:Nat) (hi:i<16):bitAt (bitsTo K 16) (15 - i)= !(K.getD i []).isEmpty:=by
 obtain ⟨h1,h2⟩:=bitsTo_near K (15 - i) (by omega);obtain ⟨h3,_⟩:=bitsTo_mod K i (by omega);have hp:(2:Nat) ^ (16 - i)=2*2 ^ (15 - i):=by rw [show 16 - i=15 - i+1 by omega,Nat.pow_succ]; omega
 have e3:bitsTo K (i+1)=bitsTo K i+(if (K.getD i []).isEmpty then 0 else 2 ^ (15 - i)):=rfl;rw [show 16 - (15 - i)=i+1 by omega,e3] at h1 h2;rw [hp] at h3;have hpos:0<(2:Nat) ^ (15 - i):=Nat.pow_pos (by omega);unfold bitAt;generalize (2:Nat) ^ (15 - i)=p at *;obtain ⟨q,hq⟩:∃ q,bitsTo K i=2*p*q:=⟨bitsTo K i / (2*p),by have:=Nat.mod_add_div (bitsTo K i) (2*p); omega⟩
 rw [hq,show 2*p*q=p*(2*q) by rw [Nat.mul_comm 2 p,Nat.mul_assoc]] at h1 h2;cases he:(K.getD i []).isEmpty with
 |true=>
  rw [he] at h1 h2;simp only [if_true] at h1 h2
  have:bitsTo K 16 / p=2*q:=Nat.div_eq_of_lt_le (by rw [Nat.mul_comm]; omega) (by rw [Nat.add_mul,Nat.mul_comm (2*q)]; omega)
  rw [this];simp
 |false=>
  rw [he] at h1 h2;simp only [Bool.false_eq_true,if_false] at h1 h2
  have:bitsTo K 16 / p=2*q+1:=Nat.div_eq_of_lt_le (by rw [Nat.add_mul,Nat.mul_comm (2*q)]; omega) (by rw [Nat.add_mul,Nat.add_mul,Nat.mul_comm (2*q)]; omega)
  rw [this];simp
theorem kidsR_of (K:List (List UInt8)) (hK:K.length=16) (h32:sumsOk (kidsW K)=true) (r:List UInt8):∀ n,n≤16→kidsR (bitsTo K 16) n ((K.drop (16 - n)).flatten++r,0)=(K.drop (16 - n),(r,0))
 |0,_=>by rw [List.drop_of_length_le (by omega)]; rfl
 |n+1,hn=>by
  have ih:=kidsR_of K hK h32 r n (by omega);have hlt:16 - (n+1)<K.length:=by omega
  have hb:=bitAt_bitsTo K (16 - (n+1)) (by omega);rw [show 15 - (16 - (n+1))=n by omega] at hb;have e0:K.drop (16 - (n+1))=K.getD (16 - (n+1)) []::K.drop (16 - n):=by
   rw [List.drop_eq_getElem_cons hlt,show 16 - (n+1)+1=16 - n by omega,List.getD_eq_getElem?_getD,List.getElem?_eq_getElem hlt]; rfl
  have hmem:K.getD (16 - (n+1)) []∈K:=by rw [List.getD_eq_getElem?_getD,List.getElem?_eq_getElem hlt]; exact List.getElem_mem hlt
  rw [e0];generalize K.getD (16 - (n+1)) []=x at *;have hk:kidR (bitsTo K 16) n ((x::K.drop (16 - n)).flatten++r,0)=(x,((K.drop (16 - n)).flatten++r,0)):=by
   unfold kidR;rw [hb];cases hx:x.isEmpty with
   |true=>
    have:x= []:=by simpa using hx
    subst this;simp
   |false=>
    have hl:x.length=32:=by
     unfold sumsOk kidsW at h32;rw [List.all_eq_true] at h32
     have:=h32 x (List.mem_filter.2 ⟨hmem,by rw [hx]; rfl⟩)
     simpa using this
    rw [if_pos (by rfl),List.flatten_cons,List.append_assoc,←hl];exact bytesS_of x _
  simp only [kidsR,hk,ih]
theorem two_of_len:∀ {l:List UInt8},l.length=2→∃ x y,l= [x,y]
 | [x,y],_=>⟨x,y,rfl⟩
theorem packed_len {p:List UInt8} (l:Bool) (h:p.length≤16):(Nib.packed p l).length≤9:=by rw [Nib.packed_length]; omega
theorem readN_of (most:Nat) (hm:9≤most) (n:Nd) (hK:n.2.2.2.length=16) (hf:fineD n=true):readN most (textD n)=(n,([],0),true):=by
 obtain ⟨k,p,v,K⟩:=n;simp only at hK;unfold fineD at hf;simp only at hf;obtain ⟨hk,hfit,hpl,hvl,hs⟩:=fineN_parts hf;rcases hk with rfl|rfl|rfl
 ·have hz:K=zeroK:=by
   unfold fineN at hf;rw [if_pos rfl] at hf;simp at hf
   exact hf.1.1.1
  subst hz;have e:textD (1,p,v,zeroK)= [1]++(textW (Nib.packed p true)++(textW v++ [])):=by simp [textD,nodeText]
  have e1:kindR (textD (1,p,v,zeroK))=1:=by rw [e]; rfl
  have e2:bytesS (textD (1,p,v,zeroK),0) 1=([1],(textW (Nib.packed p true)++(textW v++ []),0)):=by rw [e]; exact bytesS_of [1] _
  unfold readN;rw [e1,if_neg (by decide),e2];unfold otR;rw [if_pos rfl,txtS_of _ _ most (Nat.le_trans (packed_len _ hpl) hm) (by have:=packed_len true hpl; omega),txtS_of _ _ 32 hvl (by omega),Nib.unpack_packed _ _ hfit];rfl
 ·obtain ⟨h32,hz⟩:=fine_ext hf;have hv0:v= []:=by
   unfold fineN at hf;rw [if_neg (by decide),if_pos rfl] at hf;simp at hf
   exact hf.2
  subst hv0;have e:textD (2,p,[],K)= [2]++(textW (Nib.packed p false)++(K.getD 0 []++ [])):=by simp [textD,nodeText]
  have e1:kindR (textD (2,p,[],K))=2:=by rw [e]; rfl
  have e2:bytesS (textD (2,p,[],K),0) 1=([2],(textW (Nib.packed p false)++(K.getD 0 []++ []),0)):=by rw [e]; exact bytesS_of [2] _
  unfold readN;rw [e1,if_neg (by decide),e2];unfold otR;have e3:bytesS (K.getD 0 []++ [],0) 32=(K.getD 0 [],([],0)):=by rw [←h32]; exact bytesS_of _ _
  rw [if_neg (by decide),txtS_of _ _ most (Nat.le_trans (packed_len _ hpl) hm) (by have:=packed_len false hpl; omega),Nib.unpack_packed _ _ hfit];simp only [e3];rw [←hz];rfl
 ·have hp0:p= []:=by
   unfold fineN at hf;rw [if_neg (by decide),if_neg (by decide),if_pos rfl] at hf;simp only [Bool.and_eq_true] at hf
   have:=hf.1.1.1
   simpa using this
  subst hp0;obtain ⟨_,hlt⟩:=bitsTo_mod K 16 (by omega);have e:textD (3,[],v,K)= [3]++([UInt8.ofNat (bitsTo K 16 / 256),UInt8.ofNat (bitsTo K 16)]++(K.flatten++(textW v++ []))):=by simp [textD,nodeText,flat_kids]
  have e1:kindR (textD (3,[],v,K))=3:=by rw [e]; rfl
  have e2:bytesS (textD (3,[],v,K),0) 1=([3],([UInt8.ofNat (bitsTo K 16 / 256),UInt8.ofNat (bitsTo K 16)]++(K.flatten++(textW v++ [])),0)):=by rw [e]; exact bytesS_of [3] _
  have e3:=bytesS_of [UInt8.ofNat (bitsTo K 16 / 256),UInt8.ofNat (bitsTo K 16)] (K.flatten++(textW v++ []));have e4:set2 [UInt8.ofNat (bitsTo K 16 / 256),UInt8.ofNat (bitsTo K 16)]=bitsTo K 16:=by
   simp [set2]
   omega
  have e5:=kidsR_of K hK hs (textW v++ []) 16 (by omega);rw [show 16 - 16=0 from rfl,List.drop_zero] at e5;unfold readN;rw [e1,if_pos rfl,e2];unfold brR;simp only [List.length_cons,List.length_nil] at e3;rw [e3];simp only [e4,e5,txtS_of _ _ 32 hvl (show v.length<9223372036854775808 by omega)];simp
theorem readN_back (s:List UInt8) (n:Nd) (r:List UInt8 × Nat) (h:readN 16 s=(n,r,true)) (hr:endS r=0) (hf:fineD n=true):n.2.2.2.length=16∧textD n=s:=by
 obtain ⟨r1,r2⟩:=endS_ok' hr;unfold readN at h;have hb1:∀ t:List UInt8 × Nat,(bytesS (s,0) 1).2=t→t.2=0→∃ c,s=c::t.1∧kindR s=c.toNat:=by
  intro t ht h0;obtain ⟨_,h2,h3⟩:=bytesS_ok (s:=(s,0)) (n:=1) (t:=(bytesS (s,0) 1).1) (s1:=t) (by rw [←ht]) h0;simp only at h2;generalize (bytesS (s,0) 1).1=a at *
  match a,h3 with
  | [c],_=>exact ⟨c,h2,by rw [h2]; rfl⟩
 by_cases hk:kindR s=3
 ·rw [if_pos hk] at h;simp only [Prod.mk.injEq,and_true] at h;obtain ⟨e1,e2⟩:=h;generalize hs1:(bytesS (s,0) 1).2=s1 at *;unfold brR at e1 e2;by_cases h0:(bytesS s1 2).1= []
  ·rw [if_pos h0] at e1 e2;subst e1
   exfalso
   rw [show fineD (3,[],[],zeroK)=false by decide] at hf;cases hf
  ·rw [if_neg h0] at e1 e2;simp only at e1 e2;generalize hb:bytesS s1 2=b at *;obtain ⟨bits,s2⟩:=b;simp only at h0 e1 e2;generalize hset:set2 bits=set at *;have hlK:=kidsR_length set 16 s2;have hok:=kidsR_ok set 16 s2;generalize kidsR set 16 s2=kr at *;obtain ⟨K,s3⟩:=kr;simp only at e1 e2 hlK hok;generalize ht:txtS s3 32=tr at *;obtain ⟨v,s4⟩:=tr;simp only at e1 e2;subst e1 e2;obtain ⟨f1,f2,f3⟩:=txtS_ok' ht r1;obtain ⟨g1,g2,g3⟩:=hok f1;obtain ⟨k1,k2,k3⟩:=bytesS_ok hb g1;obtain ⟨c,c1,c2⟩:=hb1 s1 rfl k1;refine ⟨hlK,?_⟩;obtain ⟨x,y,rfl⟩:=two_of_len k3
   ·have hx:=x.toNat_lt;have hy:=y.toNat_lt;have hset':set=x.toNat*256+y.toNat:=by rw [←hset]; rfl
    have hbits:bitsTo K 16=set:=by
     have:=bitsTo_of_bits K set (by omega) (fun j hj=>by
      have:=g3 j hj
      rw [show 16 - 1 - j=15 - j by omega] at this;cases hb:bitAt set (15 - j) with
      |true=>
       rw [hb,if_pos rfl] at this;generalize K.getD j []=z at *;cases z with
       |nil=>cases this
       |cons a b=>rfl
      |false=>rw [hb,if_neg (by decide)] at this; rw [List.eq_nil_of_length_eq_zero this]; rfl) 16 (by omega)
     rw [this]; simp
    have hx2:UInt8.ofNat (set / 256)=x:=UInt8.toNat_inj.1 (by simp; omega);have hy2:UInt8.ofNat set=y:=UInt8.toNat_inj.1 (by simp; omega);have hc3:c=3:=UInt8.toNat_inj.1 (by rw [←c2,hk]; rfl);simp only [textD,nodeText,if_true,hbits,hx2,hy2,flat_kids];rw [c1,k2,g2,f2,r2,hc3];simp
 ·rw [if_neg hk] at h;simp only [Prod.mk.injEq] at h;obtain ⟨e1,e2⟩:=h;generalize hs1:(bytesS (s,0) 1).2=s1 at *;have e2a:(otR 16 (kindR s) s1).2.1=r:=by rw [e2]
  have e2b:(otR 16 (kindR s) s1).2.2=true:=by rw [e2]
  clear e2;unfold otR at e1 e2a e2b;generalize ht:txtS s1 16=tr at *;obtain ⟨t,s2⟩:=tr;simp only at e1 e2a e2b;by_cases h1:kindR s=1
  ·rw [if_pos h1] at e1 e2a e2b;simp only [Bool.and_eq_true,decide_eq_true_eq] at e1 e2a e2b;generalize hv:txtS s2 32=vr at *;obtain ⟨v,s3⟩:=vr;simp only at e1 e2a;subst e1 e2a;obtain ⟨f1,f2,_⟩:=txtS_ok' hv r1;obtain ⟨g1,g2,_⟩:=txtS_ok' ht f1;obtain ⟨c,c1,c2⟩:=hb1 s1 rfl g1;refine ⟨rfl,?_⟩;have hp:=Nib.pack_unpack t e2b.1;rw [e2b.2] at hp;unfold Nib.pack at hp;rw [if_pos (fineN_parts hf).2.1] at hp;have hp':Nib.packed (Nib.unpack t).1 true=t:=congrArg Prod.fst hp;have hc:c=1:=UInt8.toNat_inj.1 (by rw [←c2,h1]; rfl)
   show nodeText (kindR s) _ _ _=s;rw [h1];unfold nodeText;rw [if_neg (by decide),if_pos rfl,decide_eq_true rfl,hp',c1,g2,f2,r2,hc];simp
  ·rw [if_neg h1] at e1 e2a e2b;simp only [Bool.and_eq_true,decide_eq_true_eq] at e1 e2a e2b;generalize hv:bytesS s2 32=vr at *;obtain ⟨x,s3⟩:=vr;simp only at e1 e2a;subst e1 e2a;obtain ⟨f1,f2,_⟩:=bytesS_ok hv r1;obtain ⟨g1,g2,_⟩:=txtS_ok' ht f1;obtain ⟨c,c1,c2⟩:=hb1 s1 rfl g1;refine ⟨rfl,?_⟩;have hp:=Nib.pack_unpack t e2b.1;have hl:(Nib.unpack t).2.1=false:=by simpa using e2b.2
   rw [hl] at hp;unfold Nib.pack at hp;rw [if_pos (fineN_parts hf).2.1] at hp;have hp':Nib.packed (Nib.unpack t).1 false=t:=congrArg Prod.fst hp;have hk2:kindR s=2:=by
    rcases (fineN_parts hf).1 with h|h|h
    ·exact absurd h h1
    ·exact h
    ·exact absurd h hk
   have hc:c=2:=UInt8.toNat_inj.1 (by rw [←c2,hk2]; rfl)
   show nodeText (kindR s) _ _ _=s;rw [hk2];unfold nodeText;rw [if_neg (by decide),if_neg (by decide),decide_eq_false (by decide),hp',c1,g2,f2,r2,hc];simp
theorem decN_ok {s:List UInt8} {n:Nd} (h:decN s=(n,0)):n.2.2.2.length=16∧fineD n=true∧textD n=s:=by
 unfold decN at h
 split at h
 ·simp at h
 ·rename_i hc;simp only [not_or,ne_eq,Bool.not_eq_false,Decidable.not_not] at hc;simp only [Prod.mk.injEq,and_true] at h;subst h;obtain ⟨h1,h2⟩:=readN_back s (readN 16 s).1 (readN 16 s).2.1 (by rw [←hc.2.1]) hc.1 hc.2.2;exact ⟨h1,hc.2.2,h2⟩
theorem decN_of (n:Nd) (hK:n.2.2.2.length=16) (hf:fineD n=true):decN (textD n)=(n,0):=by
 unfold decN;rw [readN_of 16 (by omega) n hK hf];simp only [hf];rw [if_neg (by simp [endS])]
theorem decN_cases (s:List UInt8):decN s=(zeroN,80)∨∃ n,decN s=(n,0)∧n.2.2.2.length=16∧fineD n=true∧textD n=s:=by
 by_cases h:(decN s).2=0
 ·exact .inr ⟨(decN s).1,by rw [←h],decN_ok (by rw [←h])⟩
 ·refine .inl ?_;unfold decN at h ⊢
  split
  ·rfl
  ·rename_i hc;rw [if_neg hc] at h;exact absurd rfl h
section
open Go.RowKit Go.Instr
attribute [local go_sem] ba_get ByteArray.mk_append_mk
theorem Rdr.grown {w w':World} {g:Nat} {s:List UInt8 × Nat} {row:Option Nat} (h:Rdr w g s) (hg:w.grownBy w' row) (hne:some g≠row):Rdr w' g s:=by
 obtain ⟨all,a,h1,h2⟩:=h;exact ⟨all,a,Blk.grown h1 hg hne,h2⟩
theorem code_RBytes (w:World) (g:Nat) (s:List UInt8 × Nat) (h:Rdr w g s) (n:Nat) (hn:n≤1000):
  Calls Tryz.prog 149 #[.pointer (some ⟨g,0,none⟩),n] w (RdrEnd w g (.string ⟨(bytesS s n).1.toArray⟩) (bytesS s n).2):=by
 obtain ⟨rest,c⟩:=s;obtain ⟨all,a,hB,ha,hl,hr⟩:=h;simp only at hB hr;subst hr;have HP:Hid (∀ (t:List UInt8) s' w',bytesS (all.drop a,c) n=(t,s')→Rdr w' g s'→w.grownBy w' (some g)→RdrEnd w g (.string ⟨(bytesS (all.drop a,c) n).1.toArray⟩) (bytesS (all.drop a,c) n).2 (.returned (t:Value)) w'):=ι (fun n s' w' e h1 h2=>by rw [e]; exact ⟨rfl,h1,h2⟩);have HX:Hid (bytesS (all.drop a,c) n=if c≠0 then ([],(all.drop a,c)) else if n≤(all.drop a).length then ((all.drop a).take n,((all.drop a).drop n,0)) else ([],(all.drop a,20))):=ι rfl;generalize RdrEnd w g (.string ⟨(bytesS (all.drop a,c) n).1.toArray⟩) (bytesS (all.drop a,c) n).2=P at HP ⊢;generalize bytesS (all.drop a,c) n=X at *;obtain ⟨c0,c1,c2,f1,f2⟩:=hB.cells;have HB:=ι hB;have HL:=ι (And.intro ha hl);have hn0:((n:Int)<0)=False:=by simp
 by_cases hc:c=0
 ·subst hc;have HT:=ι (code_take w g all a 0 hB hl ha n (by omega));by_cases hle:n≤(all.drop a).length
  ·have HE:Hid (X=((all.drop a).take n,((all.drop a).drop n,0))):=ι (by rw [HX.out,if_neg (by simp),if_pos hle]);rw [if_pos hle,if_pos hle,decide_eq_true hle] at HT;have hle2:n≤all.length - a:=by rw [List.length_drop] at hle; exact hle
   have HA:Hid (a+n≤all.length):=ι (by omega);clear hB ha hl hle HX hle2;generalize (all.drop a).take n=t at *;go_enter Tryz.func149,Tryz.ntmps149
   go_wp2_with fail
   refine HT.out.mono ?_;rintro e w1 ⟨rfl,h1,h2⟩;have HF:=ι (HP.out t _ w1 HE.out ⟨all,a+n,h1,HA.out,HL.out.2,by rw [List.drop_drop]⟩ h2);clear h1 h2;go_wp2_with fail
   exact HF.out
  ·have HE:Hid (X=([],(all.drop a,20))):=ι (by rw [HX.out,if_neg (by simp),if_neg hle]);rw [if_neg hle,if_neg hle,decide_eq_false hle] at HT;clear hB ha hl hle HX;go_enter Tryz.func149,Tryz.ntmps149
   go_wp2_with fail
   refine HT.out.mono ?_;rintro e w1 ⟨rfl,h1,h2⟩;have HR:=ι (code_refused w1 g all a 0 h1 a 20);rw [if_pos rfl,if_pos rfl] at HR;obtain ⟨d0,d1,d2,_,_⟩:=h1.cells;have HG:=ι h2;clear h1 h2;go_wp2_with fail
   refine HR.out.mono ?_;rintro e w2 ⟨rfl,h5,h6⟩;have HF:=ι (HP.out [] _ w2 HE.out ⟨all,a,h5,HL.out.1,HL.out.2,rfl⟩ (HG.out.trans h6));clear h5 h6;go_wp2_with fail
   exact HF.out
 ·have HE:Hid (X=([],(all.drop a,c))):=ι (by rw [HX.out,if_pos hc]);have hm1:((c:Int) !=0)=true:=by simp; exact hc
  clear hB ha hl hc HX;go_enter Tryz.func149,Tryz.ntmps149
  go_wp2_with fail
  exact HP.out [] _ _ HE.out ⟨all,a,HB.out,HL.out.1,HL.out.2,rfl⟩ (World.grownBy.refl _ _)
end
section
open Go.RowKit
attribute [local go_sem] ba_get ByteArray.mk_append_mk
structure Live (w W:World) (L:List (Nat × Nat × Array Value)):Prop where
 b:Below w.heap.size w W
 l:∀ x∈L,w.heap.size≤x.1∧Blk W x.1 x.2.1 x.2.2
 d:L.Pairwise fun x y=>x.1≠y.1
section
variable {w W W':World} {L:List (Nat × Nat × Array Value)} {i g t:Nat} {cs cs':Array Value}
theorem Live.start (w:World):Live w w []:=⟨Below.refl _ _,by simp,List.Pairwise.nil⟩
theorem Live.blk (h:Live w W L) (i:Nat) (hi:L[i]?=some (g,t,cs)):Blk W g t cs:=(h.l _ (List.mem_of_getElem? hi)).2
theorem Live.own (h:Live w W L) (i:Nat) (hi:L[i]?=some (g,t,cs)):w.heap.size≤g:=(h.l _ (List.mem_of_getElem? hi)).1
theorem Live.lt (h:Live w W L) (i:Nat) (hi:L[i]?=some (g,t,cs)):g<W.heap.size:=(h.blk i hi).lt
theorem Live.cell (h:Live w W L) (i k:Nat) {v:Value} (hi:L[i]?=some (g,t,cs)) (hk:cs[k]?=some v):W.cell? ⟨g,k,none⟩=some v:=((h.blk i hi).cell k).trans hk
theorem Live.frozen (h:Live w W L) (i k:Nat) (hi:L[i]?=some (g,t,cs)):W.frozen? ⟨g,k,none⟩=false:=(h.blk i hi).frozen k
theorem Live.below (h:Live w W L) (hb:Below W.heap.size W W'):Live w W' L:=
 ⟨h.b.trans (hb.mono h.b.size),fun x hx=>⟨(h.l x hx).1,(h.l x hx).2.below hb (h.l x hx).2.lt⟩,h.d⟩
theorem Live.alloc (h:Live w W L) (cs:Array Value) (t:Nat):Live w (W.alloc (.cells cs t)) ((W.heap.size,t,cs)::L):=
 ⟨h.b.alloc h.b.size _,by
  intro x hx;rcases List.mem_cons.1 hx with rfl|hx
  ·exact ⟨h.b.size,Blk.new _ _ _⟩
  ·exact ⟨(h.l x hx).1,(h.l x hx).2.alloc _⟩,by
  refine List.pairwise_cons.2 ⟨fun x hx e=> ?_,h.d⟩
  have:=(h.l x hx).2.lt
  have e':W.heap.size=x.1:=e;omega⟩
theorem Live.drop (h:Live w W L) (k:Nat):Live w W (L.drop k):=
 ⟨h.b,fun x hx=>h.l x (List.mem_of_mem_drop hx),h.d.sublist (List.drop_sublist _ _)⟩
theorem Live.erase (h:Live w W L) (k:Nat):Live w W (L.eraseIdx k):=
 ⟨h.b,fun x hx=>h.l x (List.mem_of_mem_eraseIdx hx),h.d.sublist (List.eraseIdx_sublist _ _)⟩
theorem pairwise_set_ {L:List (Nat × Nat × Array Value)} (d:L.Pairwise fun x y=>x.1≠y.1) (i:Nat) (hi:L[i]?=some (g,t,cs)):(L.set i (g,t,cs')).Pairwise fun x y=>x.1≠y.1:=by
 have e:(L.set i (g,t,cs')).map (·.1)=L.map (·.1):=by
  rw [List.map_set];apply List.ext_getElem?
  intro j;rw [List.getElem?_set]
  split
  ·rename_i hj;subst hj;obtain ⟨hl,he⟩:=List.getElem?_eq_some_iff.1 hi;simp [hl,he]
  ·rfl
 have h1:(L.map (·.1)).Pairwise (·≠·):=List.pairwise_map.2 d;rw [←e] at h1;exact List.pairwise_map.1 h1
theorem Live.grown (h:Live w W L) (i:Nat) (hi:L[i]?=some (g,t,cs)) (hg:W.grownBy W' (some g)) (hb:Blk W' g t cs'):Live w W' (L.set i (g,t,cs')):=by
 have hgo:=h.own i hi;refine ⟨h.b.grown hg h.b.size (fun k e=>by injection e with e; subst e; exact hgo),fun x hx=> ?_,pairwise_set_ h.d i hi⟩;obtain ⟨j,hj⟩:=List.getElem?_of_mem hx;rw [List.getElem?_set] at hj
 split at hj
 ·rename_i e
  split at hj
  ·injection hj with hj
   subst hj;exact ⟨hgo,hb⟩
  ·cases hj
 ·rename_i e;have hxL:=List.mem_of_getElem? hj;refine ⟨(h.l x hxL).1,(h.l x hxL).2.grown hg ?_⟩;intro e2;injection e2 with e2
  have hp:=h.d;rw [List.pairwise_iff_getElem] at hp;obtain ⟨h1,h2⟩:=List.getElem?_eq_some_iff.1 hi;obtain ⟨h3,h4⟩:=List.getElem?_eq_some_iff.1 hj;rcases Nat.lt_or_gt_of_ne e with hlt|hlt
  ·have:=hp i j h1 h3 hlt
   rw [h2,h4] at this;exact this e2.symm
  ·have:=hp j i h3 h1 hlt
   rw [h2,h4] at this;exact this e2
theorem Live.apart (h:Live w W L) {row:Option Nat} (hg:W.grownBy W' row) (hr:∀ k,row=some k→w.heap.size≤k∧∀ x∈L,x.1≠k):Live w W' L:=
 ⟨h.b.grown hg h.b.size (fun k e=>(hr k e).1),fun x hx=>⟨(h.l x hx).1,(h.l x hx).2.grown hg (fun e=>(hr _ e.symm).2 x hx rfl)⟩,h.d⟩
theorem Live.set (h:Live w W L) (i k:Nat) (u:Value) (hi:L[i]?=some (g,t,cs)):Live w (W.setCell ⟨g,k,none⟩ u) (L.set i (g,t,cs.setIfInBounds k u)):=
 h.grown i hi ⟨rfl,rfl,rfl,by simp [World.setCell],fun j hj hne=>Below.heap_setCell _ _ _ _ (fun e=>hne (by rw [e]))⟩ ((h.blk i hi).set_ k u)
theorem Live.push {base e size n:Nat} {v:Value} {xs:List Value} (h:Live w W L) (own:W.ownsRow base e size v n xs) (hbase:w.heap.size≤base) (hne:∀ x∈L,e≠x.2.1) (hg:W.grownBy W' v.ownBlock):Live w W' L:=
 h.apart hg fun k hk=>⟨Nat.le_trans hbase (own.lt k hk).1,fun x hx he=>own_blk_ne own (h.l x hx).2 (hne x hx) (by rw [he]; exact hk)⟩
theorem Live.hp {base e size n:Nat} {v:Value} {xs:List Value} (h:Hid (Live w W L)) (own:W.ownsRow base e size v n xs) (hbase:w.heap.size≤base) (hne:∀ x∈L,e≠x.2.1) (hg:W.grownBy W' v.ownBlock):Hid (Live w W' L):=ι (h.out.push own hbase hne hg)
theorem Live.hb (h:Hid (Live w W L)) (hb:Below W.heap.size W W'):Hid (Live w W' L):=ι (h.out.below hb)
theorem Live.ha (h:Hid (Live w W L)) (cs:Array Value) (t:Nat):Hid (Live w (W.alloc (.cells cs t)) ((W.heap.size,t,cs)::L)):=ι (h.out.alloc cs t)
theorem Live.hs (h:Hid (Live w W L)) (i k:Nat) (u:Value) (hi:L[i]?=some (g,t,cs)):Hid (Live w (W.setCell ⟨g,k,none⟩ u) (L.set i (g,t,cs.setIfInBounds k u))):=ι (h.out.set i k u hi)
theorem Live.hg (h:Hid (Live w W L)) (i:Nat) (hi:L[i]?=some (g,t,cs)) (hg:W.grownBy W' (some g)) (hb:Blk W' g t cs'):Hid (Live w W' (L.set i (g,t,cs'))):=ι (h.out.grown i hi hg hb)
theorem Live.drew (h:Live w W L) (n:Nat):Live w (W.drewN n) L:=⟨⟨h.b.os,h.b.tape,h.b.output,h.b.size,h.b.block⟩,h.l,h.d⟩
end
open Go.Instr
def Ret (w:World) (v:Value) (e:Ending) (w':World):Prop:=e= .returned v∧Below w.heap.size w w'
end
section
open Go.RowKit
theorem Blk.setAll {g:Nat} {t:TypeId}:∀ (vs A B R:List Value) (w:World),B.length=vs.length→Blk w g t (A++(B++R)).toArray→Blk (w.setCells g A.length vs) g t (A++(vs++R)).toArray
 | [],A,B,R,w,h,hb=>by
  have:B= []:=List.eq_nil_of_length_eq_zero h
  subst this;exact hb
 |v::r,A,[],R,w,h,hb=>by simp at h
 |v::r,A,b::B,R,w,h,hb=>by
  have h1:=hb.set_ A.length v;rw [List.setIfInBounds_toArray,List.set_append_right _ _ (Nat.le_refl _),Nat.sub_self] at h1;simp only [List.cons_append,List.set_cons_zero] at h1;have h2:=Blk.setAll r (A++ [v]) B R (w.setCell ⟨g,A.length,none⟩ v) (by simpa using h) (by simpa using h1);rw [List.length_append] at h2;simpa [World.setCells] using h2
theorem grown_setAll {g:Nat} {a:World}:∀ (vs:List Value) (o:Nat) (w:World),a.grownBy w (some g)→a.grownBy (w.setCells g o vs) (some g)
 | [],_,_,h=>h
 |v::r,o,w,h=>grown_setAll r (o+1) _ ⟨h.os,h.tape,h.output,by simpa [World.setCell] using h.size,fun j hj hne=>(Below.heap_setCell _ _ _ _ (fun e=>hne (by rw [e]))).trans (h.block j hj hne)⟩
section
variable {w W:World} {L:List (Nat × Nat × Array Value)} {g t:Nat} {cs:Array Value}
theorem Live.hall (h:Hid (Live w W L)) (i:Nat) (vs:List Value) (hi:L[i]?=some (g,t,cs)) (hl:cs.size=vs.length):Hid (Live w (W.setCells g 0 vs) (L.set i (g,t,vs.toArray))):=by
 refine ι (h.out.grown i hi (grown_setAll vs 0 W (World.grownBy.refl _ _)) ?_);have hb:=h.out.blk i hi
 have:=Blk.setAll vs [] cs.toList [] W (by rw [←hl]; exact Array.length_toList) (by simpa using hb)
 simpa using this
theorem Live.there (h:Live w W L) (i:Nat) (n:Nat) (hi:L[i]?=some (g,t,cs)) (hn:n≤cs.size):W.there g 0 n:=fun j hj=>by
 rw [Nat.zero_add];refine ⟨?_,h.frozen i j hi⟩;rw [(h.blk i hi).cell,Array.getElem?_eq_getElem (by omega)]; rfl
end
theorem at_op {P:Program} {ops:Array Oper} {Q:Exit→Act→World→Prop} {rest:List Oper} {a:Act} {w:World} (n:Tmp) {op:Op} {t:TypeId} {p:String} {af:Array Edge} {g:Option (Nat × Bool)}
  (h:wpList P ops Q (⟨some n,op,t,p,af,g⟩::rest) a w):wpList P ops Q (⟨some n,op,t,p,af,g⟩::rest) a w:=h
end
section
open Go.RowKit Go.Instr
attribute [local go_sem] ba_get ByteArray.mk_append_mk
theorem nodeV_put (k:Nat) (p v:List UInt8) (K:List (List UInt8)) (i:Nat) (s:List UInt8) (hi:i<K.length):(nodeV k p v K).toArray.setIfInBounds (3+i) (.string ⟨s.toArray⟩)=(nodeV k p v (K.set i s)).toArray:=by
 rw [List.setIfInBounds_toArray,show 3+i=i+1+1+1 by omega];unfold nodeV;rw [List.set_cons_succ,List.set_cons_succ,List.set_cons_succ];unfold strv;rw [List.map_set]
def pad (D:List (List UInt8)):List (List UInt8):=D++List.replicate (16 - D.length) []
theorem pad_set (D:List (List UInt8)) (s:List UInt8) (h:D.length<16):(pad D).set D.length s=pad (D++ [s]):=by
 unfold pad;rw [List.set_append_right _ _ (Nat.le_refl _),Nat.sub_self,List.length_append,List.length_singleton];obtain ⟨m,hm⟩:∃ m,16 - D.length=m+1:=⟨15 - D.length,by omega⟩
 rw [hm,List.replicate_succ,List.set_cons_zero,show 16 - (D.length+1)=m by omega];simp
theorem pad_len (D:List (List UInt8)) (h:D.length≤16):(pad D).length=16:=by unfold pad; simp; omega
theorem pad_nil_set (D:List (List UInt8)) (h:D.length<16):pad (D++ [[]])=pad D:=by
 rw [←pad_set D [] h];unfold pad;rw [List.set_append_right _ _ (Nat.le_refl _),Nat.sub_self];obtain ⟨m,hm⟩:∃ m,16 - D.length=m+1:=⟨15 - D.length,by omega⟩
 rw [hm,List.replicate_succ,List.set_cons_zero]
theorem pad_full {D:List (List UInt8)} (h:D.length=16):pad D=D:=by unfold pad; rw [h]; simp
theorem Rdr.below' {w w':World} {g:Nat} {s:List UInt8 × Nat} (h:Rdr w g s) (hb:Below w.heap.size w w'):Rdr w' g s:=by
 obtain ⟨all,a,h1,h2⟩:=h;exact ⟨all,a,Blk.below h1 hb (Blk.lt h1),h2⟩
structure RdNd (w0 w:World) (g nb:Nat) (s:List UInt8 × Nat) (n:Nd):Prop where
 rd:Rdr w g s
 nd:Blk w nb 133 (nodeV n.1 n.2.1 n.2.2.1 n.2.2.2).toArray
 ne:g≠nb
 g0:w0.heap.size≤g
 n0:w0.heap.size≤nb
 b:Below w0.heap.size w0 w
theorem RdNd.read {w0 w w':World} {g nb:Nat} {s s':List UInt8 × Nat} {n:Nd} (h:RdNd w0 w g nb s n) (hr:Rdr w' g s') (hg:w.grownBy w' (some g)):RdNd w0 w' g nb s' n:=
 ⟨hr,h.nd.grown hg (fun e=>h.ne (by injection e with e; exact e.symm)),h.ne,h.g0,h.n0,h.b.grown hg h.b.size (fun k e=>by injection e with e; subst e; exact h.g0)⟩
theorem RdNd.below {w0 w w':World} {g nb:Nat} {s:List UInt8 × Nat} {n:Nd} (h:RdNd w0 w g nb s n) (hb:Below w.heap.size w w'):RdNd w0 w' g nb s n:=
 ⟨h.rd.below' hb,h.nd.below hb h.nd.lt,h.ne,h.g0,h.n0,h.b.nxt hb⟩
theorem RdNd.drew {w0 w:World} {g nb:Nat} {s:List UInt8 × Nat} {n:Nd} (h:RdNd w0 w g nb s n):RdNd w0 w.drew g nb s n:=⟨h.rd,h.nd,h.ne,h.g0,h.n0,h.b.drew⟩
theorem RdNd.drewN {w0 w:World} {g nb:Nat} {s:List UInt8 × Nat} {n:Nd} (h:RdNd w0 w g nb s n) (m:Nat):RdNd w0 (w.drewN m) g nb s n:=⟨h.rd,h.nd,h.ne,h.g0,h.n0,below_drewN h.b m⟩
theorem RdNd.write {w0 w:World} {g nb:Nat} {s:List UInt8 × Nat} {n m:Nd} (h:RdNd w0 w g nb s n) (i:Nat) (u:Value) (hm:(nodeV n.1 n.2.1 n.2.2.1 n.2.2.2).toArray.setIfInBounds i u=(nodeV m.1 m.2.1 m.2.2.1 m.2.2.2).toArray):RdNd w0 (w.setCell ⟨nb,i,none⟩ u) g nb s m:=by
 refine ⟨h.rd.grown (row:=some nb) ?_ (fun e=>h.ne (by injection e)),?_,h.ne,h.g0,h.n0,h.b.setCell h.n0 _⟩
 ·exact ⟨rfl,rfl,rfl,by simp [World.setCell],fun j hj hne=>Below.heap_setCell _ _ _ _ (fun e=>hne (by rw [e]))⟩
 ·have:=h.nd.set_ i u
  rwa [hm] at this
def RdNdEnd (w0:World) (g nb:Nat) (v:Value) (s:List UInt8 × Nat) (n:Nd) (e:Ending) (w':World):Prop:=e= .returned v∧RdNd w0 w' g nb s n
theorem wpList_load_want {P:Program} {ops:Array Oper} {rest:List Oper} {op:Oper} {a:Act} {w:World} {Q:Exit→Act→World→Prop} (hw:Region.wanted op (yielded ops a.tmps)=true) (ty:TypeId) (x:Operand) (ho:op.op= .load ty x)
  (b o:Nat) (hx:a.eval x= .pointer (some ⟨b,o,none⟩)) (cs:List Value) (d:TypeDesc) (hc:w.rangeAt b o cs)
  (hu:P.underlying ty=some d) (hd:d.isRow=true) (hi:(P.info? ty).map (·.size)=some cs.length)
  (h:wpList P ops Q rest (a.put op.dst (.agg cs.toArray)) w):wpList P ops Q (op::rest) a w:=
 Go.BigFrame.wpList_want hw fun _ hK=>wp_load_mid ty x ho b o hx cs d hc hu hd hi (hK _ _ h)
theorem at_put {P:Program} {ops:Array Oper} {Q:Exit→Act→World→Prop} {rest:List Oper} {a:Act} {w:World} (n:Tmp) {ty:TypeId} {x:Operand} {t:TypeId} {p:String} {af:Array Edge} {g:Option (Nat × Bool)}
  (h:wpList P ops Q (⟨none,.store ty x (.tmp n),t,p,af,g⟩::rest) a w):wpList P ops Q (⟨none,.store ty x (.tmp n),t,p,af,g⟩::rest) a w:=h
end
end Go.Proofs.YtnelhjfjkkdoaaaGreatDoor