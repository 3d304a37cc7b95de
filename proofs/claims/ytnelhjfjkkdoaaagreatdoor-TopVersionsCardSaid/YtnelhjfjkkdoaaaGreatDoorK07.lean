import Derived.Test.YtnelhjfjkkdoaaaGreatDoorK06
import Derived.DeepKeys
set_option linter.unusedSimpArgs false
set_option linter.unusedVariables false
set_option maxHeartbeats 4000000
set_option maxRecDepth 100000
namespace Go.Proofs.YtnelhjfjkkdoaaaGreatDoor
section
open Go.RowKit Go.Instr
def noKidsV:Array Value:=#[.string ⟨#[]⟩,.string ⟨#[]⟩,.string ⟨#[]⟩,.string ⟨#[]⟩,.string ⟨#[]⟩,.string ⟨#[]⟩,.string ⟨#[]⟩,.string ⟨#[]⟩,.string ⟨#[]⟩,.string ⟨#[]⟩,.string ⟨#[]⟩,.string ⟨#[]⟩,.string ⟨#[]⟩,.string ⟨#[]⟩,.string ⟨#[]⟩,.string ⟨#[]⟩]
theorem noKidsV_eq:(strv (List.replicate 16 [])).toArray=noKidsV:=rfl
theorem mapM_some' {α β:Type} {f:α→Option β} {g:α→β}:∀ l:List α,(∀ x∈l,f x=some (g x))→l.mapM f=some (l.map g)
 | [],_=>rfl
 |a::l,h=>by
  rw [List.mapM_cons,h a (by simp),mapM_some' l (fun x hx=>h x (by simp [hx]))];rfl
theorem keyLits_one (s:List UInt8) (h:s.length≤9223372036854775807):Program.keyLits Tryz.prog 39 9 [.string ⟨s.toArray⟩]=some [.string s]:=by
 have hm:(⟨s.toArray⟩:ByteArray).size≤maxLen:=by show s.toArray.size≤maxLen; simp [maxLen]; omega
 unfold Program.keyLits;rw [Tryz.underlying9];simp [hm]
theorem flat_single {α β:Type} (f:α→β) (l:List α):(l.map fun a=> [f a]).flatten=l.map f:=by
 induction l with
 |nil=>rfl
 |cons a l ih=>simp [ih]
theorem range_getD (K:List (List UInt8)):(List.range K.length).map (fun i=>K.getD i [])=K:=by
 apply List.ext_getElem
 ·simp
 ·intro i h1 h2;simp at h1
  simp [List.getD_eq_getElem?_getD,h1]
theorem keyLits_arr (K:List (List UInt8)) (hK:K.length=16) (h:∀ s∈K,s.length≤9223372036854775807):Program.keyLits Tryz.prog 40 131 (strv K)=some (K.map .string):=by
 have c9:Tryz.prog.cellsOf 9=1:=by kernel_rfl
 have c85:Tryz.prog.cellsOf 131=16:=by kernel_rfl
 have hs:(strv K).length=16:=by rw [strv_length,hK]
 unfold Program.keyLits;rw [Tryz.underlying131];simp only [c9,c85,hs,if_true];rw [mapM_some' (g:=fun i=> [Lit.string (K.getD i [])])]
 ·rw [Option.map_some,flat_single]
  have:=range_getD K
  rw [hK] at this
  conv=>rhs; rw [←this]
  rw [List.map_map];rfl
 ·intro i hi;have hi':i<K.length:=by rw [hK]; simpa using hi
  have e:((strv K).drop (i*1)).take 1= [.string ⟨(K.getD i []).toArray⟩]:=by
   rw [Nat.mul_one,List.drop_eq_getElem_cons (by rw [strv_length]; exact hi')];simp [strv,List.getD_eq_getElem?_getD,hi']
  rw [e];refine keyLits_one _ ?_;rw [List.getD_eq_getElem?_getD,List.getElem?_eq_getElem hi'];exact h _ (List.getElem_mem hi')
theorem lit_string_inj {K L:List (List UInt8)}:K.map Lit.string=L.map Lit.string↔K=L:=by
 constructor
 ·intro h;exact List.map_inj_right (f:=Lit.string) (fun a b e=>by injection e)|>.1 h
 ·rintro rfl; rfl
theorem kids_eql (K L:List (List UInt8)) (hK:K.length=16) (hL:L.length=16) (h1:∀ s∈K,s.length≤9223372036854775807) (h2:∀ s∈L,s.length≤9223372036854775807) (w:World):
  (Op.equalIn 10000 131 (.agg (strv K).toArray) (.agg (strv L).toArray)).run Tryz.prog w= .ok (decide (K=L)) w:=by
 have f1:(Value.agg (strv K).toArray).cells.toList=strv K:=by simp [Value.cells]
 have f2:(Value.agg (strv L).toArray).cells.toList=strv L:=by simp [Value.cells]
 have hf:∀ M:List (List UInt8),M.length=16→(Value.agg (strv M).toArray).formed Tryz.prog 131=true:=by
  intro M hM;have c85:Tryz.prog.cellsOf 131=16:=by kernel_rfl
  unfold Value.formed;rw [Tryz.underlying131];simp [c85,strv_length,hM]
 have q:=run_equalIn_deep (P:=Tryz.prog) 9990 10 131 (by kernel_rfl);have q2:=q w 40 40 (.agg (strv K).toArray) (.agg (strv L).toArray) (K.map .string) (L.map .string);obtain ⟨r,g1,g2⟩:=q2 (hf K hK) (hf L hL) (by rw [f1]; exact keyLits_arr K hK h1) (by rw [f2]; exact keyLits_arr L hL h2);rw [lit_string_inj] at g2;have hr:r=decide (K=L):=by
  rw [Bool.eq_iff_iff,g2]; simp
 rw [←hr];exact g1
end
section
open Go.RowKit Go.Instr
attribute [local go_sem] ba_get ByteArray.mk_append_mk
def fineN (k:Nat) (p v:List UInt8) (K:List (List UInt8)):Bool:=
 if k=1 then decide (K=List.replicate 16 []) && pathOk p 0 && !v.isEmpty && decide (v.length≤32)
 else if k=2 then decide (K=K.getD 0 []::List.replicate 15 []) && sumsOk [K.getD 0 []] && pathOk p 1 && v.isEmpty
 else if k=3 then p.isEmpty && sumsOk (kidsW K) && decide (2≤(kidsW K).length+(if v.isEmpty then 0 else 1)) && decide (v.length≤32)
 else false
def nodeV (k:Nat) (p v:List UInt8) (K:List (List UInt8)):List Value:= .int .i64 (k:Int):: .string ⟨p.toArray⟩:: .string ⟨v.toArray⟩::strv K
def CheckEnd (w:World) (b:Bool) (e:Ending) (w':World):Prop:=e= .returned (.int .i64 (if b then 0 else 80))∧Below w.heap.size w w'
theorem info_node:(Tryz.prog.info? 133).map (·.size)=some 19:=by kernel_rfl
theorem nodeV_size {k:Nat} {p v:List UInt8} {K:List (List UInt8)} (hK:K.length=16):(nodeV k p v K).length=19:=by simp [nodeV,strv_length,hK]
theorem oneKid_eq (s:List UInt8):(strv (s::List.replicate 15 [])).toArray=#[.string ⟨s.toArray⟩,.string ⟨#[]⟩,.string ⟨#[]⟩,.string ⟨#[]⟩,.string ⟨#[]⟩,.string ⟨#[]⟩,.string ⟨#[]⟩,.string ⟨#[]⟩,.string ⟨#[]⟩,.string ⟨#[]⟩,.string ⟨#[]⟩,.string ⟨#[]⟩,.string ⟨#[]⟩,.string ⟨#[]⟩,.string ⟨#[]⟩,.string ⟨#[]⟩]:=rfl
structure NodeAt (w:World) (B:Nat) (k:Nat) (p v:List UInt8) (K:List (List UInt8)):Prop where
 c0:w.cell? ⟨B,0,none⟩=some (.int .i64 (k:Int))
 c1:w.cell? ⟨B,1,none⟩=some (p:Value)
 c2:w.cell? ⟨B,2,none⟩=some (v:Value)
 rng:w.rangeAt B 3 (strv K)
 all:w.rangeAt B 0 (nodeV k p v K)
theorem NodeAt.of {w:World} {B k:Nat} {p v:List UInt8} {K:List (List UInt8)} {C:List Value} {t:TypeId} (h:Blk w B t (nodeV k p v K++C).toArray):NodeAt w B k p v K:=by
 have hc:=fun i=>h.cell i;have hr:w.rangeAt B 0 (nodeV k p v K):=fun j u hu=>by
  rw [hc,Nat.zero_add];simp only [List.getElem?_toArray];rw [List.getElem?_append_left (by
   rcases Nat.lt_or_ge j (nodeV k p v K).length with hl|hl
   ·exact hl
   ·rw [List.getElem?_eq_none hl] at hu; cases hu)]
  exact hu
 exact ⟨hr 0 _ rfl,hr 1 _ rfl,hr 2 _ rfl,fun j u hu=>by
  have:=hr (j+3) u (by simpa [nodeV] using hu)
  rwa [show 0+(j+3)=3+j by omega] at this,hr⟩
theorem check_leaf (p v:List UInt8) (hp:p.length≤1048576) (hv:v.length≤9223372036854775000) (K:List (List UInt8)) (hK:K.length=16) (hKs:∀ s∈K,s.length≤9223372036854775807) (w:World):
  Calls Tryz.prog 152 #[.agg (nodeV 1 p v K).toArray] w (CheckEnd w (fineN 1 p v K)):=by
 have HP:Hid (∀ b w',fineN 1 p v K=b→Below w.heap.size w w'→CheckEnd w (fineN 1 p v K) (.returned (.int .i64 (if b then 0 else 80))) w'):=ι (fun b w' h1 h2=>⟨by rw [h1],h2⟩);have HC:=node_Kids (nk:= .int .i64 1) (np:= .string ⟨p.toArray⟩) (nv:= .string ⟨v.toArray⟩) (h1:=rfl) (h2:=rfl) (h3:=rfl) (K:=K) (hK:=hK);have HPath:=fun w=>node_path p 0 (by omega) hp w;have EQ:=fun w=>kids_eql K (List.replicate 16 []) hK rfl hKs (by simp) w;rw [noKidsV_eq] at EQ;unfold noKidsV at EQ;have HSz:=ι (nodeV_size (k:=1) (p:=p) (v:=v) hK);have HSk:=ι (strv_length K);have HF:Hid (fineN 1 p v K=(decide (K=List.replicate 16 []) && pathOk p 0 && !v.isEmpty && decide (v.length≤32))):=ι (by simp [fineN]);generalize CheckEnd w (fineN 1 p v K)=P at HP ⊢;generalize fineN 1 p v K=fb at *;generalize pathOk p 0=b1 at *;generalize decide (K=List.replicate 16 [])=b0 at *;go_enter Tryz.func152,Tryz.ntmps152
 go_upto_region 1 with fail
 have SZ:(Tryz.prog.info? 133).map (·.size)=some (nodeV 1 p v K).length:=by rw [HSz.out]; exact info_node
 have SZ2:(Tryz.prog.info? 131).map (·.size)=some (strv K).length:=by rw [HSk.out,hK]; exact size_arr
 have F0:Hid (Blk (w.alloc (.cells (nodeV 1 p v K).toArray 133)) w.heap.size 133 (nodeV 1 p v K).toArray∧Below w.heap.size w (w.alloc (.cells (nodeV 1 p v K).toArray 133))):=ι ⟨Blk.new _ _ _,by go_grown⟩;generalize w.alloc (.cells (nodeV 1 p v K).toArray 133)=W0 at F0 ⊢;have HB:=ι (show w.heap.size<W0.heap.size from F0.out.1.lt);obtain ⟨_,_,_,_,RA⟩:=NodeAt.of (C:= []) (by rw [List.append_nil]; exact F0.out.1);generalize hB:w.heap.size=B at *;clear hB;go_upto_region 2 with (first|(refine wpList_load_mid rfl 133 _ rfl B 0 rfl _ _ RA Tryz.underlying133 rfl SZ ?_)|(go_at_call 138; refine (HC _).mono ?_; rintro e w1 ⟨A,c,n,rfl,hn,own,hb⟩; have OWN:=ι (And.intro hn own); clear hn own))
 have F1:=ι (show Below B w w1 from by have:=F0.out.2.trans (hb.mono (Nat.le_of_lt HB.out)); exact this);obtain ⟨_,q1,q2,RK,_⟩:=NodeAt.of (C:= []) (by rw [List.append_nil]; exact F0.out.1.below hb HB.out);have HB1:B<w1.heap.size:=Nat.lt_of_lt_of_le HB.out hb.size;clear hb F0 RA SZ;have T:Hid (∀ b w',fb=b→Below B w w'→P (Ending.returned (.int .i64 (if b then 0 else 80))) w'):=HP;clear HP;cases b0 with
 |false=>
  go_wp2_with (refine wpList_load_mid rfl 131 _ rfl B 3 rfl _ _ RK Tryz.underlying131 rfl SZ2 ?_)
  exact T.out false _ (by rw [HF.out]; try rfl) F1.out
 |true=>
  cases b1 with
  |false=>
   go_wp2_with (first|(refine wpList_load_mid rfl 131 _ rfl B 3 rfl _ _ RK Tryz.underlying131 rfl SZ2 ?_)|(go_at_call 183; refine (HPath _).mono ?_; rintro e w2 ⟨rfl,rfl⟩))
   exact T.out false _ (by rw [HF.out]; try rfl) F1.out
  |true=>
   by_cases hv0:v= []
   ·subst hv0;go_wp2_with (first|(refine wpList_load_mid rfl 131 _ rfl B 3 rfl _ _ RK Tryz.underlying131 rfl SZ2 ?_)|(go_at_call 183; refine (HPath _).mono ?_; rintro e w2 ⟨rfl,rfl⟩))
    exact T.out false _ (by rw [HF.out]; try rfl) F1.out
   ·have ne1:(v.toArray=#[])=False:=by simp [hv0]
    have HE:v.isEmpty=false:=by simp [hv0]
    by_cases h32:v.length≤32
    ·have h32':(v.length:Int)≤32:=by omega
     go_wp2_with (first|(refine wpList_load_mid rfl 131 _ rfl B 3 rfl _ _ RK Tryz.underlying131 rfl SZ2 ?_)|(go_at_call 183; refine (HPath _).mono ?_; rintro e w2 ⟨rfl,rfl⟩))
     exact T.out true _ (by rw [HF.out,HE]; simp [h32]) F1.out
    ·have h32':((v.length:Int)≤32)=False:=by simp; omega
     go_wp2_with (first|(refine wpList_load_mid rfl 131 _ rfl B 3 rfl _ _ RK Tryz.underlying131 rfl SZ2 ?_)|(go_at_call 183; refine (HPath _).mono ?_; rintro e w2 ⟨rfl,rfl⟩))
     exact T.out false _ (by rw [HF.out,HE]; simp [h32]) F1.out
theorem check_ext (p v:List UInt8) (hp:p.length≤1048576) (hv:v.length≤9223372036854775000) (K:List (List UInt8)) (hK:K.length=16) (hKs:∀ s∈K,s.length≤9223372036854775807) (w:World):
  Calls Tryz.prog 152 #[.agg (nodeV 2 p v K).toArray] w (CheckEnd w (fineN 2 p v K)):=by
 have HP:Hid (∀ b w',fineN 2 p v K=b→Below w.heap.size w w'→CheckEnd w (fineN 2 p v K) (.returned (.int .i64 (if b then 0 else 80))) w'):=ι (fun b w' h1 h2=>⟨by rw [h1],h2⟩);have HC:=node_Kids (nk:= .int .i64 2) (np:= .string ⟨p.toArray⟩) (nv:= .string ⟨v.toArray⟩) (h1:=rfl) (h2:=rfl) (h3:=rfl) (K:=K) (hK:=hK);have HSz:=ι (nodeV_size (k:=2) (p:=p) (v:=v) hK);have HSk:=ι (strv_length K);have HPath:=fun w=>node_path p 1 (by omega) hp w;have EQ:=fun w=>kids_eql K (K.getD 0 []::List.replicate 15 []) hK rfl hKs (by
  intro s hs;rcases List.mem_cons.1 hs with rfl|hs
  ·rcases K with _|⟨a,K⟩
   ·simp at hK
   ·exact hKs _ (by simp)
  ·rw [List.eq_of_mem_replicate hs]; simp) w
 rw [oneKid_eq] at EQ;have HK0:=ι (strv_at (l:=K) (i:=0) (by omega));have HK1:=ι (show K[0]'(by omega)=K.getD 0 [] by rw [List.getD_eq_getElem?_getD,List.getElem?_eq_getElem (show 0<K.length by omega)]; rfl);have HSums:=node_sums [K.getD 0 []] (by simp);have HF:Hid (fineN 2 p v K=(decide (K=K.getD 0 []::List.replicate 15 []) && sumsOk [K.getD 0 []] && pathOk p 1 && v.isEmpty)):=ι (by simp [fineN]);generalize CheckEnd w (fineN 2 p v K)=P at HP ⊢;generalize fineN 2 p v K=fb at *;generalize pathOk p 1=b1 at *;generalize sumsOk [K.getD 0 []]=b2 at *;generalize decide (K=K.getD 0 []::List.replicate 15 [])=b0 at *;go_enter Tryz.func152,Tryz.ntmps152
 go_upto_region 1 with fail
 have SZ:(Tryz.prog.info? 133).map (·.size)=some (nodeV 2 p v K).length:=by rw [HSz.out]; exact info_node
 have SZ2:(Tryz.prog.info? 131).map (·.size)=some (strv K).length:=by rw [HSk.out,hK]; exact size_arr
 have F0:Hid (Blk (w.alloc (.cells (nodeV 2 p v K).toArray 133)) w.heap.size 133 (nodeV 2 p v K).toArray∧Below w.heap.size w (w.alloc (.cells (nodeV 2 p v K).toArray 133))):=ι ⟨Blk.new _ _ _,by go_grown⟩;generalize w.alloc (.cells (nodeV 2 p v K).toArray 133)=W0 at F0 ⊢;have HB:=ι (show w.heap.size<W0.heap.size from F0.out.1.lt);obtain ⟨_,_,_,_,RA⟩:=NodeAt.of (C:= []) (by rw [List.append_nil]; exact F0.out.1);generalize hB:w.heap.size=B at *;clear hB;go_upto_region 2 with (first|(refine wpList_load_mid rfl 133 _ rfl B 0 rfl _ _ RA Tryz.underlying133 rfl SZ ?_)|(go_at_call 138; refine (HC _).mono ?_; rintro e w1 ⟨A,c,n,rfl,hn,own,hb⟩; have OWN:=ι (And.intro hn own); clear hn own))
 have F1:=ι (show Below B w w1 from by have:=F0.out.2.trans (hb.mono (Nat.le_of_lt HB.out)); exact this);obtain ⟨_,q1,q2,RK,_⟩:=NodeAt.of (C:= []) (by rw [List.append_nil]; exact F0.out.1.below hb HB.out);have HB1:B<w1.heap.size:=Nat.lt_of_lt_of_le HB.out hb.size;clear hb F0 RA SZ;have T:Hid (∀ b w',fb=b→Below B w w'→P (Ending.returned (.int .i64 (if b then 0 else 80))) w'):=HP;clear HP;have q3:w1.cell? ⟨B,3,none⟩=some (.string ⟨(K.getD 0 []).toArray⟩):=by
  have:=RK 0 _ HK0.out
  rwa [HK1.out] at this
 have HS1:=HSums w1 (some ⟨B,3,none⟩) 16 ⟨by simp [strv],fun _=>⟨_,rfl,HB1,fun j u hu=>by
  rcases j with _|j
  ·rw [Addr.add_mid]; simp [strv] at hu; rw [←hu]; exact q3
  ·simp [strv] at hu⟩⟩
 clear HSums HK0 HK1;generalize K.getD 0 []=s0 at *
 replace HS1:Calls Tryz.prog 184 #[.slice (some ⟨B,3,none⟩) 1 16] w1 fun e w'=>e= .returned (.bool b2)∧w1=w':=HS1
 cases b0 with
 |false=>
  go_wp2_with (refine wpList_load_mid rfl 131 _ rfl B 3 rfl _ _ RK Tryz.underlying131 rfl SZ2 ?_)
  exact T.out false _ (by rw [HF.out]; try rfl) F1.out
 |true=>
  cases b2 with
  |false=>
   go_wp2_with (first|(refine wpList_load_mid rfl 131 _ rfl B 3 rfl _ _ RK Tryz.underlying131 rfl SZ2 ?_)|(go_at_call 184; refine HS1.mono ?_; rintro e w2 ⟨rfl,rfl⟩))
   exact T.out false _ (by rw [HF.out]; try rfl) F1.out
  |true=>
   cases b1 with
   |false=>
    go_wp2_with (first|(refine wpList_load_mid rfl 131 _ rfl B 3 rfl _ _ RK Tryz.underlying131 rfl SZ2 ?_)|(go_at_call 184; refine HS1.mono ?_; rintro e w2 ⟨rfl,rfl⟩)|(go_at_call 183; refine (HPath _).mono ?_; rintro e w2 ⟨rfl,rfl⟩))
    exact T.out false _ (by rw [HF.out]; try rfl) F1.out
   |true=>
    by_cases hv0:v= []
    ·subst hv0;go_wp2_with (first|(refine wpList_load_mid rfl 131 _ rfl B 3 rfl _ _ RK Tryz.underlying131 rfl SZ2 ?_)|(go_at_call 184; refine HS1.mono ?_; rintro e w2 ⟨rfl,rfl⟩)|(go_at_call 183; refine (HPath _).mono ?_; rintro e w2 ⟨rfl,rfl⟩))
     exact T.out true _ (by rw [HF.out]; try rfl) F1.out
    ·have ne1:(v.toArray=#[])=False:=by simp [hv0]
     have HE:v.isEmpty=false:=by simp [hv0]
     go_wp2_with (first|(refine wpList_load_mid rfl 131 _ rfl B 3 rfl _ _ RK Tryz.underlying131 rfl SZ2 ?_)|(go_at_call 184; refine HS1.mono ?_; rintro e w2 ⟨rfl,rfl⟩)|(go_at_call 183; refine (HPath _).mono ?_; rintro e w2 ⟨rfl,rfl⟩))
     exact T.out false _ (by rw [HF.out,HE]; try rfl) F1.out
theorem check_branch (p v:List UInt8) (hp:p.length≤1048576) (hv:v.length≤9223372036854775000) (K:List (List UInt8)) (hK:K.length=16) (hKs:∀ s∈K,s.length≤9223372036854775807) (w:World):
  Calls Tryz.prog 152 #[.agg (nodeV 3 p v K).toArray] w (CheckEnd w (fineN 3 p v K)):=by
 have HP:Hid (∀ b w',fineN 3 p v K=b→Below w.heap.size w w'→CheckEnd w (fineN 3 p v K) (.returned (.int .i64 (if b then 0 else 80))) w'):=ι (fun b w' h1 h2=>⟨by rw [h1],h2⟩);have HC:=node_Kids (nk:= .int .i64 3) (np:= .string ⟨p.toArray⟩) (nv:= .string ⟨v.toArray⟩) (h1:=rfl) (h2:=rfl) (h3:=rfl) (K:=K) (hK:=hK);have HSz:=ι (nodeV_size (k:=3) (p:=p) (v:=v) hK);have HSk:=ι (strv_length K);have HSums:=node_sums (kidsW K) (by
  have:=List.length_filter_le (fun s:List UInt8=> !s.isEmpty) K
  unfold kidsW; omega)
 have HF:Hid (fineN 3 p v K=(p.isEmpty && sumsOk (kidsW K) && decide (2≤(kidsW K).length+(if v.isEmpty then 0 else 1)) && decide (v.length≤32))):=ι (by simp [fineN]);generalize CheckEnd w (fineN 3 p v K)=P at HP ⊢;generalize fineN 3 p v K=fb at *;go_enter Tryz.func152,Tryz.ntmps152
 go_upto_region 1 with fail
 have SZ:(Tryz.prog.info? 133).map (·.size)=some (nodeV 3 p v K).length:=by rw [HSz.out]; exact info_node
 have SZ2:(Tryz.prog.info? 131).map (·.size)=some (strv K).length:=by rw [HSk.out,hK]; exact size_arr
 have F0:Hid (Blk (w.alloc (.cells (nodeV 3 p v K).toArray 133)) w.heap.size 133 (nodeV 3 p v K).toArray∧Below w.heap.size w (w.alloc (.cells (nodeV 3 p v K).toArray 133))):=ι ⟨Blk.new _ _ _,by go_grown⟩;generalize w.alloc (.cells (nodeV 3 p v K).toArray 133)=W0 at F0 ⊢;have HB:=ι (show w.heap.size<W0.heap.size from F0.out.1.lt);obtain ⟨_,_,_,_,RA⟩:=NodeAt.of (C:= []) (by rw [List.append_nil]; exact F0.out.1);generalize hB:w.heap.size=B at *;clear hB;go_upto_region 2 with (first|(refine wpList_load_mid rfl 133 _ rfl B 0 rfl _ _ RA Tryz.underlying133 rfl SZ ?_)|(go_at_call 138; refine (HC _).mono ?_; rintro e w1 ⟨A,c,n,rfl,hn,own,hb⟩; have OWN:=ι (And.intro hn own); clear hn own))
 have F1:=ι (show Below B w w1 from by have:=F0.out.2.trans (hb.mono (Nat.le_of_lt HB.out)); exact this);obtain ⟨_,q1,q2,RK,_⟩:=NodeAt.of (C:= []) (by rw [List.append_nil]; exact F0.out.1.below hb HB.out);have HB1:B<w1.heap.size:=Nat.lt_of_lt_of_le HB.out hb.size;clear hb F0 RA SZ;have T:Hid (∀ b w',fb=b→Below B w w'→P (Ending.returned (.int .i64 (if b then 0 else 80))) w'):=HP;clear HP;have RS:Hid (Reads w1 w1.heap.size 1 A n (strv (kidsW K))):=ι (Reads.of_own OWN.out.2);have hn:=OWN.out.1;clear OWN;have hk16:(kidsW K).length≤16:=by
  have:=List.length_filter_le (fun s:List UInt8=> !s.isEmpty) K
  unfold kidsW; omega
 replace HSums:Calls Tryz.prog 184 #[.slice A n c] w1 fun e w'=>e= .returned (.bool (sumsOk (kidsW K)))∧w1=w':=by
  rw [hn]; exact HSums w1 A c (by rw [←hn]; exact RS.out)
 rw [←hn] at HF hk16;clear hn RS;generalize sumsOk (kidsW K)=b1 at *;by_cases hp0:p= []
 ·subst hp0;cases b1 with
  |false=>
   by_cases hv0:v= []
   ·subst hv0;go_wp2_with (go_at_call 184; refine HSums.mono ?_; rintro e w2 ⟨rfl,rfl⟩)
    exact T.out false _ (by rw [HF.out]; try rfl) F1.out
   ·have ne1:(v.toArray=#[])=False:=by simp [hv0]
    have HE:v.isEmpty=false:=by simp [hv0]
    go_wp2_with (go_at_call 184; refine HSums.mono ?_; rintro e w2 ⟨rfl,rfl⟩)
    exact T.out false _ (by rw [HF.out]; try rfl) F1.out
  |true=>
   by_cases hv0:v= []
   ·subst hv0;by_cases h2:2≤n
    ·have h2':(2:Int)≤n:=by omega
     go_wp2_with (go_at_call 184; refine HSums.mono ?_; rintro e w2 ⟨rfl,rfl⟩)
     exact T.out true _ (by rw [HF.out]; simp [h2]) F1.out
    ·have h2':((2:Int)≤n)=False:=by simp; omega
     go_wp2_with (go_at_call 184; refine HSums.mono ?_; rintro e w2 ⟨rfl,rfl⟩)
     exact T.out false _ (by rw [HF.out]; simp [h2]) F1.out
   ·have ne1:(v.toArray=#[])=False:=by simp [hv0]
    have HE:v.isEmpty=false:=by simp [hv0]
    by_cases h2:1≤n
    ·have h2':(2:Int)≤n+1:=by omega
     have h2'':(1:Int)≤n:=by omega
     by_cases h32:v.length≤32
     ·have h32':(v.length:Int)≤32:=by omega
      go_wp2_with (go_at_call 184; refine HSums.mono ?_; rintro e w2 ⟨rfl,rfl⟩)
      exact T.out true _ (by rw [HF.out,HE]; simp [h2,h32]) F1.out
     ·have h32':((v.length:Int)≤32)=False:=by simp; omega
      go_wp2_with (go_at_call 184; refine HSums.mono ?_; rintro e w2 ⟨rfl,rfl⟩)
      exact T.out false _ (by rw [HF.out,HE]; simp [h2,h32]) F1.out
    ·have h2':((2:Int)≤n+1)=False:=by simp; omega
     have h2'':((1:Int)≤n)=False:=by simp; omega
     go_wp2_with (go_at_call 184; refine HSums.mono ?_; rintro e w2 ⟨rfl,rfl⟩)
     exact T.out false _ (by rw [HF.out,HE]; simp [h2]) F1.out
 ·have ne0:(p.toArray=#[])=False:=by simp [hp0]
  have HE0:p.isEmpty=false:=by simp [hp0]
  by_cases hv0:v= []
  ·subst hv0;go_wp2
   exact T.out false _ (by rw [HF.out,HE0]; try rfl) F1.out
  ·have ne1:(v.toArray=#[])=False:=by simp [hv0]
   have HE:v.isEmpty=false:=by simp [hv0]
   go_wp2
   exact T.out false _ (by rw [HF.out,HE0]; try rfl) F1.out
theorem check_odd (p v:List UInt8) (hp:p.length≤1048576) (hv:v.length≤9223372036854775000) (K:List (List UInt8)) (hK:K.length=16) (hKs:∀ s∈K,s.length≤9223372036854775807) (k:Nat) (k1:k≠1) (k2:k≠2) (k3:k≠3) (w:World):
  Calls Tryz.prog 152 #[.agg (nodeV k p v K).toArray] w (CheckEnd w (fineN k p v K)):=by
 have HP:Hid (∀ b w',fineN k p v K=b→Below w.heap.size w w'→CheckEnd w (fineN k p v K) (.returned (.int .i64 (if b then 0 else 80))) w'):=ι (fun b w' h1 h2=>⟨by rw [h1],h2⟩);have HC:=node_Kids (nk:= .int .i64 k) (np:= .string ⟨p.toArray⟩) (nv:= .string ⟨v.toArray⟩) (h1:=rfl) (h2:=rfl) (h3:=rfl) (K:=K) (hK:=hK);have HSz:=ι (nodeV_size (k:=k) (p:=p) (v:=v) hK);have HSk:=ι (strv_length K);have HF:Hid (fineN k p v K=false):=ι (by simp [fineN,k1,k2,k3]);have e1:((k:Int)==1)=false:=by simp; omega
 have e2:((k:Int)==2)=false:=by simp; omega
 have e3:((k:Int)==3)=false:=by simp; omega
 clear k1 k2 k3;generalize CheckEnd w (fineN k p v K)=P at HP ⊢;generalize fineN k p v K=fb at *;go_enter Tryz.func152,Tryz.ntmps152
 go_upto_region 1 with fail
 have SZ:(Tryz.prog.info? 133).map (·.size)=some (nodeV k p v K).length:=by rw [HSz.out]; exact info_node
 have SZ2:(Tryz.prog.info? 131).map (·.size)=some (strv K).length:=by rw [HSk.out,hK]; exact size_arr
 have F0:Hid (Blk (w.alloc (.cells (nodeV k p v K).toArray 133)) w.heap.size 133 (nodeV k p v K).toArray∧Below w.heap.size w (w.alloc (.cells (nodeV k p v K).toArray 133))):=ι ⟨Blk.new _ _ _,by go_grown⟩;generalize w.alloc (.cells (nodeV k p v K).toArray 133)=W0 at F0 ⊢;have HB:=ι (show w.heap.size<W0.heap.size from F0.out.1.lt);obtain ⟨_,_,_,_,RA⟩:=NodeAt.of (C:= []) (by rw [List.append_nil]; exact F0.out.1);generalize hB:w.heap.size=B at *;clear hB;go_upto_region 2 with (first|(refine wpList_load_mid rfl 133 _ rfl B 0 rfl _ _ RA Tryz.underlying133 rfl SZ ?_)|(go_at_call 138; refine (HC _).mono ?_; rintro e w1 ⟨A,c,n,rfl,hn,own,hb⟩; have OWN:=ι (And.intro hn own); clear hn own))
 have F1:=ι (show Below B w w1 from by have:=F0.out.2.trans (hb.mono (Nat.le_of_lt HB.out)); exact this);obtain ⟨_,q1,q2,RK,_⟩:=NodeAt.of (C:= []) (by rw [List.append_nil]; exact F0.out.1.below hb HB.out);have HB1:B<w1.heap.size:=Nat.lt_of_lt_of_le HB.out hb.size;clear hb F0 RA SZ;have T:Hid (∀ b w',fb=b→Below B w w'→P (Ending.returned (.int .i64 (if b then 0 else 80))) w'):=HP;clear HP;go_wp2
 exact T.out false _ HF.out F1.out
theorem node_Check (k:Nat) (p v:List UInt8) (hp:p.length≤1048576) (hv:v.length≤9223372036854775000) (K:List (List UInt8)) (hK:K.length=16) (hKs:∀ s∈K,s.length≤9223372036854775807) (w:World):
  Calls Tryz.prog 152 #[.agg (nodeV k p v K).toArray] w (CheckEnd w (fineN k p v K)):=by
 by_cases h1:k=1
 ·subst h1; exact check_leaf p v hp hv K hK hKs w
 ·by_cases h2:k=2
  ·subst h2; exact check_ext p v hp hv K hK hKs w
  ·by_cases h3:k=3
   ·subst h3; exact check_branch p v hp hv K hK hKs w
   ·exact check_odd p v hp hv K hK hKs k h1 h2 h3 w
def bitsTo (K:List (List UInt8)):Nat→Nat
 |0=>0
 |i+1=>bitsTo K i+(if (K.getD i []).isEmpty then 0 else 2 ^ (15 - i))
theorem bitsTo_mod (K:List (List UInt8)):∀ i,i≤16→bitsTo K i % 2 ^ (16 - i)=0∧bitsTo K i+2 ^ (16 - i)≤65536
 |0,_=>by simp [bitsTo]
 |i+1,h=>by
  obtain ⟨h1,h2⟩:=bitsTo_mod K i (by omega);have e:(2:Nat) ^ (16 - i)=2*2 ^ (16 - (i+1)):=by
   rw [←Nat.pow_succ']; congr 1; omega
  have e2:15 - i=16 - (i+1):=by omega
  simp only [bitsTo];rw [e2];generalize 2 ^ (16 - (i+1))=z at *;rw [e] at h1 h2;have h3:=Nat.dvd_of_mod_eq_zero h1;obtain ⟨c,hc⟩:=h3
  split
  ·refine ⟨?_,by omega⟩;rw [hc,Nat.add_zero,Nat.mul_assoc,Nat.mul_comm 2,Nat.mul_assoc]; exact Nat.mul_mod_right _ _
  ·refine ⟨?_,by omega⟩;rw [hc,Nat.mul_assoc,Nat.mul_comm 2,Nat.mul_assoc,←Nat.mul_succ]; exact Nat.mul_mod_right _ _
theorem bitsTo_or (K:List (List UInt8)) (i:Nat) (h:i<16):bitsTo K i|||2 ^ (15 - i)=bitsTo K i+2 ^ (15 - i):=by
 obtain ⟨h1,_⟩:=bitsTo_mod K i (by omega);obtain ⟨c,hc⟩:=Nat.dvd_of_mod_eq_zero h1;rw [hc];exact (Nat.two_pow_add_eq_or_of_lt (Nat.pow_lt_pow_right (by omega) (by omega)) c).symm
theorem node_bits (K:List (List UInt8)) (hK:K.length=16) (w0:World)
  (Q:Exit→Act→World→Prop) (B:Nat) (T0:ByteArray)
  (hQ:∀ ⦃s0 s2 s3 s4 s7 s8 s9 s1 s5 s6 a0 a2 a3 a4 a5 a6 a7 a8 a9 b0 b1 b2 b3 b4 b5 b6 b7 b8 b9 c0 c1 c2 c3 c4 c5 c6 c7 c8 c9 d0 d1 d2 d3 d4 d5 d6 d7 d8 d9 e2 e3 e4 e5 e6 e7 e8 e9 f0 f1 f2 f3 f4 f5 f6 f7 f8 f9 g0 g1 g2 g3 g4 g5 g6 g7 g8 g9 h0 h3 h4 h5 h6 h7 h8 h9 i0 i1 i2:Value⦄ (n:Nat),n=bitsTo K 16→Q (.exit 0) {tmps:=#[s0,.pointer (some ⟨B,0,none⟩),s2,s3,s4,.string T0,.int .i64 (n:Int),s7,s8,s9,s1,s5,s6,a0,a2,a3,a4,a5,a6,a7,a8,a9,b0,b1,b2,b3,b4,b5,b6,b7,b8,b9,c0,c1,c2,c3,c4,c5,c6,c7,c8,c9,d0,d1,d2,d3,d4,d5,d6,d7,d8,d9,e2,e3,e4,e5,e6,e7,e8,e9,f0,f1,f2,f3,f4,f5,f6,f7,f8,f9,g0,g1,g2,g3,g4,g5,g6,g7,g8,g9,h0,h3,h4,h5,h6,h7,h8,h9,i0,i1,i2],defers:= []} w0)
  (s0 s2 s3 s4 s7 s8 s9 s1 s5 s6 a0 a2 a3 a4 a5 a6 a7 a8 a9 b0 b1 b2 b3 b4 b7 b8 b9 c0 c1 c2 c3 c4 c5 c6 c7 c8 c9 d0 d1 d2 d3 d4 d5 d6 d7 d8 d9 e2 e3 e4 e5 e6 e7 e8 e9 f0 f1 f2 f3 f4 f5 f6 f7 f8 f9 g0 g1 g2 g3 g4 g5 g6 g7 g8 g9 h0 h3 h4 h5 h6 h7 h8 h9 i0 i1 i2:Value):
  Code.wp Tryz.prog (.loop (loopAt Tryz.f163 0)) Q {tmps:=#[s0,.pointer (some ⟨B,0,none⟩),s2,s3,s4,.string T0,.int .i64 0,s7,s8,s9,s1,s5,s6,a0,a2,a3,a4,a5,a6,a7,a8,a9,b0,b1,b2,b3,b4,.agg (strv K).toArray,.int .i64 0,b7,b8,b9,c0,c1,c2,c3,c4,c5,c6,c7,c8,c9,d0,d1,d2,d3,d4,d5,d6,d7,d8,d9,e2,e3,e4,e5,e6,e7,e8,e9,f0,f1,f2,f3,f4,f5,f6,f7,f8,f9,g0,g1,g2,g3,g4,g5,g6,g7,g8,g9,h0,h3,h4,h5,h6,h7,h8,h9,i0,i1,i2],defers:= []} w0:=by
 have HQ:=ι hQ;clear hQ;refine wp_loop_ghost_k (fun k a wr=>∀ Φ:Act→Prop,(∀ ⦃s0 s2 s3 s4 s7 s8 s9 s1 s5 s6 a0 a2 a3 a4 a5 a6 a7 a8 a9 b0 b1 b2 b3 b4 b7 b8 b9 c0 c1 c2 c3 c4 c5 c6 c7 c8 c9 d0 d1 d2 d3 d4 d5 d6 d7 d8 d9 e2 e3 e4 e5 e6 e7 e8 e9 f0 f1 f2 f3 f4 f5 f6 f7 f8 f9 g0 g1 g2 g3 g4 g5 g6 g7 g8 g9 h0 h3 h4 h5 h6 h7 h8 h9 i0 i1 i2:Value⦄ (i m:Nat),(i+k=16∧m=bitsTo K i∧wr=w0)→Φ {tmps:=#[s0,.pointer (some ⟨B,0,none⟩),s2,s3,s4,.string T0,.int .i64 (m:Int),s7,s8,s9,s1,s5,s6,a0,a2,a3,a4,a5,a6,a7,a8,a9,b0,b1,b2,b3,b4,.agg (strv K).toArray,.int .i64 (i:Int),b7,b8,b9,c0,c1,c2,c3,c4,c5,c6,c7,c8,c9,d0,d1,d2,d3,d4,d5,d6,d7,d8,d9,e2,e3,e4,e5,e6,e7,e8,e9,f0,f1,f2,f3,f4,f5,f6,f7,f8,f9,g0,g1,g2,g3,g4,g5,g6,g7,g8,g9,h0,h3,h4,h5,h6,h7,h8,h9,i0,i1,i2],defers:= []})→Φ a) (16) ?_ ?_
 ·refine fun Φ hΦ=>hΦ (0) (0) ?_;exact ⟨rfl,rfl,rfl⟩
 ·intro k1 a1 wr1 hI1 J1 K1 hJ1 hK1;refine hI1 (fun a=>Code.wp _ _ _ a _) ?_;clear hI1 a1;iterate 86 (intro _)
  intro i m hrel
  show Code.wp _ _ _ _ _
  conv=>arg 2; whnf
  obtain ⟨h1,h2,rfl⟩:=hrel;by_cases hi:i<16
  ·have hi1:(i:Int)<16:=by omega
   have HX:=fun w=>run_index_k K hK i hi w;have hb:=ι (show bitsTo K (i+1)=bitsTo K i+(if (K.getD i []).isEmpty then 0 else 2 ^ (15 - i)) from rfl);have ho:=ι (bitsTo_or K i hi);have hm2:m≤65536:=by rw [h2]; have:=(bitsTo_mod K i (by omega)).2; generalize 2 ^ (16 - i)=z at *; omega
   have HI:=ι (And.intro h1 h2);clear h1 h2;generalize K.getD i []=s at *;cases s with
   |nil=>
    go_wp2
    refine Handed.intro (16 - (i+1)) ?_ (hJ1 _ _ _ (fun Φ hΦ=>hΦ (i+1) (m) ?_))
    ·have:=HI.out.1; omega
    ·refine ⟨by have:=HI.out.1; omega,by rw [hb.out,←HI.out.2]; rfl,rfl⟩
   |cons a t=>
    have ne1:((a::t).toArray=#[])=False:=by simp
    have ne2:(a::t).isEmpty=false:=rfl;generalize hs:(a::t)=s at *;have hsh:(15:Int) - i<64:=by omega
    have hsh0:(0:Int)≤15 - i:=by omega
    have HOR:Hid (bits BinOp.or .i64 (m:Int) (wrap64 ((2:Int) ^ (15 - i)))=((m+2 ^ (15 - i):Nat):Int)):=by
     have e0:(2:Nat) ^ (15 - i)≤2 ^ 15:=Nat.pow_le_pow_right (by omega) (by omega);have e1:((2:Int) ^ (15 - i))=((2 ^ (15 - i):Nat):Int):=by simp
     rw [e1];have HO:=ho.out;rw [←HI.out.2] at HO;generalize (2:Nat) ^ (15 - i)=z at *;rw [IntWalk.wrap64_in _ (by constructor<;>omega),i64_or_nat m _ (by omega) (by omega),HO];exact ι rfl
    go_wp2
    rw [HOR.out];refine Handed.intro (16 - (i+1)) ?_ (hJ1 _ _ _ (fun Φ hΦ=>hΦ (i+1) (m+2 ^ (15 - i)) ?_))
    ·have:=HI.out.1; omega
    ·refine ⟨by have:=HI.out.1; omega,by rw [hb.out,←HI.out.2,ne2]; rfl,rfl⟩
  ·have e16:i=16:=by omega
   subst e16;have H2:=ι h2;clear h2 h1;go_wp2
   exact HQ.out _ H2.out
theorem node_cat (D:List (List UInt8)) (hD:D.length≤16) (h32:∀ s∈D,s.length≤32) (T:List UInt8) (hT:T.length≤100000) (w0:World) (A:Option Addr) (c:Nat) (HR:Reads w0 w0.heap.size 1 A D.length (strv D))
  (Q:Exit→Act→World→Prop) (B:Nat)
  (hQ:∀ ⦃s0 s2 s3 s4 s6 s7 s8 s9 s1 s5 a0 a2 a3 a4 a5 a6 a7 a8 a9 b0 b1 b2 b3 b4 b5 b6 b7 b8 b9 c0 c1 c2 c3 c4 c5 c6 c7 c8 c9 d0 d1 d2 d3 d4 d5 d6 d7 d8 d9 e0 e1 e2 e3 e4 e5 e6 e7 e8 e9 f0 f1 f2 f3 f4 f5 f6 f7 f8 f9 g0 g1 g2 g3 g4 g5 g6 g7 g8 g9 h0 h4 h5 h6 h7 h8 h9 i0 i1 i2:Value⦄ (S:List UInt8),S=T++D.flatten→Q (.exit 2) {tmps:=#[s0,.pointer (some ⟨B,0,none⟩),s2,s3,s4,.string ⟨S.toArray⟩,s6,s7,s8,s9,s1,s5,a0,a2,a3,a4,a5,a6,a7,a8,a9,b0,b1,b2,b3,b4,b5,b6,b7,b8,b9,c0,c1,c2,c3,c4,c5,c6,c7,c8,c9,d0,d1,d2,d3,d4,d5,d6,d7,d8,d9,e0,e1,e2,e3,e4,e5,e6,e7,e8,e9,f0,f1,f2,f3,f4,f5,f6,f7,f8,f9,g0,g1,g2,g3,g4,g5,g6,g7,g8,g9,h0,h4,h5,h6,h7,h8,h9,i0,i1,i2],defers:= []} w0)
  (s0 s2 s3 s4 s6 s7 s8 s9 s1 s5 a0 a2 a3 a4 a5 a6 a7 a8 a9 b0 b1 b2 b3 b4 b5 b6 b7 b8 b9 c0 c1 c2 c3 c4 c5 c6 c7 c8 c9 d0 d1 d2 d3 d4 d5 d6 d7 d8 e2 e3 e4 e5 e6 e7 e8 e9 f0 f1 f2 f3 f4 f5 f6 f7 f8 f9 g0 g1 g2 g3 g4 g5 g6 g7 g8 g9 h0 h4 h5 h6 h7 h8 h9 i0 i1 i2:Value):
  Code.wp Tryz.prog (.loop (loopAt Tryz.f163 1)) Q {tmps:=#[s0,.pointer (some ⟨B,0,none⟩),s2,s3,s4,.string ⟨T.toArray⟩,s6,s7,s8,s9,s1,s5,a0,a2,a3,a4,a5,a6,a7,a8,a9,b0,b1,b2,b3,b4,b5,b6,b7,b8,b9,c0,c1,c2,c3,c4,c5,c6,c7,c8,c9,d0,d1,d2,d3,d4,d5,d6,d7,d8,.slice A D.length c,.int .i64 D.length,.int .i64 0,e2,e3,e4,e5,e6,e7,e8,e9,f0,f1,f2,f3,f4,f5,f6,f7,f8,f9,g0,g1,g2,g3,g4,g5,g6,g7,g8,g9,h0,h4,h5,h6,h7,h8,h9,i0,i1,i2],defers:= []} w0:=by
 have HQ:=ι hQ;clear hQ;refine wp_loop_ghost_k (fun k a wr=>∀ Φ:Act→Prop,(∀ ⦃s0 s2 s3 s4 s6 s7 s8 s9 s1 s5 a0 a2 a3 a4 a5 a6 a7 a8 a9 b0 b1 b2 b3 b4 b5 b6 b7 b8 b9 c0 c1 c2 c3 c4 c5 c6 c7 c8 c9 d0 d1 d2 d3 d4 d5 d6 d7 d8 e2 e3 e4 e5 e6 e7 e8 e9 f0 f1 f2 f3 f4 f5 f6 f7 f8 f9 g0 g1 g2 g3 g4 g5 g6 g7 g8 g9 h0 h4 h5 h6 h7 h8 h9 i0 i1 i2:Value⦄ (i:Nat) (S:List UInt8),(i+k=D.length∧S=T++(D.take i).flatten∧S.length≤T.length+32*i∧wr=w0)→Φ {tmps:=#[s0,.pointer (some ⟨B,0,none⟩),s2,s3,s4,.string ⟨S.toArray⟩,s6,s7,s8,s9,s1,s5,a0,a2,a3,a4,a5,a6,a7,a8,a9,b0,b1,b2,b3,b4,b5,b6,b7,b8,b9,c0,c1,c2,c3,c4,c5,c6,c7,c8,c9,d0,d1,d2,d3,d4,d5,d6,d7,d8,.slice A D.length c,.int .i64 D.length,.int .i64 (i:Int),e2,e3,e4,e5,e6,e7,e8,e9,f0,f1,f2,f3,f4,f5,f6,f7,f8,f9,g0,g1,g2,g3,g4,g5,g6,g7,g8,g9,h0,h4,h5,h6,h7,h8,h9,i0,i1,i2],defers:= []})→Φ a) (D.length) ?_ ?_
 ·refine fun Φ hΦ=>hΦ (0) (T) ?_;exact ⟨by omega,by simp,by omega,rfl⟩
 ·intro k1 a1 wr1 hI1 J1 K1 hJ1 hK1;refine hI1 (fun a=>Code.wp _ _ _ a _) ?_;clear hI1 a1;iterate 86 (intro _)
  intro i S hrel
  show Code.wp _ _ _ _ _
  conv=>arg 2; whnf
  obtain ⟨h1,h2,h3,rfl⟩:=hrel;by_cases hi:i<D.length
  ·obtain ⟨ad,rfl,hbl,hcell⟩:=HR.2 (by omega);have q0:=hcell i _ (strv_at hi);have hi1:(i:Int)<D.length:=by omega
   have hs2:(D.take (i+1)).flatten=(D.take i).flatten++D[i]:=by
    rw [List.take_succ_eq_append_getElem hi,List.flatten_append]; simp
   have hl:=h32 _ (List.getElem_mem hi);have HI:=ι (And.intro h1 (And.intro h2 hs2));clear hcell HR h1 h2 hs2 h32;generalize D[i]=s at *;have hsum:S.length+s.length≤9223372036854775807:=by omega
   go_wp2
   refine Handed.intro (D.length - (i+1)) ?_ (hJ1 _ _ _ (fun Φ hΦ=>hΦ (i+1) (S++s) ?_))
   ·have:=HI.out.1; omega
   ·exact ⟨by have:=HI.out.1; omega,by rw [HI.out.2.2,HI.out.2.1,List.append_assoc],by rw [List.length_append]; omega,rfl⟩
  ·have e:D.take i=D:=List.take_of_length_le (by omega);have hi2:((i:Int)<D.length)=False:=by simp; omega
   rw [e] at h2;have E2:=ι h2;clear h2 e h1 HR;go_wp2
   exact HQ.out _ E2.out
def nodeText (k:Nat) (p v:List UInt8) (K:List (List UInt8)):List UInt8:=
 if k=3 then 3::UInt8.ofNat (bitsTo K 16 / 256)::UInt8.ofNat (bitsTo K 16)::((kidsW K).flatten++textW v)
 else UInt8.ofNat k::(textW (Nib.packed p (decide (k=1)))++if k=1 then textW v else K.getD 0 [])
def EncEnd (w:World) (s:List UInt8) (c:Int) (e:Ending) (w':World):Prop:=e= .returned (.tuple #[s,c])∧Below w.heap.size w w'
theorem ofNat_mod256 (n:Nat):UInt8.ofNat (n % 256)=UInt8.ofNat n:=UInt8.toNat_inj.1 (by simp)
theorem flatten_len {n:Nat}:∀ D:List (List UInt8),(∀ s∈D,s.length≤n)→D.flatten.length≤D.length*n
 | [],_=>by simp
 |a::D,h=>by
  have:=flatten_len D (fun s hs=>h s (by simp [hs]))
  have:=h a (by simp)
  rw [List.flatten_cons,List.length_append,List.length_cons,Nat.succ_mul]; omega
theorem textW_len (s:List UInt8) (h:s.length<9223372036854775808):(textW s).length≤9+s.length:=by
 have:=numW_len s.length h
 unfold textW; rw [List.length_append]; omega
theorem kidsW_32 {K:List (List UInt8)} (h:sumsOk (kidsW K)=true):∀ s∈kidsW K,s.length≤32:=by
 intro s hs;unfold sumsOk at h;rw [List.all_eq_true] at h
 have:=h s hs
 simp at this; omega
theorem encode_branch (v:List UInt8) (K:List (List UInt8)) (hK:K.length=16) (hKs:∀ s∈K,s.length≤9223372036854775807) (hf:fineN 3 [] v K=true) (w:World):
  Calls Tryz.prog 163 #[.agg (nodeV 3 [] v K).toArray] w (EncEnd w (nodeText 3 [] v K) 0):=by
 have hf2:sumsOk (kidsW K)=true∧v.length≤32:=by
  simp [fineN] at hf
  exact ⟨hf.1.1,hf.2⟩
 have HP:Hid (∀ s w',nodeText 3 [] v K=s→Below w.heap.size w w'→EncEnd w (nodeText 3 [] v K) 0 (.returned (.tuple #[s,ζ])) w'):=ι (fun b w' h1 h2=>⟨by rw [h1],h2⟩);have HC:=node_Check 3 [] v (by simp) (by omega) K hK hKs;rw [hf] at HC;have HN:=node_Kids (nk:= .int .i64 3) (np:= .string ⟨([]:List UInt8).toArray⟩) (nv:= .string ⟨v.toArray⟩) (h1:=rfl) (h2:=rfl) (h3:=rfl) (K:=K) (hK:=hK);have HT:=code_Text v (by omega);have HF:Hid (nodeText 3 [] v K=3::UInt8.ofNat (bitsTo K 16 / 256)::UInt8.ofNat (bitsTo K 16)::((kidsW K).flatten++textW v)):=ι (by simp [nodeText]);have H32:=ι (kidsW_32 hf2.1);have hv:=hf2.2;have HSz:=ι (nodeV_size (k:=3) (p:= []) (v:=v) hK);have HSk:=ι (strv_length K);clear hf hf2;generalize EncEnd w (nodeText 3 [] v K) 0=P at HP ⊢;generalize nodeText 3 [] v K=S0 at *;go_enter Tryz.func163,Tryz.ntmps163
 go_upto_region 1 with fail
 have SZ:(Tryz.prog.info? 133).map (·.size)=some (nodeV 3 [] v K).length:=by rw [HSz.out]; exact info_node
 have SZ2:(Tryz.prog.info? 131).map (·.size)=some (strv K).length:=by rw [HSk.out,hK]; exact size_arr
 have F0:Hid (Blk (w.alloc (.cells (nodeV 3 [] v K).toArray 133)) w.heap.size 133 (nodeV 3 [] v K).toArray∧Below w.heap.size w (w.alloc (.cells (nodeV 3 [] v K).toArray 133))):=ι ⟨Blk.new _ _ _,by go_grown⟩;generalize w.alloc (.cells (nodeV 3 [] v K).toArray 133)=W0 at F0 ⊢;have HB:=ι (show w.heap.size<W0.heap.size from F0.out.1.lt);obtain ⟨_,_,_,_,RA⟩:=NodeAt.of (C:= []) (by rw [List.append_nil]; exact F0.out.1);generalize hB:w.heap.size=B at *;clear hB;go_upto_region 2 with (first|(refine wpList_load_mid rfl 133 _ rfl B 0 rfl _ _ RA Tryz.underlying133 rfl SZ ?_)|(go_at_call 152; refine (HC _).mono ?_; rintro e w1 ⟨rfl,hb⟩))
 have F1:=ι (show Below B w w1 from F0.out.2.trans (hb.mono (Nat.le_of_lt HB.out)));have HB1:=ι (Nat.lt_of_lt_of_le HB.out hb.size);have BK1:=ι (F0.out.1.below hb HB.out);clear hb F0 RA HB;obtain ⟨q0,q1,q2,RK,RA⟩:=NodeAt.of (C:= []) (by rw [List.append_nil]; exact BK1.out);have cv:=conv1 w1 3 (by omega) (by omega);go_upto_region 5 with fail
 have F2:Hid (Blk (w1.alloc (.cells #[.int .u8 3] 5)) B 133 (nodeV 3 [] v K).toArray∧Below B w (w1.alloc (.cells #[.int .u8 3] 5))∧B<(w1.alloc (.cells #[.int .u8 3] 5)).heap.size):=ι ⟨BK1.out.alloc _,F1.out.alloc (Nat.le_of_lt HB1.out) _,by have:=HB1.out; simp; omega⟩;clear cv q0 q1 q2 RK RA;generalize World.alloc w1 _=w2 at F2 ⊢;clear F1 HB1 BK1;obtain ⟨q0,q1,q2,RK,RA⟩:=NodeAt.of (C:= []) (by rw [List.append_nil]; exact F2.out.1);go_wp2_with (refine wpList_load_mid rfl 131 _ rfl B 3 rfl _ _ RK Tryz.underlying131 rfl SZ2 ?_)
 refine node_bits K hK w2 _ B _ ?_ _ _ _ _ _ _ _ _ _ _ _ _ _ _ _ _ _ _ _ _ _ _ _ _ _ _ _ _ _ _ _ _ _ _ _ _ _ _ _ _ _ _ _ _ _ _ _ _ _ _ _ _ _ _ _ _ _ _ _ _ _ _ _ _ _ _ _ _ _ _ _ _ _ _ _ _ _ _ _ _ _ _ _ _ _ _;intro s0 s2 s3 s4 s7 s8 s9 s10 s11 s12 s13 s14 s15 s16 s17 s18 s19 s20 s21 s22 s23 s24 s25 s26 s27 s28 s29 s30 s31 s32 s33 s34 s35 s36 s37 s38 s39 s40 s41 s42 s43 s44 s45 s46 s47 s48 s49 s50 s51 s52 s53 s54 s55 s56 s57 s58 s59 s60 s61 s62 s63 s64 s65 s66 s67 s68 s69 s70 s71 s72 s73 s74 s75 s76 s77 s78 s79 s80 s81 s82 s83 s84 s85 s86 s87 s88 s89 s90 n hn;have hn2:n≤65535:=by rw [hn]; have:=(bitsTo_mod K 16 (by omega)).2; omega
 have HN2:=ι hn;clear hn;have cv:=conv2 w2 ((n:Int) / 256) ((n:Int) % 256) (by omega) (by omega) (by omega) (by omega);go_upto_region 14 with fail
 have F3:Hid (Blk (w2.alloc (.cells #[.int .u8 ((n:Int) / 256),.int .u8 ((n:Int) % 256)] 5)) B 133 (nodeV 3 [] v K).toArray∧Below B w (w2.alloc (.cells #[.int .u8 ((n:Int) / 256),.int .u8 ((n:Int) % 256)] 5))∧B<(w2.alloc (.cells #[.int .u8 ((n:Int) / 256),.int .u8 ((n:Int) % 256)] 5)).heap.size):=ι ⟨F2.out.1.alloc _,F2.out.2.1.alloc (Nat.le_of_lt F2.out.2.2) _,by have:=F2.out.2.2; simp; omega⟩;clear cv q0 q1 q2 RK RA;generalize World.alloc w2 _=w3 at F3 ⊢;clear F2;obtain ⟨q0,q1,q2,RK,RA⟩:=NodeAt.of (C:= []) (by rw [List.append_nil]; exact F3.out.1);have ET:Hid (#[(3:UInt8),UInt8.ofNat (n / 256),UInt8.ofNat (n % 256)]= [3,UInt8.ofNat (n / 256),UInt8.ofNat n].toArray):=ι (by rw [ofNat_mod256]);rw [ET.out];generalize hT: [3,UInt8.ofNat (n / 256),UInt8.ofNat n]=T;have HT3:=ι hT;clear hT;go_wp2_with (first|(refine wpList_load_mid rfl 133 _ rfl B 0 rfl _ _ RA Tryz.underlying133 rfl SZ ?_)|(go_at_call 138; refine (HN _).mono ?_; rintro e w4 ⟨A,c,m,rfl,hm,own,hb⟩; have OWN:=ι (And.intro hm own); clear hm own))
 have F4:Hid (Blk w4 B 133 (nodeV 3 [] v K).toArray∧Below B w w4∧B<w4.heap.size):=ι ⟨F3.out.1.below hb F3.out.2.2,F3.out.2.1.trans (hb.mono (Nat.le_of_lt F3.out.2.2)),Nat.lt_of_lt_of_le F3.out.2.2 hb.size⟩;clear hb q0 q1 q2 RK RA;obtain ⟨q0,q1,q2,RK,RA⟩:=NodeAt.of (C:= []) (by rw [List.append_nil]; exact F4.out.1);have hk16:(kidsW K).length≤16:=by
  have:=List.length_filter_le (fun s:List UInt8=> !s.isEmpty) K
  unfold kidsW; omega
 obtain ⟨hm,own⟩:=OWN.out;clear OWN;subst hm;have RS:=Reads.of_own own;refine node_cat (kidsW K) hk16 H32.out T (by rw [←HT3.out]; simp) w4 A c RS _ B ?_ _ _ _ _ _ _ _ _ _ _ _ _ _ _ _ _ _ _ _ _ _ _ _ _ _ _ _ _ _ _ _ _ _ _ _ _ _ _ _ _ _ _ _ _ _ _ _ _ _ _ _ _ _ _ _ _ _ _ _ _ _ _ _ _ _ _ _ _ _ _ _ _ _ _ _ _ _ _ _ _ _ _ _ _ _ _;clear RS own;intro s0 s2 s3 s4 s6 s7 s8 s9 s10 s11 s12 s13 s14 s15 s16 s17 s18 s19 s20 s21 s22 s23 s24 s25 s26 s27 s28 s29 s30 s31 s32 s33 s34 s35 s36 s37 s38 s39 s40 s41 s42 s43 s44 s45 s46 s47 s48 s49 s50 s51 s52 s53 s54 s55 s56 s57 s58 s59 s60 s61 s62 s63 s64 s65 s66 s67 s68 s69 s70 s71 s72 s73 s74 s75 s76 s77 s78 s79 s80 s81 s82 s83 s84 s85 s86 s87 s88 s89 s90 S hS;have hl:S.length≤100000:=by
  have:=flatten_len _ H32.out
  have h3:T.length=3:=by rw [←HT3.out]; rfl
  rw [hS,List.length_append]
  have:=Nat.mul_le_mul_right 32 hk16
  omega
 have hl2:(textW v).length≤100000:=by have:=textW_len v (by omega); omega
 have HS:=ι hS;clear hS;generalize textW v=tv at *;have hsum:S.length+tv.length≤9223372036854775807:=by omega
 go_wp2_with (go_at_call 124; refine (HT _).mono ?_; rintro e w5 ⟨rfl,hb⟩)
 exact HP.out _ _ (by rw [HF.out,HS.out,←HT3.out,←HN2.out]; rfl) (F4.out.2.1.trans (hb.mono (Nat.le_of_lt F4.out.2.2)))
theorem encode_leaf (p v:List UInt8) (K:List (List UInt8)) (hK:K.length=16) (hKs:∀ s∈K,s.length≤9223372036854775807) (hf:fineN 1 p v K=true) (w:World):
  Calls Tryz.prog 163 #[.agg (nodeV 1 p v K).toArray] w (EncEnd w (nodeText 1 p v K) 0):=by
 have hf2:(Nib.fit p=true∧p.length≤16)∧v.length≤32:=by
  simp [fineN,pathOk] at hf
  exact ⟨hf.1.1.2,hf.2⟩
 have HP:Hid (∀ s w',nodeText 1 p v K=s→Below w.heap.size w w'→EncEnd w (nodeText 1 p v K) 0 (.returned (.tuple #[s,ζ])) w'):=ι (fun b w' h1 h2=>⟨by rw [h1],h2⟩);have HC:=node_Check 1 p v (by omega) (by omega) K hK hKs;rw [hf] at HC;have hp16:=hf2.1.2;have HPk:=nib_Pack p true;rw [show Nib.pack p true=(Nib.packed p true,0) by unfold Nib.pack; rw [hf2.1.1]; rfl] at HPk;have hpl:=Nib.packed_length p true;have HT:=code_Text v (by omega);have HT2:=code_Text (Nib.packed p true) (by omega);have HF:Hid (nodeText 1 p v K=1::(textW (Nib.packed p true)++textW v)):=ι (by simp [nodeText]);have hv:=hf2.2;have hl1:=textW_len v (by omega);have hl2:=textW_len (Nib.packed p true) (by omega);have hl1':(textW v).length≤1000:=by omega
 have hl2':(textW (Nib.packed p true)).length≤1000:=by omega
 have HSz:=ι (nodeV_size (k:=1) (p:=p) (v:=v) hK);clear hf hf2 hpl hl1 hl2;generalize textW v=tv at *;generalize textW (Nib.packed p true)=tp at *;generalize Nib.packed p true=pk at *;generalize EncEnd w (nodeText 1 p v K) 0=P at HP ⊢;generalize nodeText 1 p v K=S0 at *;go_enter Tryz.func163,Tryz.ntmps163
 go_upto_region 1 with fail
 have SZ:(Tryz.prog.info? 133).map (·.size)=some (nodeV 1 p v K).length:=by rw [HSz.out]; exact info_node
 have F0:Hid (Blk (w.alloc (.cells (nodeV 1 p v K).toArray 133)) w.heap.size 133 (nodeV 1 p v K).toArray∧Below w.heap.size w (w.alloc (.cells (nodeV 1 p v K).toArray 133))):=ι ⟨Blk.new _ _ _,by go_grown⟩;generalize w.alloc (.cells (nodeV 1 p v K).toArray 133)=W0 at F0 ⊢;have HB:=ι (show w.heap.size<W0.heap.size from F0.out.1.lt);obtain ⟨_,_,_,_,RA⟩:=NodeAt.of (C:= []) (by rw [List.append_nil]; exact F0.out.1);generalize hB:w.heap.size=B at *;clear hB;go_upto_region 2 with (first|(refine wpList_load_mid rfl 133 _ rfl B 0 rfl _ _ RA Tryz.underlying133 rfl SZ ?_)|(go_at_call 152; refine (HC _).mono ?_; rintro e w1 ⟨rfl,hb⟩))
 have F1:=ι (show Below B w w1 from F0.out.2.trans (hb.mono (Nat.le_of_lt HB.out)));have HB1:=ι (Nat.lt_of_lt_of_le HB.out hb.size);have BK1:=ι (F0.out.1.below hb HB.out);clear hb F0 RA HB;obtain ⟨q0,q1,q2,RK,RA⟩:=NodeAt.of (C:= []) (by rw [List.append_nil]; exact BK1.out);have cv:=conv1 w1 1 (by omega) (by omega);go_upto_region 5 with fail
 have F2:Hid (Blk (w1.alloc (.cells #[.int .u8 1] 5)) B 133 (nodeV 1 p v K).toArray∧Below B w (w1.alloc (.cells #[.int .u8 1] 5))∧B<(w1.alloc (.cells #[.int .u8 1] 5)).heap.size):=ι ⟨BK1.out.alloc _,F1.out.alloc (Nat.le_of_lt HB1.out) _,by have:=HB1.out; simp; omega⟩;clear cv q0 q1 q2 RK RA;generalize World.alloc w1 _=w2 at F2 ⊢;clear F1 HB1 BK1;obtain ⟨q0,q1,q2,RK,_⟩:=NodeAt.of (C:= []) (by rw [List.append_nil]; exact F2.out.1);go_upto_region 21 with (go_at_call 195; refine (HPk _ (by omega)).mono ?_; rintro e w3 ⟨rfl,hb⟩)
 have F3:Hid (Blk w3 B 133 (nodeV 1 p v K).toArray∧Below B w w3∧B<w3.heap.size):=ι ⟨F2.out.1.below hb F2.out.2.2,F2.out.2.1.trans (hb.mono (Nat.le_of_lt F2.out.2.2)),Nat.lt_of_lt_of_le F2.out.2.2 hb.size⟩;clear hb q0 q1 q2 RK;obtain ⟨q0,q1,q2,RK,_⟩:=NodeAt.of (C:= []) (by rw [List.append_nil]; exact F3.out.1);go_upto_region 22 with (go_at_call 124; refine (HT2 _).mono ?_; rintro e w4 ⟨rfl,hb⟩)
 have F4:Hid (Blk w4 B 133 (nodeV 1 p v K).toArray∧Below B w w4∧B<w4.heap.size):=ι ⟨F3.out.1.below hb F3.out.2.2,F3.out.2.1.trans (hb.mono (Nat.le_of_lt F3.out.2.2)),Nat.lt_of_lt_of_le F3.out.2.2 hb.size⟩;clear hb q0 q1 q2 RK;obtain ⟨q0,q1,q2,RK,_⟩:=NodeAt.of (C:= []) (by rw [List.append_nil]; exact F4.out.1);have hs1:tp.length+tv.length≤9223372036854775000:=by omega
 go_wp2_with (go_at_call 124; refine (HT _).mono ?_; rintro e w5 ⟨rfl,hb⟩)
 exact HP.out _ _ HF.out (F4.out.2.1.trans (hb.mono (Nat.le_of_lt F4.out.2.2)))
end
end Go.Proofs.YtnelhjfjkkdoaaaGreatDoor